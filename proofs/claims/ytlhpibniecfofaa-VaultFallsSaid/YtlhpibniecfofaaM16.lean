/- Texts laid together: VaultSame VaultAct VaultOut. -/
import Derived.ChangeSlices
import Derived.Test.YtlhpibniecfofaaM14
import Derived.Test.YtlhpibniecfofaaM15
section
/- The law VaultSame. -/
set_option linter.unusedSimpArgs false
set_option linter.unusedVariables false
namespace Go.Proofs.Ytlhpibniecfofaa
open Go.RowKit Go.Ofp
set_option linter.unusedVariables false
set_option maxRecDepth 100000
set_option maxHeartbeats 4000000

section
open Go.WideShapes
variable {H : Type} {enc : TypeId × Value → H}
end
end Go.Proofs.Ytlhpibniecfofaa
end

section
/- Acts of vaults in memory, and opened. (Printed out of XRing9 by a program.) -/
set_option linter.unusedSimpArgs false
set_option linter.unusedVariables false
namespace Go.Proofs.Ytlhpibniecfofaa
open Go.RowKit Go.Ofp Go.WideShapes
set_option linter.unusedVariables false
set_option maxRecDepth 100000
set_option maxHeartbeats 4000000
section
variable {H : Type} {enc : TypeId × Value → H}
theorem read_ga39 {w : World} {cs : List Value} (h : ∃ fuel x, DataW.trod enc Try.prog w 0 (fun _ => true) true fuel 113 cs = some x) : ∃ x : Ga, cs = gaRow x ∧ GaMem w x := by
  obtain ⟨fuel, x, h⟩ := h
  obtain ⟨hl, hf⟩ := field_read Try.underlying113 h
  have hc : Try.prog.cellsOf 113 = 5 := by kernel_rfl
  have hc1 : Try.prog.cellsOf 33 = 1 := by kernel_rfl
  rw [hc] at hl
  obtain ⟨n0, y0, h0⟩ := hf 0 _ rfl
  obtain ⟨n1, y1, h1⟩ := hf 1 _ rfl
  obtain ⟨n2, y2, h2⟩ := hf 2 _ rfl
  obtain ⟨n3, y3, h3⟩ := hf 3 _ rfl
  obtain ⟨n4, y4, h4⟩ := hf 4 _ rfl
  obtain ⟨z0, e0, w0⟩ := field_int Try.underlying3 (by kernel_rfl) (by rw [hl]; decide) h0
  obtain ⟨z1, e1, w1⟩ := field_int Try.underlying3 (by kernel_rfl) (by rw [hl]; decide) h1
  obtain ⟨z2, e2, w2⟩ := field_string (o := 2) Try.underlying9 (by kernel_rfl) (by rw [hl]; decide) h2
  have h3' : DataW.trod enc Try.prog w 0 (fun _ => true) true n3 33 ((cs.drop 3).take (Try.prog.cellsOf 33)) = some y3 := h3
  rw [hc1] at h3'
  obtain ⟨z4, e4, w4⟩ := field_int (o := 4) Try.underlying5 (by kernel_rfl) (by rw [hl]; decide) h4
  match cs, hl with
  | [c0, c1, c2, c3, c4], _ =>
    simp at e0 e1 e2 h3' e4
    subst e0 e1 e2 e4
    obtain ⟨cc, hcc⟩ := wf_u8 w4
    rw [hcc]
    obtain ⟨d4, p4⟩ := y3
    rcases Go.ChangeShapes.open_ints Try.underlying33 Try.underlying3 (by kernel_rfl) h3' with ⟨hcs, _⟩ | ⟨x, l, c, zs, hcs, _, hl', hm, hz, _, hcell, hwz⟩
    · simp only [List.cons.injEq, and_true] at hcs
      subst hcs
      exact ⟨⟨z0, z1, z2, none, 0, [], cc⟩, rfl, ⟨Sl.nil _ _, Nat.le_refl _, Nat.zero_le _, by simp, wf_i64 w1, wf_i64 w0, w2⟩⟩
    · simp only [List.cons.injEq, and_true] at hcs
      subst hcs
      obtain ⟨m, hml, hms, h5, h6, h7⟩ := row_ints (w := w) (a := some x) (len := l) (cap := c) (zs := zs) (.inr ⟨x, rfl, hl', hm, by simpa using hz, hcell, hwz⟩)
      subst hml
      exact ⟨⟨z0, z1, z2, some x, c, m, cc⟩, rfl, ⟨hms, h5, h6, h7, wf_i64 w1, wf_i64 w0, w2⟩⟩
theorem open_gas39 {r : Reach} {b0 : Nat} {v : Value} {d : DataW H} {ms : List MemPlace} {w : World}
    (ho : Value.okWide Try.prog w r b0 110 v) (ht : DataW.Trod enc Try.prog w 0 (fun _ => true) true 110 v d ms) :
    ∃ a n cap l, v = .slice a n cap ∧ Gas w a n cap l := by
  have hc : Try.prog.cellsOf 113 = 5 := by kernel_rfl
  obtain ⟨b, n, cb, rfl, hn, hm, rows, hrl, hrw, hrd⟩ := open_rows Try.underlying110 ho ht (by rw [hc]; decide)
  obtain ⟨qs, rfl, hqs⟩ := gas_of fun cs h => read_ga39 (hrd cs h)
  rw [List.length_map] at hrl
  exact ⟨b, n, cb, qs, rfl, ⟨hrw.sl, hrl, hn, hm, hqs⟩⟩
end

def ShortQ39 (n : Nat) (l : List Ga) : Prop := n ≤ 40 ∧ ∀ x ∈ l, x.s.size ≤ 500 ∧ x.keep.length ≤ 60
theorem long39_any (a : Option Addr) (n c : Nat) (l : List Ga) (w : World) (h : Gas w a n c l) :
    Calls Try.prog 65 #[.slice a n c] w fun r w' => LongR r (ShortQ39 n l) ∧ w = w' := by
  have hnm : n ≤ maxLen := Nat.le_trans h.le h.cm
  have e := h.len
  unfold maxLen at hnm
  by_cases hn : n ≤ 40
  · replace e := Lib.hid e
    replace h := Lib.hid h
    go_enter Try.func65, Try.ntmps65
    go_wp2_with fail
    go_loopg [3] n (fun gk vi wr => ∃ j : Nat, j + gk = n ∧ vi = .int .i64 (j : Nat) ∧ Hid (∀ x ∈ l.take j, x.s.size ≤ 500 ∧ x.keep.length ≤ 60) ∧ w = wr)
    case atStart => exact ⟨0, by omega, rfl, Lib.hid (by simp), rfl⟩
    case round =>
      obtain ⟨j, hj, rfl, hI, rfl⟩ := hrel
      by_cases hlt : j < n
      · have hj1 : j < l.length := by have := e.out; omega
        obtain ⟨b1, o1, rfl, hc⟩ := h.out.get j hj1
        have z2 := hc 2 _ rfl
        have z3 := hc 3 _ rfl
        rw [show o1 + (j * 5 + 2) = o1 + j * 5 + 2 by omega] at z2
        rw [show o1 + (j * 5 + 3) = o1 + j * 5 + 3 by omega] at z3
        clear hc
        have hm := h.out.mem l[j] (List.getElem_mem hj1)
        have hsm := hm.text
        have hkm := Nat.le_trans hm.le hm.cm
        unfold maxLen at hsm hkm
        clear hm
        by_cases hs : l[j].s.size ≤ 500
        · by_cases hk : l[j].keep.length ≤ 60
          · have hI2 : ∀ x ∈ l.take (j + 1), x.s.size ≤ 500 ∧ x.keep.length ≤ 60 := by
              rw [List.take_succ_eq_append_getElem hj1]
              intro s hs'
              rcases List.mem_append.1 hs' with h' | h'
              · exact hI.out s h'
              · simp at h'
                subst h'
                exact ⟨hs, hk⟩
            replace hI2 := Lib.hid hI2
            generalize l[j] = x at z2 z3 hs hsm hk hkm
            clear hI
            go_wp2_with fail
            go_roundg (n - (j + 1))
            case measure => omega
            case rel => exact ⟨j + 1, by omega, by go_num, hI2, rfl⟩
          · have hk2 : 60 < l[j].keep.length := by omega
            have hnQ := Lib.hid (show ¬ ShortQ39 n l from fun q => hk (q.2 _ (List.getElem_mem hj1)).2)
            generalize l[j] = x at z2 z3 hs hsm hk2 hkm
            clear hI hk
            go_wp2_with fail
            go_ret
            exact ⟨.inr ⟨hnQ.out, rfl⟩, rfl⟩
        · have hs2 : 500 < l[j].s.size := by omega
          have hnQ := Lib.hid (show ¬ ShortQ39 n l from fun q => hs (q.2 _ (List.getElem_mem hj1)).1)
          generalize l[j] = x at z2 z3 hs2 hsm hkm
          clear hI hs
          go_wp2_with fail
          go_ret
          exact ⟨.inr ⟨hnQ.out, rfl⟩, rfl⟩
      · have hI2 := hI.out
        rw [List.take_of_length_le (by have := e.out; omega)] at hI2
        replace hI2 := Lib.hid hI2
        clear hI
        go_wp2_with fail
        go_ret
        exact ⟨.inl ⟨⟨hn, hI2.out⟩, rfl⟩, rfl⟩
  · go_enter Try.func65, Try.ntmps65
    go_wp2_with fail
    go_ret
    exact ⟨.inr ⟨fun q => hn q.1, rfl⟩, rfl⟩
end Go.Proofs.Ytlhpibniecfofaa
end

section
/- VaultFalls: what an act leaves behind, whatever falls (plain law). -/
set_option linter.unusedSimpArgs false
set_option linter.unusedVariables false
namespace Go.Proofs.Ytlhpibniecfofaa
open Go.RowKit Go.Ofp
set_option linter.unusedVariables false
theorem split_len {l m : List ByteArray} {t : ByteArray} (h : splitB l = some (t, m)) : m.length + 1 ≤ l.length := by
  cases l with
  | nil => cases h
  | cons s l =>
    rw [splitB] at h
    split at h
    · cases h
    · obtain ⟨m', e, k⟩ := Option.map_eq_some_iff.1 h
      cases k
      have := vsteps_len e (Nat.le_refl _)
      simp only [List.length_cons]
      omega
theorem founds_len {d : Dk} {n : Nat} {x : Rt} {l : List ByteArray} {t : Nat} (h : Founds d n x l t) : l.length ≤ n := by
  have hr : (d.vring x).n = n - 2 := by simp [Dk.vring, h.live.sec]
  have hh : (d.vring x).head = x.head.toNat := rfl
  have := h.runs.le (by omega)
  omega
theorem Fit.vrenew {d : Dk} {n k : Nat} (h : d.Fit n k) (r : Rg) (x : Rt) (s : ByteArray) : (d.vrenew r x false s).2.1.Fit n (k + manyB (s.size + 1) + 1) := by
  have hv := h.vadd r false (wholeB s)
  rw [whole_size] at hv
  unfold Dk.vrenew
  rw [if_neg (by simp)]
  split
  · exact h.mono (by omega)
  · split
    · split
      · exact hv.store _
      · exact hv.store _
    · exact hv.mono (by omega)
/-- What a round begins with. -/
def FallI (i : Nat) (d : Dk) (x : Rt) (r : Rg) (text : ByteArray) (recs : List ByteArray) : Prop := ∃ L, Lies d 30 x r L ∧ splitB L = some (text, recs) ∧ d.Fit 30 0 ∧ x.seq ≤ 2 + 3 * i ∧ x.life ≤ 2 + 3 * i ∧ recs.length ≤ 30
/-- What an act leaves behind, whatever falls. -/
def Falls39 (i : Nat) (keep : List Int) (d : Dk) (er : Int) (text : ByteArray) (recs : List ByteArray) (nt : ByteArray) (nrecs : List ByteArray) : Prop := d.Fit 30 100000 ∧ nrecs.length ≤ 31 ∧ (er = 0 ∨ er = 15 ∨ er = 8) ∧ ∃ x l t text' m', Founds (d.crash keep) 30 x l t ∧ splitB l = some (text', m') ∧ (d.crash keep).Fit 30 0 ∧ x.seq ≤ 3 + 3 * i ∧ x.life ≤ 3 + 3 * i ∧ m'.length ≤ 30 ∧ ((text' = text ∧ m' = recs ∧ er ≠ 0) ∨ (text' = nt ∧ m' = nrecs ∧ er ≠ 8))
theorem falls_out {i : Nat} {keep : List Int} {d : Dk} {er : Int} {text : ByteArray} {recs : List ByteArray} {nt : ByteArray} {nrecs : List ByteArray} {k : Nat} (hfit : d.Fit 30 k) (hk : k ≤ 100000) (hn : nrecs.length ≤ 31) (her : er = 0 ∨ er = 15 ∨ er = 8) {x : Rt} {l : List ByteArray} {t : Nat} {text' : ByteArray} {m' : List ByteArray} (hF : Founds (d.crash keep) 30 x l t) (hs : splitB l = some (text', m')) (h1 : x.seq ≤ 3 + 3 * i) (h2 : x.life ≤ 3 + 3 * i) (h : (text' = text ∧ m' = recs ∧ er ≠ 0) ∨ (text' = nt ∧ m' = nrecs ∧ er ≠ 8)) : Falls39 i keep d er text recs nt nrecs :=
  ⟨hfit.mono hk, hn, her, x, l, t, text', m', hF, hs, fit0 (hfit.crash keep) hF.wait, h1, h2, by have := split_len hs; have := founds_len hF; omega, h⟩
theorem many_500v {n : Nat} (h : n ≤ 501) : manyB n ≤ 10 := by unfold manyB; split <;> omega
theorem add39 {i : Nat} {d : Dk} {x : Rt} {r : Rg} {text : ByteArray} {recs : List ByteArray} (h : FallI i d x r text recs) (hi : i ≤ 1000) {f : Int} (hf : -9223372036854775808 ≤ f ∧ f ≤ 9223372036854775807) (keep : List Int) {s : ByteArray} (hs : s.size ≤ 500) :
    Falls39 i keep ((d.fz f).vmore r false s).2.1 ((d.fz f).vmore r false s).2.2.2 text recs text (recs ++ [s]) := by
  obtain ⟨L, hL, hsp, hfit, h1, h2, h3⟩ := h
  have e : (d.fz f).vmore r false s = (d.fz f).vadd r false (stepB s) := by rw [Dk.vmore, if_neg (by simp)]
  rw [e]
  obtain ⟨l', t, hF, hor⟩ := hL.fall_add (stepB s) hf keep (by omega)
  have hff : ((d.fz f).vadd r false (stepB s)).2.1.Fit 30 (0 + manyB (stepB s).size) := (hfit.fused f hf).vadd r false (stepB s)
  have hm : 0 + manyB (stepB s).size ≤ 100000 := by rw [step_size]; have := many_500v (n := s.size + 1) (by omega); omega
  have hn : (recs ++ [s]).length ≤ 31 := by simp; omega
  generalize (d.fz f).vadd r false (stepB s) = z at *
  obtain ⟨z1, z2, z3, er⟩ := z
  simp only at hF hor hff ⊢
  rcases hor with ⟨rfl, rfl⟩ | ⟨rfl, rfl | rfl⟩ | ⟨rfl, rfl⟩
  · exact falls_out hff hm hn (by decide) hF (split_snoc hsp s).1 (by omega) (by omega) (.inr ⟨rfl, rfl, by decide⟩)
  · exact falls_out hff hm hn (by decide) hF hsp (by omega) (by omega) (.inl ⟨rfl, rfl, by decide⟩)
  · exact falls_out hff hm hn (by decide) hF (split_snoc hsp s).1 (by omega) (by omega) (.inr ⟨rfl, rfl, by decide⟩)
  · exact falls_out hff hm hn (by decide) hF hsp (by omega) (by omega) (.inl ⟨rfl, rfl, by decide⟩)
theorem renew39 {i : Nat} {d : Dk} {x : Rt} {r : Rg} {text : ByteArray} {recs : List ByteArray} (h : FallI i d x r text recs) (hi : i ≤ 1000) {f : Int} (hf : -9223372036854775808 ≤ f ∧ f ≤ 9223372036854775807) (keep : List Int) {s : ByteArray} (hs : s.size ≤ 500) :
    Falls39 i keep ((d.fz f).vrenew r x false s).2.1 ((d.fz f).vrenew r x false s).2.2.2.2 text recs s [] := by
  obtain ⟨L, hL, hsp, hfit, h1, h2, h3⟩ := h
  obtain ⟨x', l', t, hF, hx1, hx2, hor⟩ := hL.fall_renew s hf keep (by omega) (by omega)
  have hff : ((d.fz f).vrenew r x false s).2.1.Fit 30 (0 + manyB (s.size + 1) + 1) := Fit.vrenew (hfit.fused f hf) r x s
  have hm : 0 + manyB (s.size + 1) + 1 ≤ 100000 := by have := many_500v (n := s.size + 1) (by omega); omega
  have hn : ([] : List ByteArray).length ≤ 31 := by simp
  generalize (d.fz f).vrenew r x false s = z at *
  obtain ⟨z1, z2, z3, z4, er⟩ := z
  simp only at hF hor hff ⊢
  rcases hor with ⟨rfl, rfl⟩ | ⟨rfl, rfl | rfl | rfl⟩ | ⟨rfl, rfl⟩
  · exact falls_out hff hm hn (by decide) hF (split_one s) (by omega) (by omega) (.inr ⟨rfl, rfl, by decide⟩)
  · exact falls_out hff hm hn (by decide) hF hsp (by omega) (by omega) (.inl ⟨rfl, rfl, by decide⟩)
  · exact falls_out hff hm hn (by decide) hF (split_snoc hsp s).2 (by omega) (by omega) (.inl ⟨rfl, rfl, by decide⟩)
  · exact falls_out hff hm hn (by decide) hF (split_one s) (by omega) (by omega) (.inr ⟨rfl, rfl, by decide⟩)
  · exact falls_out hff hm hn (by decide) hF hsp (by omega) (by omega) (.inl ⟨rfl, rfl, by decide⟩)
theorem open39 {i : Nat} {d : Dk} {x : Rt} {r : Rg} {text : ByteArray} {recs : List ByteArray} (h : FallI i d x r text recs) (hi : i ≤ 1000) {f : Int} (hf : -9223372036854775808 ≤ f ∧ f ≤ 9223372036854775807) (keep : List Int) :
    Falls39 i keep ((d.fz f).store ⟨x.seq + 1, x.life + 1, x.head⟩).1 ((d.fz f).store ⟨x.seq + 1, x.life + 1, x.head⟩).2 text recs text recs := by
  obtain ⟨L, hL, hsp, hfit, h1, h2, h3⟩ := h
  obtain ⟨x', hF, hx1, hx2, hor⟩ := hL.founds.fall_open f keep (by omega) (by omega)
  have hff : ((d.fz f).store ⟨x.seq + 1, x.life + 1, x.head⟩).1.Fit 30 (0 + 1) := (hfit.fused f hf).store _
  generalize (d.fz f).store ⟨x.seq + 1, x.life + 1, x.head⟩ = z at *
  obtain ⟨z1, er⟩ := z
  simp only at hF hor hff ⊢
  exact falls_out hff (by decide) (by omega) (by omega) hF hsp (by omega) (by omega) (.inr ⟨rfl, rfl, by omega⟩)
theorem runs_fz {d : Dk} {r : Rg} {a : Int} {i : Nat} {l : List ByteArray} {e : Nat} (h : d.Runs r a i l e) (f : Int) : (d.fz f).Runs r a i l e := by
  induction h with
  | stop h => exact .stop h
  | more h _ ih => exact .more h ih
/-- What is found when the fuse burns is what is found without it. -/
theorem looks_fz {i : Nat} {d : Dk} {x : Rt} {r : Rg} {text : ByteArray} {recs : List ByteArray} (h : FallI i d x r text recs) (hi : i ≤ 1000) (f : Int) : (d.fz f).Looks text recs 0 (some (x, r.tail)) ∧ ¬ (x.seq = 4294967295 ∨ x.life = 4294967295) := by
  obtain ⟨L, hL, hsp, hfit, h1, h2, h3⟩ := h
  have hF := hL.founds
  exact ⟨.ok (d := d.fz f) (by have := hF.live.sec; have := hF.big; simp only [Dk.fz]; omega) (hF.load (d := d)) (runs_fz hF.runs f) hsp, by omega⟩
/-- The round's end. -/
theorem next39 {i : Nat} {d : Dk} {x : Rt} {L : List ByteArray} {text : ByteArray} {m : List ByteArray} {y : Rt} {r : Rg} (hL : Lies d 30 y r L) (hs : splitB L = some (text, m)) (hfit : d.Fit 30 0) (hy : y = ⟨x.seq + 1, x.life + 1, x.head⟩) (h1 : x.seq ≤ 3 + 3 * i) (h2 : x.life ≤ 3 + 3 * i) (h3 : m.length ≤ 30) : FallI (i + 1) d y r text m := by
  subst hy
  exact ⟨L, hL, hs, hfit, by simp only; omega, by simp only; omega, h3⟩
end Go.Proofs.Ytlhpibniecfofaa
end
