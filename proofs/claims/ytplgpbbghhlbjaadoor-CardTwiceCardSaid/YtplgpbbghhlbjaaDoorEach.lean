/- The numbers of a set of bits, one behind the other. -/
import Derived.Test.YtplgpbbghhlbjaaDoorGives
import Derived.Shelf.Abstract
import Derived.Laws.BitsAllLaws
import Derived.Test.YtplgpbbghhlbjaaDoorSt7
import Derived.Test.YtplgpbbghhlbjaaDoorIds2
set_option linter.unusedSimpArgs false
set_option linter.unusedVariables false
namespace Go.Ofp
/-- The library's table. -/
def tzTab : List UInt8 := [0, 1, 28, 2, 29, 14, 24, 3, 30, 22, 20, 15, 25, 17, 4, 8, 31, 27, 13, 23, 21, 19, 16, 7, 26, 12, 18, 6, 11, 5, 10, 9]
/-- The lowest bit's number. -/
def low (n : Nat) : Nat := ((List.range 32).find? fun i => n.testBit i).getD 32
/-- The numbers of a small set. -/
def bitsOf (n : Nat) : List Nat := (List.range 8).filter fun i => n.testBit i
end Go.Ofp
namespace Go.Proofs.YtplgpbbghhlbjaaDoor
open Go.RowKit Go.Ofp
set_option linter.unusedVariables false
set_option maxRecDepth 100000
set_option maxHeartbeats 4000000

theorem tz_fact : ∀ n : Fin 256, n.val ≠ 0 → (tzTab[(bits .and .u32 (n.val : Int) (-(n.val : Int) % 4294967296) * 125613361 % 4294967296 / 134217728).toNat]?).map (·.toNat) = some (low n.val) ∧ low n.val < 8 := by decide +kernel

theorem tz_any (q : Nat) (w : World) (h0 : q ≠ 0) (h : q < 256) (ht : Sl w (some ⟨0, 0, none⟩) (tzTab.map vb)) : Calls Tryd.prog 72 #[.int .u32 q] w fun e w' => e = .returned (.int .i64 (low q : Nat)) ∧ w = w' := by
  have hz : ((q : Int) == 0) = false := by rw [beq_eq_false_iff_ne]; omega
  obtain ⟨h1, h2⟩ := tz_fact ⟨q, h⟩ h0
  simp only at h1 h2
  obtain ⟨x, hx, hx2⟩ := Option.map_eq_some_iff.1 h1
  obtain ⟨hi, hx3⟩ := List.getElem?_eq_some_iff.1 hx
  have hc := ht.add _ (vb x) (by rw [List.getElem?_map, hx]; rfl)
  rw [Addr.add_lit, Nat.zero_add, vb, hx2] at hc
  generalize low q = t at h2 hc ⊢
  clear ht h1 hx hi hx3 hx2 h0 h
  go_enter Tryd.func72, Tryd.ntmps72
  go_wp2_with fail
  go_ret
  exact ⟨rfl, rfl⟩

theorem bits_fact : ∀ n : Fin 256, n.val ≠ 0 → bitsOf n.val = low n.val :: bitsOf (bits .and .u32 (n.val : Int) ((n.val : Int) - 1)).toNat ∧ (bits .and .u32 (n.val : Int) ((n.val : Int) - 1)).toNat < n.val ∧ 0 ≤ bits .and .u32 (n.val : Int) ((n.val : Int) - 1) := by decide +kernel
theorem bits_none : bitsOf 0 = [] := by decide

/-- What the state's cell holds, as a number. -/
def held (b : Nat) (w : World) : Nat := match w.cell? ⟨b, 0, none⟩ with
  | some (.int _ z) => z.toNat
  | _ => 0

theorem held_eq {b : Nat} {w : World} {t : TypeId} {k : IntKind} {q : Nat} (h : Boxed w b t (.int k q)) : held b w = q := by
  unfold held
  rw [h.cell]
  rfl

attribute [local go_sem] Oper.semAt_some in
theorem each1_gives (n : Nat) (hn : 1 ≤ n) (q : Nat) (h : q < 256) (Bn n0 : Nat) (w : World) (hb : Boxed w Bn 22 (.int .u32 q)) (hB : Bn < n0) (h0 : 0 < Bn) (ht : Sl w (some ⟨0, 0, none⟩) (tzTab.map vb)) :
    Gives Fence.wide n Tryd.prog 71 #[.pointer (some ⟨Bn, 0, none⟩)] ((bitsOf q).map fun i => .int .i64 (i : Nat)) n0 Bn w := by
  intro l J W hW hJ hY hJ0
  have hbW : Boxed W Bn 22 (.int .u32 q) := (hW.block Bn hB).trans hb
  have htW : ∀ A B, Below n0 A B → Sl A (some ⟨0, 0, none⟩) (tzTab.map vb) → Sl B (some ⟨0, 0, none⟩) (tzTab.map vb) := by
    intro A B hAB hA i hi
    obtain ⟨b, off, e, hc⟩ := hA i hi
    cases e
    exact ⟨_, _, rfl, (hAB.cell (p := ⟨_, _, none⟩) (by simp only; omega)).trans hc⟩
  have hT := htW _ _ hW ht
  refine callsIn_of_wp Tryd.func71 rfl trivial ?_ rfl
  simp only [Tryd.ntmps71, List.size_toArray, List.length_cons, List.length_nil, Nat.reduceAdd, Nat.reduceSub, Array.replicate_succ, Array.replicate_zero, List.push_toArray, List.append_toArray, List.nil_append, List.cons_append]
  gi_wp2
  gi_loopw [3] (fun _ wr => ∃ k q' : Nat, q' < 256 ∧ k ≤ (bitsOf q).length ∧ Hid (bitsOf q' = (bitsOf q).drop k) ∧ Boxed wr Bn 22 (.int .u32 q') ∧ Hid (Sl wr (some ⟨0, 0, none⟩) (tzTab.map vb)) ∧ J k wr) (fun _ wr => held Bn wr)
  case atStart => exact ⟨0, q, h, Nat.zero_le _, Lib.hid rfl, hbW, Lib.hid hT, hJ0⟩
  case round =>
    obtain ⟨k, q', hq, hk, hd, hbx, hTr, hJk⟩ := hrel
    have hc := hbx.cell
    by_cases hz : q' = 0
    · subst hz
      have hdo := hd.out
      rw [bits_none] at hdo
      have hlen : (bitsOf q).length = k := by
        have := List.drop_eq_nil_iff.1 hdo.symm
        omega
      gi_wp2
      go_end0
      exact ⟨⟨_, rfl⟩, by rw [List.length_map, hlen]; exact hJk⟩
    · obtain ⟨f1, f2, f3⟩ := bits_fact ⟨q', hq⟩ hz
      simp only at f1 f2 f3
      have hdo := hd.out
      rw [f1] at hdo
      have hkl : k < (bitsOf q).length := by
        rcases Nat.lt_or_ge k (bitsOf q).length with h | h
        · exact h
        · rw [List.drop_eq_nil_of_le h] at hdo; cases hdo
      rw [List.drop_eq_getElem_cons hkl] at hdo
      obtain ⟨e1, e2⟩ := List.cons.inj hdo
      have hxs : ((bitsOf q).map fun i => Value.int .i64 (i : Nat))[k]? = some (.int .i64 (low q' : Nat)) := by
        rw [List.getElem?_map, List.getElem?_eq_getElem hkl, e1]
        rfl
      have hzb : ((q' : Int) != 0) = true := by rw [bne_iff_ne]; omega
      obtain ⟨q2, hq2⟩ := Int.eq_ofNat_of_zero_le f3
      rw [hq2, Int.toNat_natCast] at e2 f2
      have cT := Lib.hid (tz_any q' wr hz hq hTr.out)
      obtain ⟨fn, tmps, assign, body, hy, hR⟩ := hY k _ wr hJk hxs
      have hqe := Lib.hid hq2
      have hqm : ((q' : Int) - 1) % 4294967296 = (q' : Int) - 1 := by omega
      replace e2 := Lib.hid e2
      clear hdo hd f1 f3 hq2 e1 hxs
      gi_wp2_with (refine ⟨trivial, ?_⟩; gi_at_call 72; refine (callsIn_wide.2 cT.out).mono ?_; rintro _ _ ⟨rfl, rfl⟩)
      refine hR.mono ?_
      rintro e W3 ⟨rfl, hJ3, hb3⟩
      have hbx3 : Boxed W3 Bn 22 (.int .u32 q') := (hb3.block Bn hB).trans hbx
      have hT3 := htW _ _ hb3 hTr.out
      have hc3 := hbx3.cell
      have hf3 := hbx3.frozen
      gi_wp2
      have hx4 : Boxed (W3.setCell ⟨Bn, 0, none⟩ (.int .u32 q2)) Bn 22 (.int .u32 q2) := hbx3.set _
      have hT4 : Sl (W3.setCell ⟨Bn, 0, none⟩ (.int .u32 q2)) (some ⟨0, 0, none⟩) (tzTab.map vb) := by
        intro i hi
        obtain ⟨b, off, e, hc⟩ := hT3 i hi
        cases e
        exact ⟨_, _, rfl, (((Below.refl Bn W3).setCell (p := ⟨Bn, 0, none⟩) (Nat.le_refl _) _).cell (p := ⟨_, _, none⟩) h0).trans hc⟩
      have hJ4 := hJ _ _ _ hJ3 (grownBy_setCell' W3 Bn (.int .u32 q2))
      go_roundw
      case rel =>
        rw [hqe.out]
        exact ⟨k + 1, q2, by omega, by omega, e2, hx4, Lib.hid hT4, hJ4⟩
      case measure =>
        rw [hqe.out, held_eq hx4, held_eq hbx]
        exact f2

theorem each_any (q : Nat) (w : World) : Calls Tryd.prog 62 #[.int .u32 q] w fun e w' => e = .returned (.func (.func 71) #[] #[.pointer (some ⟨w.heap.size, 0, none⟩)]) ∧ w' = w.alloc (.cells #[.int .u32 q] 22) := by
  go_enter Tryd.func62, Tryd.ntmps62
  go_wp2_with fail
  go_ret
  exact ⟨rfl, rfl⟩

attribute [local go_sem] Oper.semAt_some in
/-- slices.AppendSeq of nothing and whatever iterator. -/
theorem apseq_any (gf : Nat) (lb : Array Value) (eg : ∀ args w, (callFunc gf args).run Tryd.prog w = .ok (.enter gf args) w) (l : List Int) (Bn : Nat) (hl : l.length ≤ 100000) (w : World) (hBn : Bn < w.heap.size) (hs : Gives Fence.wide 9 Tryd.prog gf lb (l.map vi) w.heap.size Bn w) :
    Calls Tryd.prog 70 #[.slice none 0 0, .func (.func gf) #[] lb] w fun e w' => ∃ a c, e = .returned (.slice a l.length c) ∧ l.length ≤ c ∧ c ≤ maxLen ∧ St w [Bn] [irow a c l] w' := by
  obtain ⟨i0, hi, hz0, hz1, hz2⟩ := info_parts (show (Tryd.prog.info? 3).map (fun i => (i.zero, i.size, i.bytes)) = some (some (.int .i64 0), 1, 8) by kernel_rfl)
  refine (callsIn_wide (n := 10)).1 ?_
  refine callsIn_of_wp_marks Tryd.func70 rfl trivial ?_ rfl
  simp only [Tryd.ntmps70, List.size_toArray, List.length_cons, List.length_nil, Nat.reduceAdd, Nat.reduceSub, Array.replicate_succ, Array.replicate_zero, List.push_toArray, List.append_toArray, List.nil_append, List.cons_append]
  gi_wp2
  have hN := Lib.hid hl
  refine wpIn_gives (n := 10) rfl (by decide) (gf := gf) (lb := lb) rfl trivial eg (xs := l.map vi) (n0 := w.heap.size) (Bn := Bn) (hs.later ((Below.refl _ w).alloc (Nat.le_refl _) _)) (by simp; omega) (by simp) rfl
    (fun k W => (∃ v, Boxed W w.heap.size 75 v ∧ W.ownsRow w.heap.size 3 1 v k ((l.take k).map vi)) ∧ Fr [Bn] w W) ?hI ?h0
    (fun x => { tmps := #[.slice none 0 0, .func (.func gf) #[] lb, .pointer (some ⟨w.heap.size, 0, none⟩), undef, .slice none 0 0, x, .func (.func gf) #[] lb, x, undef, undef, undef, undef, undef], defers := [] }) ?assign ?body ?done
  case hI => exact (abide_held hBn (Nat.le_refl _) (by simp)).and (abide_fr (by simp))
  case h0 => exact ⟨⟨_, Boxed.new _ _ _, World.ownsRow_nil _ _ _ _⟩, (Fr.alloc w _).mono (by simp)⟩
  case assign =>
    intro l x W K hx hK
    obtain ⟨z, hz, rfl⟩ := List.mem_map.1 hx
    unfold vi at hK ⊢
    gi_wp2
    exact hK
  case body =>
    rintro L k x W ⟨⟨v, hv, hrow⟩, hB⟩ hx
    have hsz := hB.size
    have hc := hv.cell
    rw [List.getElem?_map] at hx
    obtain ⟨z, hz, rfl⟩ := Option.map_eq_some_iff.1 hx
    have hkl := (List.getElem?_eq_some_iff.1 hz).1
    unfold vi
    gi_wp2_with (gi_at_builtin; refine wpListIn_append_own _ rfl _ _ 75 rfl w.heap.size 3 i0 (.int .i64 0) 1 8 Tryd.underlying75 hi hz0 hz1 hz2 rfl (by decide) _ _ _ rfl (hrow.alloc _) ⟨W.heap.size, 0, none⟩ 1 1 [.int .i64 z] rfl rfl (cell_one_new _ _ _) (by simp [Value.oneCell']) (by unfold maxLen; omega) (by omega) (by simp; omega) ?_; intro v' w1 hown' hgrow _; obtain ⟨g', cap', rfl⟩ := ownsRow_succ hown'; obtain ⟨hv1, hv2, hr2, hk2, hb2⟩ := hv.appended (by decide) hrow hsz (Nat.le_refl _) hown' hgrow; have hc1 := hv1.cell; have hf1 := hv1.frozen)
    have hls : (l.take (k + 1)).map vi = (l.take k).map vi ++ [.int .i64 z] := by
      rw [List.take_succ_eq_append_getElem hkl, List.map_append, (List.getElem?_eq_some_iff.1 hz).2]
      rfl
    exact ⟨hk2.from _, hb2, ⟨_, hv2, by have := hr2; rw [← hls] at this; exact this⟩, hB.belowN hb2⟩
  case done =>
    rintro D W hD ⟨⟨v, hv, hrow⟩, hB⟩ hK
    have hc := hv.cell
    gi_wp2
    rw [List.length_map, List.take_length] at hrow
    obtain ⟨a, cap, rfl, -, -, h5, h6⟩ := owns_sl hrow
    refine ⟨by simp, .inl ⟨_, _, rfl, run_takeDeferred hK, ?_⟩⟩
    exact ⟨_, results_tmp rfl _ _ _, a, cap, rfl, h5, h6, St.ofRow (hB.belowN (belowK_b (w := w) (Nat.le_refl _) W D _ _ (by simp at hD; omega) hK rfl rfl)) (ownsRow_putObj hrow _ hK rfl)⟩

theorem coll_any (gf : Nat) (lb : Array Value) (eg : ∀ args w, (callFunc gf args).run Tryd.prog w = .ok (.enter gf args) w) (l : List Int) (Bn : Nat) (hl : l.length ≤ 100000) (w : World) (hBn : Bn < w.heap.size) (hs : Gives Fence.wide 9 Tryd.prog gf lb (l.map vi) w.heap.size Bn w) :
    Calls Tryd.prog 61 #[.func (.func gf) #[] lb] w fun e w' => ∃ a c, e = .returned (.slice a l.length c) ∧ l.length ≤ c ∧ c ≤ maxLen ∧ St w [Bn] [irow a c l] w' := by
  have cA := Lib.hid (apseq_any gf lb eg l Bn hl w hBn hs)
  clear hs eg
  go_enter Tryd.func61, Tryd.ntmps61
  go_wp2_with (go_at_call 70; (with_reducible refine cA.out.mono ?_); rintro _ w3 ⟨a, c, rfl, h1, h2, h3⟩)
  go_ret
  exact ⟨a, c, rfl, h1, h2, h3⟩

theorem bitsOf_mod (m : Nat) : bitsOf (m % 256) = bitsOf m := by
  unfold bitsOf
  refine List.filter_congr fun i hi => ?_
  have : i < 8 := by simpa using hi
  rw [show (256 : Nat) = 2 ^ 8 by rfl, Nat.testBit_mod_two_pow]
  simp [this]
theorem bitsOf_len (m : Nat) : (bitsOf m).length ≤ 8 := by
  have := List.length_filter_le (fun i => m.testBit i) (List.range 8)
  simpa [bitsOf] using this

/-- A mask's fields. -/
def nums (l : List Nat) : List Int := l.map fun (i : Nat) => (i : Int)
theorem fields_any (m : Nat) (hm : m < 4294967296) (w : World) (h0 : 0 < w.heap.size) (ht : Sl w (some ⟨0, 0, none⟩) (tzTab.map vb)) :
    Calls Tryd.prog 45 #[.int .u32 m] w (IntsRet (nums (bitsOf m)) w) := by
  have e : bits .and .u32 (m : Int) 255 = ((m % 256 : Nat) : Int) := by
    rw [show (255 : Int) = ((255 : Nat) : Int) by rfl, u32_and_nat m 255 hm (by decide), show (255 : Nat) = 2 ^ 8 - 1 by rfl, Nat.and_two_pow_sub_one_eq_mod]
  rw [← bitsOf_mod]
  have hl := bitsOf_len (m % 256)
  have hq : m % 256 < 256 := by omega
  generalize m % 256 = q at *
  have cE := Lib.hid (each_any q w)
  have cC := coll_any 71 #[.pointer (some ⟨w.heap.size, 0, none⟩)] (Go.Proofs.enters_of Tryd.func71 (by kernel_rfl) rfl) (nums (bitsOf q)) w.heap.size (by simp [nums]; omega) (w.alloc (.cells #[.int .u32 q] 22)) (by simp)
    (by
      have := each1_gives 9 (by decide) q hq w.heap.size (w.alloc (.cells #[.int .u32 q] 22)).heap.size (w.alloc (.cells #[.int .u32 q] 22)) (Boxed.new _ _ _) (by simp) h0 (ht.below ((Below.refl _ w).alloc (Nat.le_refl _) _))
      unfold nums
      rw [List.map_map]
      exact this)
  replace cC := Lib.hid cC
  clear ht hl
  have hS := St.start w
  go_enter Tryd.func45, Tryd.ntmps45
  go_wp2_with (first
    | (go_at_call 62; (with_reducible refine cE.out.mono ?_); rintro _ w3 ⟨rfl, rfl⟩)
    | (go_at_call 61; (with_reducible refine cC.out.mono ?_); rintro _ w3 ⟨a, c, rfl, h1, h2, h3⟩))
  go_ret
  have h4 := (hS.alloc #[.int .u32 q] 22).call (A := [_]) [] rfl h3
  exact ⟨a, c, rfl, h1, h2, by simpa using h4⟩
end Go.Proofs.YtplgpbbghhlbjaaDoor
