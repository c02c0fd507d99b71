/- Texts laid together: TransTwice. -/
import Derived.Test.YtajldelodnjmoaaM23
import Derived.Test.YtajldelodnjmoaaM24
section
/- The law TransTwice. -/
set_option linter.unusedSimpArgs false
set_option linter.unusedVariables false
namespace Go.Ofp
open Go.RowKit
theorem Lst.takeL {α : Type} {row : α → List Value} {In : α → Prop} {w : World} {a : Option Addr} {n c : Nat} {l : List α} (h : Lst row In w a n c l) (k : Nat) (hk : k ≤ n) : Lst row In w a k c (l.take k) := by
  refine ⟨?_, by rw [List.length_take, h.len]; omega, Nat.le_trans hk h.le, h.cm, fun x hx => h.mem x (List.mem_of_mem_take hx)⟩
  have e : (l.map row).flatten = ((l.take k).map row).flatten ++ ((l.drop k).map row).flatten := by rw [← List.flatten_append, ← List.map_append, List.take_append_drop]
  have := h.sl
  rw [e] at this
  exact this.left
theorem Lst.dropL {α : Type} {row : α → List Value} {In : α → Prop} {w : World} {b off n c : Nat} {l : List α} (h : Lst row In w (some ⟨b, off, none⟩) n c l) {s : Nat} (hs : ∀ x ∈ l, (row x).length = s) (k : Nat) (hk : k ≤ n) : Lst row In w (some ⟨b, off + k * s, none⟩) (n - k) (c - k) (l.drop k) := by
  have hle := h.le
  have hcm := h.cm
  refine ⟨?_, by rw [List.length_drop, h.len], by omega, by omega, fun x hx => h.mem x (List.mem_of_mem_drop hx)⟩
  have e : (l.map row).flatten = ((l.take k).map row).flatten ++ ((l.drop k).map row).flatten := by rw [← List.flatten_append, ← List.map_append, List.take_append_drop]
  have hl : ((l.take k).map row).flatten.length = k * s := by
    rw [flat_len2 s _ (by intro r hr; obtain ⟨y, hy, rfl⟩ := List.mem_map.1 hr; exact hs y (List.mem_of_mem_take hy)), List.length_map, List.length_take, h.len, Nat.min_eq_left hk]
  have h1 := h.sl.drop (k * s)
  rw [e, List.drop_append_of_le_length (by omega), List.drop_eq_nil_of_le (by omega), List.nil_append] at h1
  exact h1
theorem Lst.none {α : Type} {row : α → List Value} {In : α → Prop} (w : World) (a : Option Addr) : Lst row In w a 0 0 [] := ⟨Sl.nil _ _, rfl, Nat.le_refl _, by decide, by simp⟩
end Go.Ofp
namespace Go.Proofs.Ytajldelodnjmoaa
open Go.RowKit Go.Ofp
set_option linter.unusedVariables false
set_option maxRecDepth 100000
set_option maxHeartbeats 4000000

theorem it_of_net {l : List Tn} (h : ∀ t ∈ l, TnIn t) : ∀ x ∈ netOf l, ItIn x := by
  intro x hx
  unfold netOf at hx
  obtain ⟨id, -, e⟩ := List.mem_filterMap.1 hx
  unfold netAt at e
  obtain ⟨a, ha, e⟩ := Option.bind_eq_some_iff.1 e
  obtain ⟨b, hb, e⟩ := Option.bind_eq_some_iff.1 e
  have hbi := h b (lastOf_mem hb).1
  unfold itemOf at e
  split at e
  · cases e
  · split at e
    · cases e
      exact ⟨show I64 1 by decide, hbi.c⟩
    · split at e
      · cases e
        exact ⟨show I64 2 by decide, ⟨hbi.id, show I64 0 by decide, show 0 < 4294967296 by decide, rfl, noF_in⟩⟩
      · cases e
        exact ⟨show I64 3 by decide, hbi.c⟩
theorem it_ok_net {l : List Tn} (h : ∀ t ∈ l, TnIn t) (hg : goes Cd.ok [] l = true) : ∀ x ∈ netOf l, ItOk x := fun x hx => ⟨cd_ok (it_of_net h x hx).c, may_kind ((net_items hg).2 x hx).1⟩
theorem apR_any {P : Program} {T : TypeId} {row : Cd → List Value} {o : Option (List Cd)} {e : Ending} {w w' : World} (h : ApR P T row o e w w') : ∃ a n c x, e = .returned (.tuple #[.slice a n c, .bool x]) ∧ Below w.heap.size w w' := by
  cases o with
  | none => exact ⟨none, 0, 0, false, h.1, h.2⟩
  | some m =>
    obtain ⟨a, c, h1, h2⟩ := h
    exact ⟨a, _, c, true, h1, h2.below⟩

theorem twice_main (a b : Option Addr) (n c m d : Nat) (l : List Tn) (cs : List Cd) (k : Nat) (w : World) (hl : Lst tnRow TnIn w a n c l) (hc : Lst cdRow CdIn w b m d cs) (h1 : largeT l = false) (h2 : goes Cd.ok [] l = true) (hk : k ≤ n) (hm : m ≤ 60) :
    Calls Try.prog 8 #[.slice a n c, .int .i64 k, .slice b m d] w fun e w' => e = .returned (.bool true) ∧ Below w.heap.size w w' := by
  have hn : n ≤ 100 := by
    unfold largeT at h1
    rw [Bool.or_eq_false_iff] at h1
    have := of_decide_eq_false h1.1
    rw [hl.len] at this
    omega
  have hS := St.start w
  have cL : ∀ W, Below w.heap.size w W → Calls Try.prog 12 #[.slice a n c] W fun e w' => e = .returned (.bool false) ∧ Below W.heap.size W w' := fun W hb => by
    have := largeT_any a n c l W (hl.below hb)
    rwa [h1] at this
  have cC : ∀ W, Below w.heap.size w W → Calls Try.prog 13 #[.slice a n c] W fun e w' => e = .returned (.bool true) ∧ Below W.heap.size W w' := fun W hb => by
    have := rcheck23_any a n c l W (hl.below hb) (by omega)
    rwa [h2] at this
  have cA := Lib.hid fun W : World => awake23_any W
  have cK := Lib.hid fun (x : Cd) (hf : x.f.length = 8) (W : World) => rckc_any x hf W
  have hsplit : goes Cd.ok [] (l.take k ++ l.drop k) = true := by rw [List.take_append_drop]; exact h2
  obtain ⟨g1, -, g2⟩ := goes_cut hsplit
  have hin := hl.mem
  have hi1 := it_ok_net (l := l.take k) (fun t ht => hin t (List.mem_of_mem_take ht)) g1
  have hi2 := it_ok_net (l := l.drop k) (fun t ht => hin t (List.mem_of_mem_drop ht)) g2
  have hi0 := it_ok_net hin h2
  have hj0 := it_of_net hin
  have hnl0 := net_length l
  have hnl1 := net_length (l.take k)
  have hnl2 := net_length (l.drop k)
  rw [List.length_take, hl.len] at hnl1
  rw [List.length_drop, hl.len] at hnl2
  rw [hl.len] at hnl0
  have cN0 := fun W (hb : Below w.heap.size w W) => tnet_any a n c l W (hl.below hb) (by omega)
  have cN1 := fun W (hb : Below w.heap.size w W) => tnet_any a k c (l.take k) W ((hl.takeL k hk).below hb) (by omega)
  have cN2 := fun (a2 : Option Addr) (c2 : Nat) (h : Lst tnRow TnIn w a2 (n - k) c2 (l.drop k)) W (hb : Below w.heap.size w W) => tnet_any a2 (n - k) c2 (l.drop k) W (h.below hb) (by omega)
  have cF := fun W (hb : Below w.heap.size w W) => fits_any b a m d n c cs l W ((hc.below hb).imp fun x h => h.len) ((hl.below hb).imp fun x h => h.c.len) (by omega) (by omega)
  have hco : ∀ c ∈ cs, CdOk c := fun x hx => cd_ok (hc.mem x hx)
  have cT0 := fun (hr : RisC cs) (W : World) (hb : Below w.heap.size w W) (ai : Option Addr) (ci : Nat) (hN : Lst itRow ItOk W ai (netOf l).length ci (netOf l)) => tapply_any b ai m d (netOf l).length ci cs (netOf l) W ((hc.below hb).imp fun x h => cd_ok h) hN hr (by omega) (by omega)
  have cT1 := fun (hr : RisC cs) (W : World) (hb : Below w.heap.size w W) (ai : Option Addr) (ci : Nat) (hN : Lst itRow ItOk W ai (netOf (l.take k)).length ci (netOf (l.take k))) => tapply_any b ai m d (netOf (l.take k)).length ci cs (netOf (l.take k)) W ((hc.below hb).imp fun x h => cd_ok h) hN hr (by omega) (by omega)
  have cT2 := fun (m1 : List Cd) (hm1 : m1.length ≤ 1000) (hr : RisC m1) (W : World) (a1 ai : Option Addr) (c1 ci : Nat) (hM : Lst cdRow CdOk W a1 m1.length c1 m1) (hN : Lst itRow ItOk W ai (netOf (l.drop k)).length ci (netOf (l.drop k))) => tapply_any a1 ai m1.length c1 (netOf (l.drop k)).length ci m1 (netOf (l.drop k)) W hM hN hr (by omega) (by omega)
  have cY := fun (W : World) (ai : Option Addr) (ci : Nat) (hN : Lst itRow ItIn W ai (netOf l).length ci (netOf l)) => show Calls Try.prog 32 #[.slice ai (netOf l).length ci] W fun e w' => e = .returned (.bool true) ∧ Below W.heap.size W w' by
    have := tcki_any ai (netOf l).length ci (netOf l) W hN (by omega)
    rwa [net_may h2] at this
  have cE := Lib.hid fun (M : List Cd) (hM : M.length ≤ 1000) (W : World) (a1 a2 : Option Addr) (k1 k2 : Nat) (g1 : Lst cdRow (fun x => x.f.length = 8) W a1 M.length k1 M) (g2 : Lst cdRow (fun x => x.f.length = 8) W a2 M.length k2 M) => (show Calls Try.prog 22 #[.slice a1 M.length k1, .slice a2 M.length k2] W fun e w' => e = .returned (.bool true) ∧ Below W.heap.size W w' by
    have := csame_any a1 a2 M.length M.length k1 k2 M M W g1 g2 hM hM
    rwa [decide_eq_true rfl] at this)
  have hfin : ∀ (hr : RisC cs) (hv : ∀ c ∈ cs, 1 ≤ c.ver) (hF : Fit0 cs l l.length), ∃ m1 m2, applyC cs (netOf (l.take k)) = some m1 ∧ applyC m1 (netOf (l.drop k)) = some m2 ∧ applyC cs (netOf l) = some m2 ∧ RisC m1 ∧ m1.length ≤ 1000 ∧ m2.length ≤ 1000 ∧ (∀ c ∈ m1, CdOk c) ∧ (∀ c ∈ m2, CdOk c) := by
    intro hr hv hF
    have hf := hF.fits hr hv
    obtain ⟨m1, m2, e1, e2, e3, r1, -, -⟩ := net_twice (ok := Cd.ok) (l1 := l.take k) (l2 := l.drop k) hr hsplit (by rw [List.take_append_drop]; exact hf)
    rw [List.take_append_drop] at e3
    have p1 := applyC_length e1
    have p3 := applyC_length e3
    rw [hc.len] at p1 p3
    exact ⟨m1, m2, e1, e2, e3, r1, by omega, by omega, applyC_all (p := CdOk) e1 hco fun x hx => (hi1 x hx).c, applyC_all (p := CdOk) e3 hco fun x hx => (hi0 x hx).c⟩
  have hlen := Lib.hid hc.len
  have hlens := Lib.hid (show ∀ x ∈ cs, (cdRow x).length = 27 from fun x hx => cdRow_lenT x (hc.mem x hx).len)
  have hbase := Lib.hid (hc.base (by decide) hlens.out)
  have hmem := Lib.hid hc.mem
  have hm60 : decide (60 < m) = false := decide_eq_false (by omega)
  have hm61 : decide (60 < (m : Int)) = false := decide_eq_false (by omega)
  have hk0 : decide ((k : Int) < 0) = false := decide_eq_false (by omega)
  have hkn : decide ((n : Int) < (k : Int)) = false := decide_eq_false (by omega)
  have hkn2 : decide (n < k) = false := decide_eq_false (by omega)
  have hkc : k ≤ c := Nat.le_trans hk hl.le
  have hnc : n ≤ c := hl.le
  have hn3 : decide ((netOf l).length ≤ n) = true := decide_eq_true hnl0
  have hn4 : decide (((netOf l).length : Int) ≤ (n : Int)) = true := decide_eq_true (by omega)
  replace cL := Lib.hid cL
  replace cC := Lib.hid cC
  replace cN0 := Lib.hid cN0
  replace cN1 := Lib.hid cN1
  replace cN2 := Lib.hid cN2
  replace cT0 := Lib.hid cT0
  replace cT1 := Lib.hid cT1
  replace cT2 := Lib.hid cT2
  replace cY := Lib.hid cY
  replace hfin := Lib.hid hfin
  replace hi0 := Lib.hid hi0
  replace hi1 := Lib.hid hi1
  replace hi2 := Lib.hid hi2
  replace hj0 := Lib.hid hj0
  replace hl := Lib.hid hl
  replace hc := Lib.hid hc
  replace hin := Lib.hid hin
  replace hco := Lib.hid hco
  replace cF := Lib.hid cF
  clear h1 h2 hsplit g1 g2
  have hdr : ∀ (hc' : c = k), l.drop k = [] := fun hc' => List.drop_of_length_le (by rw [hl.out.len]; omega)
  replace hdr := Lib.hid hdr
  generalize hN0 : netOf l = N0 at *
  generalize hN1 : netOf (l.take k) = N1 at *
  generalize hN2 : netOf (l.drop k) = N2 at *
  clear hN0 hN1 hN2
  go_enter Try.func8, Try.ntmps8
  go_wp2_with (first
    | (go_at_call 12; (with_reducible refine (cL.out _ hS.below).mono ?_); rintro _ w3 ⟨rfl, hk9⟩; have hS1 := hS.keepB hk9; clear hk9 hS; have hS := hS1; clear hS1)
    | (go_at_call 13; (with_reducible refine (cC.out _ hS.below).mono ?_); rintro _ w3 ⟨rfl, hk9⟩; have hS1 := hS.keepB hk9; clear hk9 hS; have hS := hS1; clear hS1))
  go_loopg [7] m (fun gk vx wr => ∃ j : Nat, j + gk = m ∧ vx = .int .i64 j ∧ Hid (∀ i (hi : i + 1 < cs.length), i + 1 < j → cs[i].id < cs[i + 1].id) ∧ Hid (∀ i (hi : i < cs.length), i < j → cs[i].ok = true) ∧ St w [] [] wr)
  case atStart => exact ⟨0, Nat.zero_add _, rfl, Lib.hid (fun i _ h => by omega), Lib.hid (fun i _ h => by omega), hS⟩
  case round =>
    clear hS
    obtain ⟨j, hj, rfl, hr, ho, hS⟩ := hrel
    by_cases hlt : j < m
    · have hjl : j < cs.length := by rw [hlen.out]; exact hlt
      obtain ⟨g, off, rfl⟩ := hbase.out (by omega)
      have hrow := hc.out.rowb hlens.out j hjl
      have hin2 := hmem.out _ (List.getElem_mem hjl)
      have zi : w.cell? ⟨g, off + j * 27, none⟩ = some (.int .i64 cs[j].id) := by simpa using hrow 0 _ rfl
      have hpv := fun p (hp : p < cs.length) => show w.cell? ⟨g, off + p * 27, none⟩ = some (.int .i64 cs[p].id) by simpa using hc.out.rowb hlens.out p hp 0 _ rfl
      have hrl := hlens.out _ (List.getElem_mem hjl)
      have hcG := cK.out cs[j] hin2.len
      have kF := hS.kold_row (P := Try.prog) (t := 41) hrow (by kernel_rfl) (by kernel_rfl) hrl
      have ki := hS.kold0 zi
      clear hrow hin2 hrl
      have hok2 := fun h : cs[j].ok = true => show ∀ i (hi : i < cs.length), i < j + 1 → cs[i].ok = true by
        intro i hi hij
        by_cases e : i < j
        · exact ho.out i hi e
        · have : i = j := by omega
          subst this
          exact h
      cases hlg : cs[j].ok
      · rw [hlg] at hcG
        replace hcG := Lib.hid hcG
        clear hlg hpv hok2
        generalize cs[j].id = idj at *
        generalize cdRow cs[j] = RF at *
        go_wp2_with fail
        refine mixs_begin (by kernel_rfl) hS ?_
        clear hS
        intro w2 hS
        refine mixs_take 0 (v := ?_) rfl (by kernel_rfl) (fun _ _ _ h => h) (by kernel_rfl) (by assumption) (fun s => ?hy) ?_; case hy => (go_simp <;> with_reducible rfl)
        try simp only [List.getElem_toArray, List.getElem_cons_succ, List.getElem_cons_zero, Act.put, List.setIfInBounds_toArray, List.set_cons_zero, List.set_cons_succ]
        refine mixs_take 1 (v := ?_) rfl (by kernel_rfl) (fun _ _ _ h => h) (by kernel_rfl) (by assumption) (fun s => ?hy) ?_; case hy => (go_simp <;> with_reducible rfl)
        try simp only [List.getElem_toArray, List.getElem_cons_succ, List.getElem_cons_zero, Act.put, List.setIfInBounds_toArray, List.set_cons_zero, List.set_cons_succ]
        refine mixs_take 2 (v := ?_) rfl (by kernel_rfl) (fun _ _ _ h => h) (by kernel_rfl) (by assumption) (fun s => ?hy) ?_; case hy => (go_simp <;> with_reducible rfl)
        try simp only [List.getElem_toArray, List.getElem_cons_succ, List.getElem_cons_zero, Act.put, List.setIfInBounds_toArray, List.set_cons_zero, List.set_cons_succ]
        refine mixs_take 3 (v := ?_) rfl (by kernel_rfl) (fun _ _ _ h => h) (by kernel_rfl) (by assumption) (fun s => ?hy) ?_; case hy => (refine Eq.trans (take_loadrow s rfl rfl kF) ?_; with_reducible rfl)
        try simp only [List.getElem_toArray, List.getElem_cons_succ, List.getElem_cons_zero, Act.put, List.setIfInBounds_toArray, List.set_cons_zero, List.set_cons_succ]
        refine mixs_one 4 (by kernel_rfl) rfl (fun K hK => ?_)
        go_simp
        ( (go_at_call 19; (with_reducible refine (hcG.out _).mono ?_); rintro _ w9 ⟨rfl, hk9⟩; have hS1 := hS.keepB hk9; clear hk9 hS; have hS := hS1; clear hS1) )
        try clear hC
        refine hK.out _ _ _ (fun _ h => h) (by first | exact hS | exact hS.drop | exact hS.drop.drop | exact hS.drop.drop.drop | exact hS.drop.drop.drop.drop | exact hS.empty | exact hS.one 0 rfl | exact hS.one 1 rfl | exact hS.one 2 rfl | exact hS.one 3 rfl | exact hS.one 4 rfl | exact hS.one 5 rfl | exact hS.one 6 rfl | exact hS.one 7 rfl | exact hS.one 8 rfl | exact hS.one 9 rfl | exact hS.one 10 rfl | exact hS.one 11 rfl) (fun hC => ?_)
        clear hK K
        try simp only [List.getElem_toArray, List.getElem_cons_succ, List.getElem_cons_zero, Act.put, List.setIfInBounds_toArray, List.set_cons_zero, List.set_cons_succ]
        refine mixs_take 5 (v := ?_) rfl (by kernel_rfl) (fun _ _ _ h => h) (by kernel_rfl) (by assumption) (fun s => ?hy) ?_; case hy => (go_simp <;> with_reducible rfl)
        try simp only [List.getElem_toArray, List.getElem_cons_succ, List.getElem_cons_zero, Act.put, List.setIfInBounds_toArray, List.set_cons_zero, List.set_cons_succ]
        refine mixs_take 6 (v := ?_) rfl (by kernel_rfl) (fun _ _ _ h => h) (by kernel_rfl) (by assumption) (fun s => ?hy) ?_; case hy => (go_simp <;> with_reducible rfl)
        try simp only [List.getElem_toArray, List.getElem_cons_succ, List.getElem_cons_zero, Act.put, List.setIfInBounds_toArray, List.set_cons_zero, List.set_cons_succ]
        refine mixs_skip 7 rfl (by kernel_rfl) (fun _ _ _ h => h) (by kernel_rfl) (by assumption) ?_
        try simp only [List.getElem_toArray, List.getElem_cons_succ, List.getElem_cons_zero, Act.put, List.setIfInBounds_toArray, List.set_cons_zero, List.set_cons_succ]
        refine mixs_skip 8 rfl (by kernel_rfl) (fun _ _ _ h => h) (by kernel_rfl) (by assumption) ?_
        try simp only [List.getElem_toArray, List.getElem_cons_succ, List.getElem_cons_zero, Act.put, List.setIfInBounds_toArray, List.set_cons_zero, List.set_cons_succ]
        refine mixs_skip 9 rfl (by kernel_rfl) (fun _ _ _ h => h) (by kernel_rfl) (by assumption) ?_
        try simp only [List.getElem_toArray, List.getElem_cons_succ, List.getElem_cons_zero, Act.put, List.setIfInBounds_toArray, List.set_cons_zero, List.set_cons_succ]
        refine mixs_skip 10 rfl (by kernel_rfl) (fun _ _ _ h => h) (by kernel_rfl) (by assumption) ?_
        try simp only [List.getElem_toArray, List.getElem_cons_succ, List.getElem_cons_zero, Act.put, List.setIfInBounds_toArray, List.set_cons_zero, List.set_cons_succ]
        refine mixs_skip 11 rfl (by kernel_rfl) (fun _ _ _ h => h) (by kernel_rfl) (by assumption) ?_
        try simp only [List.getElem_toArray, List.getElem_cons_succ, List.getElem_cons_zero, Act.put, List.setIfInBounds_toArray, List.set_cons_zero, List.set_cons_succ]
        refine mixs_skip 12 rfl (by kernel_rfl) (fun _ _ _ h => h) (by kernel_rfl) (by assumption) ?_
        try simp only [List.getElem_toArray, List.getElem_cons_succ, List.getElem_cons_zero, Act.put, List.setIfInBounds_toArray, List.set_cons_zero, List.set_cons_succ]
        refine mixs_skip 13 rfl (by kernel_rfl) (fun _ _ _ h => h) (by kernel_rfl) (by assumption) ?_
        try simp only [List.getElem_toArray, List.getElem_cons_succ, List.getElem_cons_zero, Act.put, List.setIfInBounds_toArray, List.set_cons_zero, List.set_cons_succ]
        refine mixs_skip 14 rfl (by kernel_rfl) (fun _ _ _ h => h) (by kernel_rfl) (by assumption) ?_
        try simp only [List.getElem_toArray, List.getElem_cons_succ, List.getElem_cons_zero, Act.put, List.setIfInBounds_toArray, List.set_cons_zero, List.set_cons_succ]
        refine mixs_skip 15 rfl (by kernel_rfl) (fun _ _ _ h => h) (by kernel_rfl) (by assumption) ?_
        try simp only [List.getElem_toArray, List.getElem_cons_succ, List.getElem_cons_zero, Act.put, List.setIfInBounds_toArray, List.set_cons_zero, List.set_cons_succ]
        refine mixs_skip 16 rfl (by kernel_rfl) (fun _ _ _ h => h) (by kernel_rfl) (by assumption) ?_
        try simp only [List.getElem_toArray, List.getElem_cons_succ, List.getElem_cons_zero, Act.put, List.setIfInBounds_toArray, List.set_cons_zero, List.set_cons_succ]
        refine mixs_skip 17 rfl (by kernel_rfl) (fun _ _ _ h => h) (by kernel_rfl) (by assumption) ?_
        try simp only [List.getElem_toArray, List.getElem_cons_succ, List.getElem_cons_zero, Act.put, List.setIfInBounds_toArray, List.set_cons_zero, List.set_cons_succ]
        refine mixs_skip 18 rfl (by kernel_rfl) (fun _ _ _ h => h) (by kernel_rfl) (by assumption) ?_
        try simp only [List.getElem_toArray, List.getElem_cons_succ, List.getElem_cons_zero, Act.put, List.setIfInBounds_toArray, List.set_cons_zero, List.set_cons_succ]
        refine mixs_skip 19 rfl (by kernel_rfl) (fun _ _ _ h => h) (by kernel_rfl) (by assumption) ?_
        try simp only [List.getElem_toArray, List.getElem_cons_succ, List.getElem_cons_zero, Act.put, List.setIfInBounds_toArray, List.set_cons_zero, List.set_cons_succ]
        refine mixs_skip 20 rfl (by kernel_rfl) (fun _ _ _ h => h) (by kernel_rfl) (by assumption) ?_
        try simp only [List.getElem_toArray, List.getElem_cons_succ, List.getElem_cons_zero, Act.put, List.setIfInBounds_toArray, List.set_cons_zero, List.set_cons_succ]
        refine mixs_skip 21 rfl (by kernel_rfl) (fun _ _ _ h => h) (by kernel_rfl) (by assumption) ?_
        try simp only [List.getElem_toArray, List.getElem_cons_succ, List.getElem_cons_zero, Act.put, List.setIfInBounds_toArray, List.set_cons_zero, List.set_cons_succ]
        refine mixs_skip 22 rfl (by kernel_rfl) (fun _ _ _ h => h) (by kernel_rfl) (by assumption) ?_
        try simp only [List.getElem_toArray, List.getElem_cons_succ, List.getElem_cons_zero, Act.put, List.setIfInBounds_toArray, List.set_cons_zero, List.set_cons_succ]
        refine mixs_take 23 (v := ?_) rfl (by kernel_rfl) (fun _ _ _ h => h) (by kernel_rfl) (by assumption) (fun s => ?hy) ?_; case hy => (go_simp <;> with_reducible rfl)
        try simp only [List.getElem_toArray, List.getElem_cons_succ, List.getElem_cons_zero, Act.put, List.setIfInBounds_toArray, List.set_cons_zero, List.set_cons_succ]
        refine wpAnyH_done (by kernel_rfl) ?_ _
        clear ki kF
        go_wp2_with (first
          | (go_at_call 25; (with_reducible refine (cA.out _).mono ?_); rintro _ w9 ⟨rfl, hk9⟩; have hS1 := hS.keepB hk9; clear hk9 hS; have hS := hS1; clear hS1))
        go_ret
        exact ⟨rfl, hS.below⟩
      · rw [hlg] at hcG
        replace hcG := Lib.hid hcG
        have hok3 := Lib.hid (hok2 hlg)
        clear hlg hok2
        by_cases hj0 : 0 < j
        · obtain ⟨p, hpj⟩ : ∃ p, p + 1 = j := ⟨j - 1, by omega⟩
          have hpn : p < m := by omega
          have hpl : p < cs.length := by rw [hlen.out]; omega
          have zp := hpv p hpl
          have kp := hS.kold0 zp
          have hjw : IntKind.i64.wrap ((j : Int) - 1) = (p : Int) := by rw [IntWalk.i64_in _ (by omega)]; omega
          have dj : decide (0 < (j : Int)) = true := decide_eq_true (by omega)
          have dj2 : decide (0 < j) = true := decide_eq_true hj0
          have hnx : cs[p].id < cs[j].id → ∀ i (hi : i + 1 < cs.length), i + 1 < j + 1 → cs[i].id < cs[i + 1].id := by
            intro h i hi hij
            by_cases e : i + 1 < j
            · exact hr.out i hi e
            · have e1 : i = p := by omega
              have e2 : i + 1 = j := by omega
              subst e1
              simpa only [e2] using h
          replace hpj := Lib.hid hpj
          clear hj0 hpv
          by_cases hle : cs[j].id ≤ cs[p].id
          · have dl : decide (cs[j].id ≤ cs[p].id) = true := decide_eq_true hle
            clear hnx hle
            generalize cs[j].id = idj at *
            generalize cs[p].id = idp at *
            generalize cdRow cs[j] = RF at *
            go_wp2_with fail
            refine mixs_begin (by kernel_rfl) hS ?_
            clear hS
            intro w2 hS
            refine mixs_take 0 (v := ?_) rfl (by kernel_rfl) (fun _ _ _ h => h) (by kernel_rfl) (by assumption) (fun s => ?hy) ?_; case hy => (go_simp <;> with_reducible rfl)
            try simp only [List.getElem_toArray, List.getElem_cons_succ, List.getElem_cons_zero, Act.put, List.setIfInBounds_toArray, List.set_cons_zero, List.set_cons_succ]
            refine mixs_take 1 (v := ?_) rfl (by kernel_rfl) (fun _ _ _ h => h) (by kernel_rfl) (by assumption) (fun s => ?hy) ?_; case hy => (go_simp <;> with_reducible rfl)
            try simp only [List.getElem_toArray, List.getElem_cons_succ, List.getElem_cons_zero, Act.put, List.setIfInBounds_toArray, List.set_cons_zero, List.set_cons_succ]
            refine mixs_take 2 (v := ?_) rfl (by kernel_rfl) (fun _ _ _ h => h) (by kernel_rfl) (by assumption) (fun s => ?hy) ?_; case hy => (go_simp <;> with_reducible rfl)
            try simp only [List.getElem_toArray, List.getElem_cons_succ, List.getElem_cons_zero, Act.put, List.setIfInBounds_toArray, List.set_cons_zero, List.set_cons_succ]
            refine mixs_take 3 (v := ?_) rfl (by kernel_rfl) (fun _ _ _ h => h) (by kernel_rfl) (by assumption) (fun s => ?hy) ?_; case hy => (refine Eq.trans (take_loadrow s rfl rfl kF) ?_; with_reducible rfl)
            try simp only [List.getElem_toArray, List.getElem_cons_succ, List.getElem_cons_zero, Act.put, List.setIfInBounds_toArray, List.set_cons_zero, List.set_cons_succ]
            refine mixs_one 4 (by kernel_rfl) rfl (fun K hK => ?_)
            go_simp
            ( (go_at_call 19; (with_reducible refine (hcG.out _).mono ?_); rintro _ w9 ⟨rfl, hk9⟩; have hS1 := hS.keepB hk9; clear hk9 hS; have hS := hS1; clear hS1) )
            try clear hC
            refine hK.out _ _ _ (fun _ h => h) (by first | exact hS | exact hS.drop | exact hS.drop.drop | exact hS.drop.drop.drop | exact hS.drop.drop.drop.drop | exact hS.empty | exact hS.one 0 rfl | exact hS.one 1 rfl | exact hS.one 2 rfl | exact hS.one 3 rfl | exact hS.one 4 rfl | exact hS.one 5 rfl | exact hS.one 6 rfl | exact hS.one 7 rfl | exact hS.one 8 rfl | exact hS.one 9 rfl | exact hS.one 10 rfl | exact hS.one 11 rfl) (fun hC => ?_)
            clear hK K
            try simp only [List.getElem_toArray, List.getElem_cons_succ, List.getElem_cons_zero, Act.put, List.setIfInBounds_toArray, List.set_cons_zero, List.set_cons_succ]
            refine mixs_take 5 (v := ?_) rfl (by kernel_rfl) (fun _ _ _ h => h) (by kernel_rfl) (by assumption) (fun s => ?hy) ?_; case hy => (go_simp <;> with_reducible rfl)
            try simp only [List.getElem_toArray, List.getElem_cons_succ, List.getElem_cons_zero, Act.put, List.setIfInBounds_toArray, List.set_cons_zero, List.set_cons_succ]
            refine mixs_take 6 (v := ?_) rfl (by kernel_rfl) (fun _ _ _ h => h) (by kernel_rfl) (by assumption) (fun s => ?hy) ?_; case hy => (go_simp <;> with_reducible rfl)
            try simp only [List.getElem_toArray, List.getElem_cons_succ, List.getElem_cons_zero, Act.put, List.setIfInBounds_toArray, List.set_cons_zero, List.set_cons_succ]
            refine mixs_take 7 (v := ?_) rfl (by kernel_rfl) (fun _ _ _ h => h) (by kernel_rfl) (by assumption) (fun s => ?hy) ?_; case hy => (go_simp <;> with_reducible rfl)
            try simp only [List.getElem_toArray, List.getElem_cons_succ, List.getElem_cons_zero, Act.put, List.setIfInBounds_toArray, List.set_cons_zero, List.set_cons_succ]
            refine mixs_take 8 (v := ?_) rfl (by kernel_rfl) (fun _ _ _ h => h) (by kernel_rfl) (by assumption) (fun s => ?hy) ?_; case hy => (go_simp <;> with_reducible rfl)
            try simp only [List.getElem_toArray, List.getElem_cons_succ, List.getElem_cons_zero, Act.put, List.setIfInBounds_toArray, List.set_cons_zero, List.set_cons_succ]
            refine mixs_take 9 (v := ?_) rfl (by kernel_rfl) (fun _ _ _ h => h) (by kernel_rfl) (by assumption) (fun s => ?hy) ?_; case hy => (go_simp <;> with_reducible rfl)
            try simp only [List.getElem_toArray, List.getElem_cons_succ, List.getElem_cons_zero, Act.put, List.setIfInBounds_toArray, List.set_cons_zero, List.set_cons_succ]
            refine mixs_take 10 (v := ?_) rfl (by kernel_rfl) (fun _ _ _ h => h) (by kernel_rfl) (by assumption) (fun s => ?hy) ?_; case hy => (go_simp <;> with_reducible rfl)
            try simp only [List.getElem_toArray, List.getElem_cons_succ, List.getElem_cons_zero, Act.put, List.setIfInBounds_toArray, List.set_cons_zero, List.set_cons_succ]
            refine mixs_take 11 (v := ?_) rfl (by kernel_rfl) (fun _ _ _ h => h) (by kernel_rfl) (by assumption) (fun s => ?hy) ?_; case hy => (go_simp <;> with_reducible rfl)
            try simp only [List.getElem_toArray, List.getElem_cons_succ, List.getElem_cons_zero, Act.put, List.setIfInBounds_toArray, List.set_cons_zero, List.set_cons_succ]
            refine mixs_take 12 (v := ?_) rfl (by kernel_rfl) (fun _ _ _ h => h) (by kernel_rfl) (by assumption) (fun s => ?hy) ?_; case hy => (go_simp <;> with_reducible rfl)
            try simp only [List.getElem_toArray, List.getElem_cons_succ, List.getElem_cons_zero, Act.put, List.setIfInBounds_toArray, List.set_cons_zero, List.set_cons_succ]
            refine mixs_take 13 (v := ?_) rfl (by kernel_rfl) (fun _ _ _ h => h) (by kernel_rfl) (by assumption) (fun s => ?hy) ?_; case hy => (go_simp <;> with_reducible rfl)
            try simp only [List.getElem_toArray, List.getElem_cons_succ, List.getElem_cons_zero, Act.put, List.setIfInBounds_toArray, List.set_cons_zero, List.set_cons_succ]
            refine mixs_take 14 (v := ?_) rfl (by kernel_rfl) (fun _ _ _ h => h) (by kernel_rfl) (by assumption) (fun s => ?hy) ?_; case hy => (go_simp <;> with_reducible rfl)
            try simp only [List.getElem_toArray, List.getElem_cons_succ, List.getElem_cons_zero, Act.put, List.setIfInBounds_toArray, List.set_cons_zero, List.set_cons_succ]
            refine mixs_take 15 (v := ?_) rfl (by kernel_rfl) (fun _ _ _ h => h) (by kernel_rfl) (by assumption) (fun s => ?hy) ?_; case hy => (go_simp <;> with_reducible rfl)
            try simp only [List.getElem_toArray, List.getElem_cons_succ, List.getElem_cons_zero, Act.put, List.setIfInBounds_toArray, List.set_cons_zero, List.set_cons_succ]
            refine mixs_take 16 (v := ?_) rfl (by kernel_rfl) (fun _ _ _ h => h) (by kernel_rfl) (by assumption) (fun s => ?hy) ?_; case hy => (go_simp <;> with_reducible rfl)
            try simp only [List.getElem_toArray, List.getElem_cons_succ, List.getElem_cons_zero, Act.put, List.setIfInBounds_toArray, List.set_cons_zero, List.set_cons_succ]
            refine mixs_take 17 (v := ?_) rfl (by kernel_rfl) (fun _ _ _ h => h) (by kernel_rfl) (by assumption) (fun s => ?hy) ?_; case hy => (go_simp <;> with_reducible rfl)
            try simp only [List.getElem_toArray, List.getElem_cons_succ, List.getElem_cons_zero, Act.put, List.setIfInBounds_toArray, List.set_cons_zero, List.set_cons_succ]
            refine mixs_take 18 (v := ?_) rfl (by kernel_rfl) (fun _ _ _ h => h) (by kernel_rfl) (by assumption) (fun s => ?hy) ?_; case hy => (go_simp <;> with_reducible rfl)
            try simp only [List.getElem_toArray, List.getElem_cons_succ, List.getElem_cons_zero, Act.put, List.setIfInBounds_toArray, List.set_cons_zero, List.set_cons_succ]
            refine mixs_take 19 (v := ?_) rfl (by kernel_rfl) (fun _ _ _ h => h) (by kernel_rfl) (by assumption) (fun s => ?hy) ?_; case hy => (go_simp <;> with_reducible rfl)
            try simp only [List.getElem_toArray, List.getElem_cons_succ, List.getElem_cons_zero, Act.put, List.setIfInBounds_toArray, List.set_cons_zero, List.set_cons_succ]
            refine mixs_take 20 (v := ?_) rfl (by kernel_rfl) (fun _ _ _ h => h) (by kernel_rfl) (by assumption) (fun s => ?hy) ?_; case hy => (go_simp <;> with_reducible rfl)
            try simp only [List.getElem_toArray, List.getElem_cons_succ, List.getElem_cons_zero, Act.put, List.setIfInBounds_toArray, List.set_cons_zero, List.set_cons_succ]
            refine mixs_take 21 (v := ?_) rfl (by kernel_rfl) (fun _ _ _ h => h) (by kernel_rfl) (by assumption) (fun s => ?hy) ?_; case hy => (go_simp <;> with_reducible rfl)
            try simp only [List.getElem_toArray, List.getElem_cons_succ, List.getElem_cons_zero, Act.put, List.setIfInBounds_toArray, List.set_cons_zero, List.set_cons_succ]
            refine mixs_take 22 (v := ?_) rfl (by kernel_rfl) (fun _ _ _ h => h) (by kernel_rfl) (by assumption) (fun s => ?hy) ?_; case hy => (go_simp <;> with_reducible rfl)
            try simp only [List.getElem_toArray, List.getElem_cons_succ, List.getElem_cons_zero, Act.put, List.setIfInBounds_toArray, List.set_cons_zero, List.set_cons_succ]
            refine mixs_take 23 (v := ?_) rfl (by kernel_rfl) (fun _ _ _ h => h) (by kernel_rfl) (by assumption) (fun s => ?hy) ?_; case hy => (go_simp <;> with_reducible rfl)
            try simp only [List.getElem_toArray, List.getElem_cons_succ, List.getElem_cons_zero, Act.put, List.setIfInBounds_toArray, List.set_cons_zero, List.set_cons_succ]
            refine wpAnyH_done (by kernel_rfl) ?_ _
            clear kp ki kF
            go_wp2_with (first
              | (go_at_call 25; (with_reducible refine (cA.out _).mono ?_); rintro _ w9 ⟨rfl, hk9⟩; have hS1 := hS.keepB hk9; clear hk9 hS; have hS := hS1; clear hS1))
            go_ret
            exact ⟨rfl, hS.below⟩
          · have dl : decide (cs[j].id ≤ cs[p].id) = false := decide_eq_false hle
            have hnx2 := Lib.hid (hnx (by omega))
            clear hnx hle
            generalize cs[j].id = idj at *
            generalize cs[p].id = idp at *
            generalize cdRow cs[j] = RF at *
            go_wp2_with fail
            refine mixs_begin (by kernel_rfl) hS ?_
            clear hS
            intro w2 hS
            refine mixs_take 0 (v := ?_) rfl (by kernel_rfl) (fun _ _ _ h => h) (by kernel_rfl) (by assumption) (fun s => ?hy) ?_; case hy => (go_simp <;> with_reducible rfl)
            try simp only [List.getElem_toArray, List.getElem_cons_succ, List.getElem_cons_zero, Act.put, List.setIfInBounds_toArray, List.set_cons_zero, List.set_cons_succ]
            refine mixs_take 1 (v := ?_) rfl (by kernel_rfl) (fun _ _ _ h => h) (by kernel_rfl) (by assumption) (fun s => ?hy) ?_; case hy => (go_simp <;> with_reducible rfl)
            try simp only [List.getElem_toArray, List.getElem_cons_succ, List.getElem_cons_zero, Act.put, List.setIfInBounds_toArray, List.set_cons_zero, List.set_cons_succ]
            refine mixs_take 2 (v := ?_) rfl (by kernel_rfl) (fun _ _ _ h => h) (by kernel_rfl) (by assumption) (fun s => ?hy) ?_; case hy => (go_simp <;> with_reducible rfl)
            try simp only [List.getElem_toArray, List.getElem_cons_succ, List.getElem_cons_zero, Act.put, List.setIfInBounds_toArray, List.set_cons_zero, List.set_cons_succ]
            refine mixs_take 3 (v := ?_) rfl (by kernel_rfl) (fun _ _ _ h => h) (by kernel_rfl) (by assumption) (fun s => ?hy) ?_; case hy => (refine Eq.trans (take_loadrow s rfl rfl kF) ?_; with_reducible rfl)
            try simp only [List.getElem_toArray, List.getElem_cons_succ, List.getElem_cons_zero, Act.put, List.setIfInBounds_toArray, List.set_cons_zero, List.set_cons_succ]
            refine mixs_one 4 (by kernel_rfl) rfl (fun K hK => ?_)
            go_simp
            ( (go_at_call 19; (with_reducible refine (hcG.out _).mono ?_); rintro _ w9 ⟨rfl, hk9⟩; have hS1 := hS.keepB hk9; clear hk9 hS; have hS := hS1; clear hS1) )
            try clear hC
            refine hK.out _ _ _ (fun _ h => h) (by first | exact hS | exact hS.drop | exact hS.drop.drop | exact hS.drop.drop.drop | exact hS.drop.drop.drop.drop | exact hS.empty | exact hS.one 0 rfl | exact hS.one 1 rfl | exact hS.one 2 rfl | exact hS.one 3 rfl | exact hS.one 4 rfl | exact hS.one 5 rfl | exact hS.one 6 rfl | exact hS.one 7 rfl | exact hS.one 8 rfl | exact hS.one 9 rfl | exact hS.one 10 rfl | exact hS.one 11 rfl) (fun hC => ?_)
            clear hK K
            try simp only [List.getElem_toArray, List.getElem_cons_succ, List.getElem_cons_zero, Act.put, List.setIfInBounds_toArray, List.set_cons_zero, List.set_cons_succ]
            refine mixs_take 5 (v := ?_) rfl (by kernel_rfl) (fun _ _ _ h => h) (by kernel_rfl) (by assumption) (fun s => ?hy) ?_; case hy => (go_simp <;> with_reducible rfl)
            try simp only [List.getElem_toArray, List.getElem_cons_succ, List.getElem_cons_zero, Act.put, List.setIfInBounds_toArray, List.set_cons_zero, List.set_cons_succ]
            refine mixs_take 6 (v := ?_) rfl (by kernel_rfl) (fun _ _ _ h => h) (by kernel_rfl) (by assumption) (fun s => ?hy) ?_; case hy => (go_simp <;> with_reducible rfl)
            try simp only [List.getElem_toArray, List.getElem_cons_succ, List.getElem_cons_zero, Act.put, List.setIfInBounds_toArray, List.set_cons_zero, List.set_cons_succ]
            refine mixs_take 7 (v := ?_) rfl (by kernel_rfl) (fun _ _ _ h => h) (by kernel_rfl) (by assumption) (fun s => ?hy) ?_; case hy => (go_simp <;> with_reducible rfl)
            try simp only [List.getElem_toArray, List.getElem_cons_succ, List.getElem_cons_zero, Act.put, List.setIfInBounds_toArray, List.set_cons_zero, List.set_cons_succ]
            refine mixs_take 8 (v := ?_) rfl (by kernel_rfl) (fun _ _ _ h => h) (by kernel_rfl) (by assumption) (fun s => ?hy) ?_; case hy => (go_simp <;> with_reducible rfl)
            try simp only [List.getElem_toArray, List.getElem_cons_succ, List.getElem_cons_zero, Act.put, List.setIfInBounds_toArray, List.set_cons_zero, List.set_cons_succ]
            refine mixs_take 9 (v := ?_) rfl (by kernel_rfl) (fun _ _ _ h => h) (by kernel_rfl) (by assumption) (fun s => ?hy) ?_; case hy => (go_simp <;> with_reducible rfl)
            try simp only [List.getElem_toArray, List.getElem_cons_succ, List.getElem_cons_zero, Act.put, List.setIfInBounds_toArray, List.set_cons_zero, List.set_cons_succ]
            refine mixs_take 10 (v := ?_) rfl (by kernel_rfl) (fun _ _ _ h => h) (by kernel_rfl) (by assumption) (fun s => ?hy) ?_; case hy => (go_simp <;> with_reducible rfl)
            try simp only [List.getElem_toArray, List.getElem_cons_succ, List.getElem_cons_zero, Act.put, List.setIfInBounds_toArray, List.set_cons_zero, List.set_cons_succ]
            refine mixs_take 11 (v := ?_) rfl (by kernel_rfl) (fun _ _ _ h => h) (by kernel_rfl) (by assumption) (fun s => ?hy) ?_; case hy => (go_simp <;> with_reducible rfl)
            try simp only [List.getElem_toArray, List.getElem_cons_succ, List.getElem_cons_zero, Act.put, List.setIfInBounds_toArray, List.set_cons_zero, List.set_cons_succ]
            refine mixs_take 12 (v := ?_) rfl (by kernel_rfl) (fun _ _ _ h => h) (by kernel_rfl) (by assumption) (fun s => ?hy) ?_; case hy => (go_simp <;> with_reducible rfl)
            try simp only [List.getElem_toArray, List.getElem_cons_succ, List.getElem_cons_zero, Act.put, List.setIfInBounds_toArray, List.set_cons_zero, List.set_cons_succ]
            refine mixs_take 13 (v := ?_) rfl (by kernel_rfl) (fun _ _ _ h => h) (by kernel_rfl) (by assumption) (fun s => ?hy) ?_; case hy => (go_simp <;> with_reducible rfl)
            try simp only [List.getElem_toArray, List.getElem_cons_succ, List.getElem_cons_zero, Act.put, List.setIfInBounds_toArray, List.set_cons_zero, List.set_cons_succ]
            refine mixs_take 14 (v := ?_) rfl (by kernel_rfl) (fun _ _ _ h => h) (by kernel_rfl) (by assumption) (fun s => ?hy) ?_; case hy => (go_simp <;> with_reducible rfl)
            try simp only [List.getElem_toArray, List.getElem_cons_succ, List.getElem_cons_zero, Act.put, List.setIfInBounds_toArray, List.set_cons_zero, List.set_cons_succ]
            refine mixs_take 15 (v := ?_) rfl (by kernel_rfl) (fun _ _ _ h => h) (by kernel_rfl) (by assumption) (fun s => ?hy) ?_; case hy => (go_simp <;> with_reducible rfl)
            try simp only [List.getElem_toArray, List.getElem_cons_succ, List.getElem_cons_zero, Act.put, List.setIfInBounds_toArray, List.set_cons_zero, List.set_cons_succ]
            refine mixs_take 16 (v := ?_) rfl (by kernel_rfl) (fun _ _ _ h => h) (by kernel_rfl) (by assumption) (fun s => ?hy) ?_; case hy => (go_simp <;> with_reducible rfl)
            try simp only [List.getElem_toArray, List.getElem_cons_succ, List.getElem_cons_zero, Act.put, List.setIfInBounds_toArray, List.set_cons_zero, List.set_cons_succ]
            refine mixs_take 17 (v := ?_) rfl (by kernel_rfl) (fun _ _ _ h => h) (by kernel_rfl) (by assumption) (fun s => ?hy) ?_; case hy => (go_simp <;> with_reducible rfl)
            try simp only [List.getElem_toArray, List.getElem_cons_succ, List.getElem_cons_zero, Act.put, List.setIfInBounds_toArray, List.set_cons_zero, List.set_cons_succ]
            refine mixs_take 18 (v := ?_) rfl (by kernel_rfl) (fun _ _ _ h => h) (by kernel_rfl) (by assumption) (fun s => ?hy) ?_; case hy => (go_simp <;> with_reducible rfl)
            try simp only [List.getElem_toArray, List.getElem_cons_succ, List.getElem_cons_zero, Act.put, List.setIfInBounds_toArray, List.set_cons_zero, List.set_cons_succ]
            refine mixs_take 19 (v := ?_) rfl (by kernel_rfl) (fun _ _ _ h => h) (by kernel_rfl) (by assumption) (fun s => ?hy) ?_; case hy => (go_simp <;> with_reducible rfl)
            try simp only [List.getElem_toArray, List.getElem_cons_succ, List.getElem_cons_zero, Act.put, List.setIfInBounds_toArray, List.set_cons_zero, List.set_cons_succ]
            refine mixs_take 20 (v := ?_) rfl (by kernel_rfl) (fun _ _ _ h => h) (by kernel_rfl) (by assumption) (fun s => ?hy) ?_; case hy => (go_simp <;> with_reducible rfl)
            try simp only [List.getElem_toArray, List.getElem_cons_succ, List.getElem_cons_zero, Act.put, List.setIfInBounds_toArray, List.set_cons_zero, List.set_cons_succ]
            refine mixs_take 21 (v := ?_) rfl (by kernel_rfl) (fun _ _ _ h => h) (by kernel_rfl) (by assumption) (fun s => ?hy) ?_; case hy => (go_simp <;> with_reducible rfl)
            try simp only [List.getElem_toArray, List.getElem_cons_succ, List.getElem_cons_zero, Act.put, List.setIfInBounds_toArray, List.set_cons_zero, List.set_cons_succ]
            refine mixs_take 22 (v := ?_) rfl (by kernel_rfl) (fun _ _ _ h => h) (by kernel_rfl) (by assumption) (fun s => ?hy) ?_; case hy => (go_simp <;> with_reducible rfl)
            try simp only [List.getElem_toArray, List.getElem_cons_succ, List.getElem_cons_zero, Act.put, List.setIfInBounds_toArray, List.set_cons_zero, List.set_cons_succ]
            refine mixs_take 23 (v := ?_) rfl (by kernel_rfl) (fun _ _ _ h => h) (by kernel_rfl) (by assumption) (fun s => ?hy) ?_; case hy => (go_simp <;> with_reducible rfl)
            try simp only [List.getElem_toArray, List.getElem_cons_succ, List.getElem_cons_zero, Act.put, List.setIfInBounds_toArray, List.set_cons_zero, List.set_cons_succ]
            refine wpAnyH_done (by kernel_rfl) ?_ _
            clear kp ki kF
            go_wp2_with fail
            go_roundg (m - (j + 1))
            case measure => omega
            case rel => exact ⟨j + 1, by omega, by go_num, hnx2, hok3, hS⟩
        · have dj : decide (0 < (j : Int)) = false := decide_eq_false (by omega)
          have dj2 : decide (0 < j) = false := decide_eq_false hj0
          have hnx2 := Lib.hid (show ∀ i (hi : i + 1 < cs.length), i + 1 < j + 1 → cs[i].id < cs[i + 1].id from fun i _ h => by omega)
          clear hj0 hpv
          generalize cs[j].id = idj at *
          generalize cdRow cs[j] = RF at *
          go_wp2_with fail
          refine mixs_begin (by kernel_rfl) hS ?_
          clear hS
          intro w2 hS
          refine mixs_take 0 (v := ?_) rfl (by kernel_rfl) (fun _ _ _ h => h) (by kernel_rfl) (by assumption) (fun s => ?hy) ?_; case hy => (go_simp <;> with_reducible rfl)
          try simp only [List.getElem_toArray, List.getElem_cons_succ, List.getElem_cons_zero, Act.put, List.setIfInBounds_toArray, List.set_cons_zero, List.set_cons_succ]
          refine mixs_take 1 (v := ?_) rfl (by kernel_rfl) (fun _ _ _ h => h) (by kernel_rfl) (by assumption) (fun s => ?hy) ?_; case hy => (go_simp <;> with_reducible rfl)
          try simp only [List.getElem_toArray, List.getElem_cons_succ, List.getElem_cons_zero, Act.put, List.setIfInBounds_toArray, List.set_cons_zero, List.set_cons_succ]
          refine mixs_take 2 (v := ?_) rfl (by kernel_rfl) (fun _ _ _ h => h) (by kernel_rfl) (by assumption) (fun s => ?hy) ?_; case hy => (go_simp <;> with_reducible rfl)
          try simp only [List.getElem_toArray, List.getElem_cons_succ, List.getElem_cons_zero, Act.put, List.setIfInBounds_toArray, List.set_cons_zero, List.set_cons_succ]
          refine mixs_take 3 (v := ?_) rfl (by kernel_rfl) (fun _ _ _ h => h) (by kernel_rfl) (by assumption) (fun s => ?hy) ?_; case hy => (refine Eq.trans (take_loadrow s rfl rfl kF) ?_; with_reducible rfl)
          try simp only [List.getElem_toArray, List.getElem_cons_succ, List.getElem_cons_zero, Act.put, List.setIfInBounds_toArray, List.set_cons_zero, List.set_cons_succ]
          refine mixs_one 4 (by kernel_rfl) rfl (fun K hK => ?_)
          go_simp
          ( (go_at_call 19; (with_reducible refine (hcG.out _).mono ?_); rintro _ w9 ⟨rfl, hk9⟩; have hS1 := hS.keepB hk9; clear hk9 hS; have hS := hS1; clear hS1) )
          try clear hC
          refine hK.out _ _ _ (fun _ h => h) (by first | exact hS | exact hS.drop | exact hS.drop.drop | exact hS.drop.drop.drop | exact hS.drop.drop.drop.drop | exact hS.empty | exact hS.one 0 rfl | exact hS.one 1 rfl | exact hS.one 2 rfl | exact hS.one 3 rfl | exact hS.one 4 rfl | exact hS.one 5 rfl | exact hS.one 6 rfl | exact hS.one 7 rfl | exact hS.one 8 rfl | exact hS.one 9 rfl | exact hS.one 10 rfl | exact hS.one 11 rfl) (fun hC => ?_)
          clear hK K
          try simp only [List.getElem_toArray, List.getElem_cons_succ, List.getElem_cons_zero, Act.put, List.setIfInBounds_toArray, List.set_cons_zero, List.set_cons_succ]
          refine mixs_take 5 (v := ?_) rfl (by kernel_rfl) (fun _ _ _ h => h) (by kernel_rfl) (by assumption) (fun s => ?hy) ?_; case hy => (go_simp <;> with_reducible rfl)
          try simp only [List.getElem_toArray, List.getElem_cons_succ, List.getElem_cons_zero, Act.put, List.setIfInBounds_toArray, List.set_cons_zero, List.set_cons_succ]
          refine mixs_take 6 (v := ?_) rfl (by kernel_rfl) (fun _ _ _ h => h) (by kernel_rfl) (by assumption) (fun s => ?hy) ?_; case hy => (go_simp <;> with_reducible rfl)
          try simp only [List.getElem_toArray, List.getElem_cons_succ, List.getElem_cons_zero, Act.put, List.setIfInBounds_toArray, List.set_cons_zero, List.set_cons_succ]
          refine mixs_take 7 (v := ?_) rfl (by kernel_rfl) (fun _ _ _ h => h) (by kernel_rfl) (by assumption) (fun s => ?hy) ?_; case hy => (go_simp <;> with_reducible rfl)
          try simp only [List.getElem_toArray, List.getElem_cons_succ, List.getElem_cons_zero, Act.put, List.setIfInBounds_toArray, List.set_cons_zero, List.set_cons_succ]
          refine mixs_take 8 (v := ?_) rfl (by kernel_rfl) (fun _ _ _ h => h) (by kernel_rfl) (by assumption) (fun s => ?hy) ?_; case hy => (go_simp <;> with_reducible rfl)
          try simp only [List.getElem_toArray, List.getElem_cons_succ, List.getElem_cons_zero, Act.put, List.setIfInBounds_toArray, List.set_cons_zero, List.set_cons_succ]
          refine mixs_take 9 (v := ?_) rfl (by kernel_rfl) (fun _ _ _ h => h) (by kernel_rfl) (by assumption) (fun s => ?hy) ?_; case hy => (go_simp <;> with_reducible rfl)
          try simp only [List.getElem_toArray, List.getElem_cons_succ, List.getElem_cons_zero, Act.put, List.setIfInBounds_toArray, List.set_cons_zero, List.set_cons_succ]
          refine mixs_skip 10 rfl (by kernel_rfl) (fun _ _ _ h => h) (by kernel_rfl) (by assumption) ?_
          try simp only [List.getElem_toArray, List.getElem_cons_succ, List.getElem_cons_zero, Act.put, List.setIfInBounds_toArray, List.set_cons_zero, List.set_cons_succ]
          refine mixs_skip 11 rfl (by kernel_rfl) (fun _ _ _ h => h) (by kernel_rfl) (by assumption) ?_
          try simp only [List.getElem_toArray, List.getElem_cons_succ, List.getElem_cons_zero, Act.put, List.setIfInBounds_toArray, List.set_cons_zero, List.set_cons_succ]
          refine mixs_skip 12 rfl (by kernel_rfl) (fun _ _ _ h => h) (by kernel_rfl) (by assumption) ?_
          try simp only [List.getElem_toArray, List.getElem_cons_succ, List.getElem_cons_zero, Act.put, List.setIfInBounds_toArray, List.set_cons_zero, List.set_cons_succ]
          refine mixs_skip 13 rfl (by kernel_rfl) (fun _ _ _ h => h) (by kernel_rfl) (by assumption) ?_
          try simp only [List.getElem_toArray, List.getElem_cons_succ, List.getElem_cons_zero, Act.put, List.setIfInBounds_toArray, List.set_cons_zero, List.set_cons_succ]
          refine mixs_skip 14 rfl (by kernel_rfl) (fun _ _ _ h => h) (by kernel_rfl) (by assumption) ?_
          try simp only [List.getElem_toArray, List.getElem_cons_succ, List.getElem_cons_zero, Act.put, List.setIfInBounds_toArray, List.set_cons_zero, List.set_cons_succ]
          refine mixs_skip 15 rfl (by kernel_rfl) (fun _ _ _ h => h) (by kernel_rfl) (by assumption) ?_
          try simp only [List.getElem_toArray, List.getElem_cons_succ, List.getElem_cons_zero, Act.put, List.setIfInBounds_toArray, List.set_cons_zero, List.set_cons_succ]
          refine mixs_skip 16 rfl (by kernel_rfl) (fun _ _ _ h => h) (by kernel_rfl) (by assumption) ?_
          try simp only [List.getElem_toArray, List.getElem_cons_succ, List.getElem_cons_zero, Act.put, List.setIfInBounds_toArray, List.set_cons_zero, List.set_cons_succ]
          refine mixs_skip 17 rfl (by kernel_rfl) (fun _ _ _ h => h) (by kernel_rfl) (by assumption) ?_
          try simp only [List.getElem_toArray, List.getElem_cons_succ, List.getElem_cons_zero, Act.put, List.setIfInBounds_toArray, List.set_cons_zero, List.set_cons_succ]
          refine mixs_skip 18 rfl (by kernel_rfl) (fun _ _ _ h => h) (by kernel_rfl) (by assumption) ?_
          try simp only [List.getElem_toArray, List.getElem_cons_succ, List.getElem_cons_zero, Act.put, List.setIfInBounds_toArray, List.set_cons_zero, List.set_cons_succ]
          refine mixs_skip 19 rfl (by kernel_rfl) (fun _ _ _ h => h) (by kernel_rfl) (by assumption) ?_
          try simp only [List.getElem_toArray, List.getElem_cons_succ, List.getElem_cons_zero, Act.put, List.setIfInBounds_toArray, List.set_cons_zero, List.set_cons_succ]
          refine mixs_skip 20 rfl (by kernel_rfl) (fun _ _ _ h => h) (by kernel_rfl) (by assumption) ?_
          try simp only [List.getElem_toArray, List.getElem_cons_succ, List.getElem_cons_zero, Act.put, List.setIfInBounds_toArray, List.set_cons_zero, List.set_cons_succ]
          refine mixs_skip 21 rfl (by kernel_rfl) (fun _ _ _ h => h) (by kernel_rfl) (by assumption) ?_
          try simp only [List.getElem_toArray, List.getElem_cons_succ, List.getElem_cons_zero, Act.put, List.setIfInBounds_toArray, List.set_cons_zero, List.set_cons_succ]
          refine mixs_take 22 (v := ?_) rfl (by kernel_rfl) (fun _ _ _ h => h) (by kernel_rfl) (by assumption) (fun s => ?hy) ?_; case hy => (go_simp <;> with_reducible rfl)
          try simp only [List.getElem_toArray, List.getElem_cons_succ, List.getElem_cons_zero, Act.put, List.setIfInBounds_toArray, List.set_cons_zero, List.set_cons_succ]
          refine mixs_take 23 (v := ?_) rfl (by kernel_rfl) (fun _ _ _ h => h) (by kernel_rfl) (by assumption) (fun s => ?hy) ?_; case hy => (go_simp <;> with_reducible rfl)
          try simp only [List.getElem_toArray, List.getElem_cons_succ, List.getElem_cons_zero, Act.put, List.setIfInBounds_toArray, List.set_cons_zero, List.set_cons_succ]
          refine wpAnyH_done (by kernel_rfl) ?_ _
          clear ki kF
          go_wp2_with fail
          go_roundg (m - (j + 1))
          case measure => omega
          case rel => exact ⟨j + 1, by omega, by go_num, hnx2, hok3, hS⟩
    · have hris : RisC cs := ris_of_adj fun i hi => hr.out i hi (by have := hlen.out; omega)
      have hver : ∀ c ∈ cs, 1 ≤ c.ver := fun x hx => by
        obtain ⟨i, hi, rfl⟩ := List.getElem_of_mem hx
        have := ho.out i hi (by have := hlen.out; omega)
        unfold Cd.ok at this
        rw [Bool.and_eq_true, decide_eq_true_eq] at this
        exact this.1.2.2.1
      have cT0r := cT0.out hris
      have cT1r := cT1.out hris
      clear cT0 cT1 hr ho
      by_cases hF : Fit0 cs l l.length
      · obtain ⟨m1, m2, e1, e2, e3, r1, q1, q2, o1, o2⟩ := hfin.out hris hver hF
        have cT2r := cT2.out m1 q1 r1
        rw [e3] at cT0r
        rw [e1] at cT1r
        rw [e2] at cT2r
        have cE2 := Lib.hid (cE.out m2 q2)
        have cFr : ∀ W, Below w.heap.size w W → Calls Try.prog 21 #[.slice b m d, .slice a n c] W fun e w' => e = .returned (.bool true) ∧ Below W.heap.size W w' := fun W hb => (cF.out W hb).mono fun e w' ⟨⟨r, h1, h2⟩, h3⟩ => ⟨by rw [h1, h2.2 hF], h3⟩
        have oo2 := Lib.hid (show ∀ c ∈ m2, c.f.length = 8 from fun x hx => (o2 x hx).f)
        clear hF r1 q1 q2 hris hver hfin cT2 o2 cF
        rcases Nat.eq_zero_or_pos n with hn0 | hn0
        · subst hn0
          obtain rfl : k = 0 := by omega
          obtain rfl : N0 = [] := List.length_eq_zero_iff.1 (by omega)
          obtain rfl : N1 = [] := List.length_eq_zero_iff.1 (by omega)
          obtain rfl : N2 = [] := List.length_eq_zero_iff.1 (by omega)
          obtain rfl : cs = m2 := Option.some.inj e3
          obtain rfl : cs = m1 := Option.some.inj e1
          have cN2r := cN2.out a c ⟨by rw [show l.drop 0 = l from rfl]; exact hl.out.sl, by rw [show l.drop 0 = l from rfl]; exact hl.out.len, Nat.zero_le _, hl.out.cm, by rw [show l.drop 0 = l from rfl]; exact hl.out.mem⟩
          simp only [List.length_nil] at cN0 cN1 cN2r cT0r cT1r cT2r cY
          replace cN2r := Lib.hid cN2r
          clear e1 e2 e3
          cases a with
          | none =>
            replace cT0r := Lib.hid cT0r
            replace cT1r := Lib.hid cT1r
            replace cT2r := Lib.hid cT2r
            replace cFr := Lib.hid cFr
            replace o1 := Lib.hid o1
            go_wp2_with (first
              | (go_at_call 26; (with_reducible refine (cN0.out _ hS.below).mono ?_); rintro _ w5 ⟨ai, ci, rfl, hk9⟩; have hS1 := hS.made hk9; clear hS hk9; have hS := hS1; clear hS1)
              | (go_at_call 26; (with_reducible refine (cN1.out _ hS.below).mono ?_); rintro _ w5 ⟨aj, cj, rfl, hk9⟩; have hS1 := hS.made hk9; clear hS hk9; have hS := hS1; clear hS1)
              | (go_at_call 26; (with_reducible refine (cN2r.out _ hS.below).mono ?_); rintro _ w5 ⟨ak, ck, rfl, hk9⟩; have hS1 := hS.made hk9; clear hS hk9; have hS := hS1; clear hS1)
              | (go_at_call 31; (with_reducible refine (cT0r.out _ hS.below _ _ (hS.lst 0 rfl (by first | rfl | exact List.length_nil) hi0.out)).mono ?_); rintro _ w3 ⟨a8, c8, rfl, hk9⟩; have hS1 := hS.made hk9; clear hS hk9; have hS := hS1; clear hS1)
              | (go_at_call 31; (with_reducible refine (cT1r.out _ hS.below _ _ (hS.lst 0 rfl (by first | rfl | exact List.length_nil) hi1.out)).mono ?_); rintro _ w3 ⟨a9, c9, rfl, hk9⟩; have hS1 := hS.made hk9; clear hS hk9; have hS := hS1; clear hS1)
              | (go_at_call 31; (with_reducible refine (cT2r.out _ _ _ _ _ (hS.lst 1 rfl rfl o1.out) (hS.lst 0 rfl (by first | rfl | exact List.length_nil) hi2.out)).mono ?_); rintro _ w3 ⟨a7, c7, rfl, hk9⟩; have hS1 := hS.made hk9; clear hS hk9; have hS := hS1; clear hS1)
              | (go_at_call 21; (with_reducible refine (cFr.out _ hS.below).mono ?_); rintro _ w3 ⟨rfl, hk9⟩; have hS1 := hS.keepB hk9; clear hk9 hS; have hS := hS1; clear hS1)
              | (go_at_call 22; (with_reducible refine (cE2.out _ _ _ _ _ (hS.lst 4 rfl rfl oo2.out) (hS.lst 0 rfl rfl oo2.out)).mono ?_); rintro _ w3 ⟨rfl, hk9⟩; have hS1 := hS.keepB hk9; clear hk9 hS; have hS := hS1; clear hS1)
              | (go_at_call 32; (with_reducible refine (cY.out _ _ _ (hS.lst 5 rfl (by first | rfl | exact List.length_nil) hj0.out)).mono ?_); rintro _ w3 ⟨rfl, hk9⟩; have hS1 := hS.keepB hk9; clear hk9 hS; have hS := hS1; clear hS1)
              | (go_at_call 25; (with_reducible refine (cA.out _).mono ?_); rintro _ w9 ⟨rfl, hk9⟩; have hS1 := hS.keepB hk9; clear hk9 hS; have hS := hS1; clear hS1))
            go_ret
            exact ⟨rfl, hS.below⟩
          | some ad =>
            obtain ⟨bb, off, spot⟩ := ad
            replace cT0r := Lib.hid cT0r
            replace cT1r := Lib.hid cT1r
            replace cT2r := Lib.hid cT2r
            replace cFr := Lib.hid cFr
            replace o1 := Lib.hid o1
            go_wp2_with (first
              | (go_at_call 26; (with_reducible refine (cN0.out _ hS.below).mono ?_); rintro _ w5 ⟨ai, ci, rfl, hk9⟩; have hS1 := hS.made hk9; clear hS hk9; have hS := hS1; clear hS1)
              | (go_at_call 26; (with_reducible refine (cN1.out _ hS.below).mono ?_); rintro _ w5 ⟨aj, cj, rfl, hk9⟩; have hS1 := hS.made hk9; clear hS hk9; have hS := hS1; clear hS1)
              | (go_at_call 26; (with_reducible refine (cN2r.out _ hS.below).mono ?_); rintro _ w5 ⟨ak, ck, rfl, hk9⟩; have hS1 := hS.made hk9; clear hS hk9; have hS := hS1; clear hS1)
              | (go_at_call 31; (with_reducible refine (cT0r.out _ hS.below _ _ (hS.lst 0 rfl (by first | rfl | exact List.length_nil) hi0.out)).mono ?_); rintro _ w3 ⟨a8, c8, rfl, hk9⟩; have hS1 := hS.made hk9; clear hS hk9; have hS := hS1; clear hS1)
              | (go_at_call 31; (with_reducible refine (cT1r.out _ hS.below _ _ (hS.lst 0 rfl (by first | rfl | exact List.length_nil) hi1.out)).mono ?_); rintro _ w3 ⟨a9, c9, rfl, hk9⟩; have hS1 := hS.made hk9; clear hS hk9; have hS := hS1; clear hS1)
              | (go_at_call 31; (with_reducible refine (cT2r.out _ _ _ _ _ (hS.lst 1 rfl rfl o1.out) (hS.lst 0 rfl (by first | rfl | exact List.length_nil) hi2.out)).mono ?_); rintro _ w3 ⟨a7, c7, rfl, hk9⟩; have hS1 := hS.made hk9; clear hS hk9; have hS := hS1; clear hS1)
              | (go_at_call 21; (with_reducible refine (cFr.out _ hS.below).mono ?_); rintro _ w3 ⟨rfl, hk9⟩; have hS1 := hS.keepB hk9; clear hk9 hS; have hS := hS1; clear hS1)
              | (go_at_call 22; (with_reducible refine (cE2.out _ _ _ _ _ (hS.lst 4 rfl rfl oo2.out) (hS.lst 0 rfl rfl oo2.out)).mono ?_); rintro _ w3 ⟨rfl, hk9⟩; have hS1 := hS.keepB hk9; clear hk9 hS; have hS := hS1; clear hS1)
              | (go_at_call 32; (with_reducible refine (cY.out _ _ _ (hS.lst 5 rfl (by first | rfl | exact List.length_nil) hj0.out)).mono ?_); rintro _ w3 ⟨rfl, hk9⟩; have hS1 := hS.keepB hk9; clear hk9 hS; have hS := hS1; clear hS1)
              | (go_at_call 25; (with_reducible refine (cA.out _).mono ?_); rintro _ w9 ⟨rfl, hk9⟩; have hS1 := hS.keepB hk9; clear hk9 hS; have hS := hS1; clear hS1))
            go_ret
            exact ⟨rfl, hS.below⟩
        · obtain ⟨bb, off, rfl⟩ := hl.out.base (k := 31) (by decide) (tn_lens hl.out) hn0
          clear e1 e2 e3
          by_cases hck : c = k
          · subst hck
            have hz : n - c = 0 := by omega
            have cN2r := cN2.out (some ⟨bb, off, none⟩) 0 (by rw [hdr.out rfl, hz]; exact Lst.none _ _)
            rw [hz] at cN2r
            replace cN2r := Lib.hid cN2r
            replace cT0r := Lib.hid cT0r
            replace cT1r := Lib.hid cT1r
            replace cT2r := Lib.hid cT2r
            replace cFr := Lib.hid cFr
            replace o1 := Lib.hid o1
            go_wp2_with (first
              | (go_at_call 26; (with_reducible refine (cN0.out _ hS.below).mono ?_); rintro _ w5 ⟨ai, ci, rfl, hk9⟩; have hS1 := hS.made hk9; clear hS hk9; have hS := hS1; clear hS1)
              | (go_at_call 26; (with_reducible refine (cN1.out _ hS.below).mono ?_); rintro _ w5 ⟨aj, cj, rfl, hk9⟩; have hS1 := hS.made hk9; clear hS hk9; have hS := hS1; clear hS1)
              | (go_at_call 26; (with_reducible refine (cN2r.out _ hS.below).mono ?_); rintro _ w5 ⟨ak, ck, rfl, hk9⟩; have hS1 := hS.made hk9; clear hS hk9; have hS := hS1; clear hS1)
              | (go_at_call 31; (with_reducible refine (cT0r.out _ hS.below _ _ (hS.lst 0 rfl (by first | rfl | exact List.length_nil) hi0.out)).mono ?_); rintro _ w3 ⟨a8, c8, rfl, hk9⟩; have hS1 := hS.made hk9; clear hS hk9; have hS := hS1; clear hS1)
              | (go_at_call 31; (with_reducible refine (cT1r.out _ hS.below _ _ (hS.lst 0 rfl (by first | rfl | exact List.length_nil) hi1.out)).mono ?_); rintro _ w3 ⟨a9, c9, rfl, hk9⟩; have hS1 := hS.made hk9; clear hS hk9; have hS := hS1; clear hS1)
              | (go_at_call 31; (with_reducible refine (cT2r.out _ _ _ _ _ (hS.lst 1 rfl rfl o1.out) (hS.lst 0 rfl (by first | rfl | exact List.length_nil) hi2.out)).mono ?_); rintro _ w3 ⟨a7, c7, rfl, hk9⟩; have hS1 := hS.made hk9; clear hS hk9; have hS := hS1; clear hS1)
              | (go_at_call 21; (with_reducible refine (cFr.out _ hS.below).mono ?_); rintro _ w3 ⟨rfl, hk9⟩; have hS1 := hS.keepB hk9; clear hk9 hS; have hS := hS1; clear hS1)
              | (go_at_call 22; (with_reducible refine (cE2.out _ _ _ _ _ (hS.lst 4 rfl rfl oo2.out) (hS.lst 0 rfl rfl oo2.out)).mono ?_); rintro _ w3 ⟨rfl, hk9⟩; have hS1 := hS.keepB hk9; clear hk9 hS; have hS := hS1; clear hS1)
              | (go_at_call 32; (with_reducible refine (cY.out _ _ _ (hS.lst 5 rfl (by first | rfl | exact List.length_nil) hj0.out)).mono ?_); rintro _ w3 ⟨rfl, hk9⟩; have hS1 := hS.keepB hk9; clear hk9 hS; have hS := hS1; clear hS1)
              | (go_at_call 25; (with_reducible refine (cA.out _).mono ?_); rintro _ w9 ⟨rfl, hk9⟩; have hS1 := hS.keepB hk9; clear hk9 hS; have hS := hS1; clear hS1))
            go_ret
            exact ⟨rfl, hS.below⟩
          · have cN2r := cN2.out _ _ (hl.out.dropL (tn_lens hl.out) k hk)
            replace cN2r := Lib.hid cN2r
            replace cT0r := Lib.hid cT0r
            replace cT1r := Lib.hid cT1r
            replace cT2r := Lib.hid cT2r
            replace cFr := Lib.hid cFr
            replace o1 := Lib.hid o1
            go_wp2_with (first
              | (go_at_call 26; (with_reducible refine (cN0.out _ hS.below).mono ?_); rintro _ w5 ⟨ai, ci, rfl, hk9⟩; have hS1 := hS.made hk9; clear hS hk9; have hS := hS1; clear hS1)
              | (go_at_call 26; (with_reducible refine (cN1.out _ hS.below).mono ?_); rintro _ w5 ⟨aj, cj, rfl, hk9⟩; have hS1 := hS.made hk9; clear hS hk9; have hS := hS1; clear hS1)
              | (go_at_call 26; (with_reducible refine (cN2r.out _ hS.below).mono ?_); rintro _ w5 ⟨ak, ck, rfl, hk9⟩; have hS1 := hS.made hk9; clear hS hk9; have hS := hS1; clear hS1)
              | (go_at_call 31; (with_reducible refine (cT0r.out _ hS.below _ _ (hS.lst 0 rfl (by first | rfl | exact List.length_nil) hi0.out)).mono ?_); rintro _ w3 ⟨a8, c8, rfl, hk9⟩; have hS1 := hS.made hk9; clear hS hk9; have hS := hS1; clear hS1)
              | (go_at_call 31; (with_reducible refine (cT1r.out _ hS.below _ _ (hS.lst 0 rfl (by first | rfl | exact List.length_nil) hi1.out)).mono ?_); rintro _ w3 ⟨a9, c9, rfl, hk9⟩; have hS1 := hS.made hk9; clear hS hk9; have hS := hS1; clear hS1)
              | (go_at_call 31; (with_reducible refine (cT2r.out _ _ _ _ _ (hS.lst 1 rfl rfl o1.out) (hS.lst 0 rfl (by first | rfl | exact List.length_nil) hi2.out)).mono ?_); rintro _ w3 ⟨a7, c7, rfl, hk9⟩; have hS1 := hS.made hk9; clear hS hk9; have hS := hS1; clear hS1)
              | (go_at_call 21; (with_reducible refine (cFr.out _ hS.below).mono ?_); rintro _ w3 ⟨rfl, hk9⟩; have hS1 := hS.keepB hk9; clear hk9 hS; have hS := hS1; clear hS1)
              | (go_at_call 22; (with_reducible refine (cE2.out _ _ _ _ _ (hS.lst 4 rfl rfl oo2.out) (hS.lst 0 rfl rfl oo2.out)).mono ?_); rintro _ w3 ⟨rfl, hk9⟩; have hS1 := hS.keepB hk9; clear hk9 hS; have hS := hS1; clear hS1)
              | (go_at_call 32; (with_reducible refine (cY.out _ _ _ (hS.lst 5 rfl (by first | rfl | exact List.length_nil) hj0.out)).mono ?_); rintro _ w3 ⟨rfl, hk9⟩; have hS1 := hS.keepB hk9; clear hk9 hS; have hS := hS1; clear hS1)
              | (go_at_call 25; (with_reducible refine (cA.out _).mono ?_); rintro _ w9 ⟨rfl, hk9⟩; have hS1 := hS.keepB hk9; clear hk9 hS; have hS := hS1; clear hS1))
            go_ret
            exact ⟨rfl, hS.below⟩
      · have cFr : ∀ W, Below w.heap.size w W → Calls Try.prog 21 #[.slice b m d, .slice a n c] W fun e w' => e = .returned (.bool false) ∧ Below W.heap.size W w' := fun W hb => (cF.out W hb).mono fun e w' ⟨⟨r, h1, h2⟩, h3⟩ => ⟨by rw [h1, Bool.eq_false_iff.2 fun h => hF (h2.1 h)], h3⟩
        have cT0a := fun (W : World) (hb : Below w.heap.size w W) ai ci hN => (cT0r W hb ai ci hN).mono fun e w' h => apR_any h
        have cT1a := fun (W : World) (hb : Below w.heap.size w W) ai ci hN => (cT1r W hb ai ci hN).mono fun e w' h => apR_any h
        replace cT0a := Lib.hid cT0a
        replace cT1a := Lib.hid cT1a
        replace cFr := Lib.hid cFr
        clear hF cT0r cT1r hris hver hfin cT2 cF
        go_wp2_with (first
          | (go_at_call 26; (with_reducible refine (cN0.out _ hS.below).mono ?_); rintro _ w5 ⟨ai, ci, rfl, hk9⟩; have hS1 := hS.made hk9; clear hS hk9; have hS := hS1; clear hS1)
          | (go_at_call 26; (with_reducible refine (cN1.out _ hS.below).mono ?_); rintro _ w5 ⟨aj, cj, rfl, hk9⟩; have hS1 := hS.made hk9; clear hS hk9; have hS := hS1; clear hS1)
          | (go_at_call 31; (with_reducible refine (cT0a.out _ hS.below _ _ (hS.lst 0 rfl rfl hi0.out)).mono ?_); rintro _ w3 ⟨a8, n8, c8, x8, rfl, hk9⟩; have hS1 := hS.keepB hk9; clear hk9 hS; have hS := hS1; clear hS1)
          | (go_at_call 31; (with_reducible refine (cT1a.out _ hS.below _ _ (hS.lst 0 rfl rfl hi1.out)).mono ?_); rintro _ w3 ⟨a9, n9, c9, x9, rfl, hk9⟩; have hS1 := hS.keepB hk9; clear hk9 hS; have hS := hS1; clear hS1)
          | (go_at_call 21; (with_reducible refine (cFr.out _ hS.below).mono ?_); rintro _ w3 ⟨rfl, hk9⟩; have hS1 := hS.keepB hk9; clear hk9 hS; have hS := hS1; clear hS1)
          | (go_at_call 25; (with_reducible refine (cA.out _).mono ?_); rintro _ w9 ⟨rfl, hk9⟩; have hS1 := hS.keepB hk9; clear hk9 hS; have hS := hS1; clear hS1))
        go_ret
        exact ⟨rfl, hS.below⟩
theorem twice23_any (a b : Option Addr) (n c m d : Nat) (l : List Tn) (cs : List Cd) (z : Int) (w : World) (hl : Lst tnRow TnIn w a n c l) (hc : Lst cdRow CdIn w b m d cs) :
    Calls Try.prog 8 #[.slice a n c, .int .i64 z, .slice b m d] w fun e w' => e = .returned (.bool true) ∧ Below w.heap.size w w' := by
  have hS := St.start w
  have cA := Lib.hid fun W : World => awake23_any W
  have hnm : n ≤ 9223372036854775807 := by have := hl.le; have := hl.cm; unfold maxLen at this; omega
  have hmm : m ≤ 9223372036854775807 := by have := hc.le; have := hc.cm; unfold maxLen at this; omega
  have cL : ∀ W, Below w.heap.size w W → Calls Try.prog 12 #[.slice a n c] W fun e w' => e = .returned (.bool (largeT l)) ∧ Below W.heap.size W w' := fun W hb => largeT_any a n c l W (hl.below hb)
  cases h1 : largeT l
  · rw [h1] at cL
    have hn : n ≤ 1000 := by
      have h := h1
      unfold largeT at h
      rw [Bool.or_eq_false_iff] at h
      have := of_decide_eq_false h.1
      rw [hl.len] at this
      omega
    have cC : ∀ W, Below w.heap.size w W → Calls Try.prog 13 #[.slice a n c] W fun e w' => e = .returned (.bool (goes Cd.ok [] l)) ∧ Below W.heap.size W w' := fun W hb => rcheck23_any a n c l W (hl.below hb) hn
    cases h2 : goes Cd.ok [] l
    · rw [h2] at cC
      replace cL := Lib.hid cL
      replace cC := Lib.hid cC
      replace hl := Lib.hid hl
      replace hc := Lib.hid hc
      clear h1
      go_enter Try.func8, Try.ntmps8
      go_wp2_with (first
        | (go_at_call 12; (with_reducible refine (cL.out _ hS.below).mono ?_); rintro _ w3 ⟨rfl, hk9⟩; have hS1 := hS.keepB hk9; clear hk9 hS; have hS := hS1; clear hS1)
        | (go_at_call 13; (with_reducible refine (cC.out _ hS.below).mono ?_); rintro _ w3 ⟨rfl, hk9⟩; have hS1 := hS.keepB hk9; clear hk9 hS; have hS := hS1; clear hS1)
        | (go_at_call 25; (with_reducible refine (cA.out _).mono ?_); rintro _ w9 ⟨rfl, hk9⟩; have hS1 := hS.keepB hk9; clear hk9 hS; have hS := hS1; clear hS1))
      go_ret
      exact ⟨rfl, hS.below⟩
    · rw [h2] at cC
      by_cases h3 : z < 0
      · have d3 : decide (z < 0) = true := decide_eq_true h3
        replace cL := Lib.hid cL
        replace cC := Lib.hid cC
        replace hl := Lib.hid hl
        replace hc := Lib.hid hc
        clear h1
        go_enter Try.func8, Try.ntmps8
        go_wp2_with (first
          | (go_at_call 12; (with_reducible refine (cL.out _ hS.below).mono ?_); rintro _ w3 ⟨rfl, hk9⟩; have hS1 := hS.keepB hk9; clear hk9 hS; have hS := hS1; clear hS1)
          | (go_at_call 13; (with_reducible refine (cC.out _ hS.below).mono ?_); rintro _ w3 ⟨rfl, hk9⟩; have hS1 := hS.keepB hk9; clear hk9 hS; have hS := hS1; clear hS1)
          | (go_at_call 25; (with_reducible refine (cA.out _).mono ?_); rintro _ w9 ⟨rfl, hk9⟩; have hS1 := hS.keepB hk9; clear hk9 hS; have hS := hS1; clear hS1))
        go_ret
        exact ⟨rfl, hS.below⟩
      have d3 : decide (z < 0) = false := decide_eq_false h3
      obtain ⟨k, rfl⟩ : ∃ k : Nat, z = (k : Int) := ⟨z.toNat, by omega⟩
      by_cases h4 : n < k
      · have d4 : decide ((n : Int) < (k : Int)) = true := decide_eq_true (by omega)
        have d5 : decide (n < k) = true := decide_eq_true h4
        replace cL := Lib.hid cL
        replace cC := Lib.hid cC
        replace hl := Lib.hid hl
        replace hc := Lib.hid hc
        clear h1
        go_enter Try.func8, Try.ntmps8
        go_wp2_with (first
          | (go_at_call 12; (with_reducible refine (cL.out _ hS.below).mono ?_); rintro _ w3 ⟨rfl, hk9⟩; have hS1 := hS.keepB hk9; clear hk9 hS; have hS := hS1; clear hS1)
          | (go_at_call 13; (with_reducible refine (cC.out _ hS.below).mono ?_); rintro _ w3 ⟨rfl, hk9⟩; have hS1 := hS.keepB hk9; clear hk9 hS; have hS := hS1; clear hS1)
          | (go_at_call 25; (with_reducible refine (cA.out _).mono ?_); rintro _ w9 ⟨rfl, hk9⟩; have hS1 := hS.keepB hk9; clear hk9 hS; have hS := hS1; clear hS1))
        go_ret
        exact ⟨rfl, hS.below⟩
      have d4 : decide ((n : Int) < (k : Int)) = false := decide_eq_false (by omega)
      have d5 : decide (n < k) = false := decide_eq_false h4
      by_cases h6 : 60 < m
      · have d6 : decide (60 < m) = true := decide_eq_true (by omega)
        have d61 : decide (60 < (m : Int)) = true := decide_eq_true (by omega)
        replace cL := Lib.hid cL
        replace cC := Lib.hid cC
        replace hl := Lib.hid hl
        replace hc := Lib.hid hc
        clear h1
        go_enter Try.func8, Try.ntmps8
        go_wp2_with (first
          | (go_at_call 12; (with_reducible refine (cL.out _ hS.below).mono ?_); rintro _ w3 ⟨rfl, hk9⟩; have hS1 := hS.keepB hk9; clear hk9 hS; have hS := hS1; clear hS1)
          | (go_at_call 13; (with_reducible refine (cC.out _ hS.below).mono ?_); rintro _ w3 ⟨rfl, hk9⟩; have hS1 := hS.keepB hk9; clear hk9 hS; have hS := hS1; clear hS1)
          | (go_at_call 25; (with_reducible refine (cA.out _).mono ?_); rintro _ w9 ⟨rfl, hk9⟩; have hS1 := hS.keepB hk9; clear hk9 hS; have hS := hS1; clear hS1))
        go_ret
        exact ⟨rfl, hS.below⟩
      · exact twice_main a b n c m d l cs k w hl hc h1 h2 (by omega) (by omega)
  · have cC : True := trivial
    rw [h1] at cL
    replace cL := Lib.hid cL
    replace cC := Lib.hid cC
    replace hl := Lib.hid hl
    replace hc := Lib.hid hc
    clear h1
    go_enter Try.func8, Try.ntmps8
    go_wp2_with (first
      | (go_at_call 12; (with_reducible refine (cL.out _ hS.below).mono ?_); rintro _ w3 ⟨rfl, hk9⟩; have hS1 := hS.keepB hk9; clear hk9 hS; have hS := hS1; clear hS1)
      | (go_at_call 13; (with_reducible refine (cC.out _ hS.below).mono ?_); rintro _ w3 ⟨rfl, hk9⟩; have hS1 := hS.keepB hk9; clear hk9 hS; have hS := hS1; clear hS1)
      | (go_at_call 25; (with_reducible refine (cA.out _).mono ?_); rintro _ w9 ⟨rfl, hk9⟩; have hS1 := hS.keepB hk9; clear hk9 hS; have hS := hS1; clear hS1))
    go_ret
    exact ⟨rfl, hS.below⟩
end Go.Proofs.Ytajldelodnjmoaa
end
