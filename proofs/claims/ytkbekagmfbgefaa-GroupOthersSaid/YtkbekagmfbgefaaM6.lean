import Derived.Test.YtkbekagmfbgefaaM5
set_option linter.unusedVariables false
set_option linter.unusedSimpArgs false
set_option maxRecDepth 100000
section
namespace Go.Proofs.Ytkbekagmfbgefaa
open Go.RowKit Go.Ofp
set_option maxHeartbeats 4000000
theorem elem_g : Elem Try.prog 31 (.agg #[.int .i64 0, .slice none 0 0]) 2 32 := Elem.mk (by kernel_rfl) (by rfl) (by decide)
theorem goverlaps_no (w : World) (gv g j m lb cb : Nat) (cv cs : Array Value) (hv : Whole w gv 31 cv) (hg : Whole w g 31 cs) (hne : gv ≠ g) (hcs : cs.size ≠ 0) :
    (callFunc 61 #[.slice (some ⟨gv, 0, none⟩) m m, .slice (some ⟨g, j, none⟩) lb cb]).run Try.prog w = .ok (.value (.bool false)) w := by
  have hz : ∀ w : World, (sizeOf 31).run Try.prog w = .ok 2 w := fun w => by kernel_rfl
  rw [run_callFunc_extern Try.func61 (by kernel_rfl) (by kernel_rfl) (by kernel_rfl) (e := Extern.SlicesOverlaps.overlaps #[22, 22] #[4]) (by kernel_rfl),
    Lib.run_overlaps_apart w 22 4 31 Try.underlying22 2 hz ⟨gv, 0, none⟩ ⟨g, j, none⟩ m m lb cb hne _ _ _ _ hv.shape hg.shape hcs (hv.frozen 0) (hv.frozen cv.size)]
  rfl
def gA (a : Option Addr) (n c gv : Nat) (xs V : List Value) : List Ch := [Ch.row 31 2 (.slice a n c) n xs, Ch.blk gv 31 V.toArray]
def GInsRet (F : List Nat) (n i : Nat) (xs V : List Value) (w : World) (e : Ending) (w' : World) : Prop := ∃ a' c', e = .returned (.slice a' (n + 1) c') ∧ St w F [Ch.row 31 2 (.slice a' (n + 1) c') (n + 1) (xs.take (i * 2) ++ V ++ xs.drop (i * 2))] w'
theorem ginsert_room (g gv n c i : Nat) (xs V : List Value) (w : World) (h : St w (feet (gA (some ⟨g, 0, none⟩) n c gv xs V)) (gA (some ⟨g, 0, none⟩) n c gv xs V) w)
    (h1x : ∀ u ∈ xs, u.oneCell' = true) (h1v : ∀ u ∈ V, u.oneCell' = true) (hV : V.length = 2) (hi : i < n) (hc : n + 1 ≤ c) (hm : n ≤ 100000) :
    Calls Try.prog 42 #[.slice (some ⟨g, 0, none⟩) n c, .int .i64 i, .slice (some ⟨gv, 0, none⟩) 1 1] w (GInsRet (feet (gA (some ⟨g, 0, none⟩) n c gv xs V)) n i xs V w) := by
  generalize feet (gA (some ⟨g, 0, none⟩) n c gv xs V) = F at h ⊢
  have h' : St w F [Ch.row 31 2 (.slice (some ⟨g, 0, none⟩) n c) n xs, Ch.blk gv 31 V.toArray] w := h
  obtain ⟨cur, h1, h2, h3, h4, hS⟩ := h'.rowblk
  clear h h'
  have hne : gv ≠ g := fun e => by
    have := hS.apart 1 0 _ _ rfl rfl (by omega) gv (by simp [Ch.blk])
    simp [Ch.blk, e] at this
  have hov := fun lb cb => goverlaps_no w gv g ((i + 1) * 2) 1 lb cb _ _ (hS.get 1 rfl) (hS.get 0 rfl) hne (by omega)
  have h4' : c ≤ 9223372036854775807 := by unfold maxLen at h4; omega
  have hci : ¬ (c = i) := by omega
  have hci1 : ¬ (c = i + 1) := by omega
  have hcl : cur.toList.length = c * 2 := by simpa using h1
  have e1 : (i + 1) * 2 = i * 2 + 2 := by omega
  have e2 : (n - i) * 2 = n * 2 - i * 2 := by omega
  have e3 : (n + 1) * 2 = n * 2 + 2 := by omega
  have hfin := insert_cells cur.toList xs V (n * 2) (i * 2) 2 h2 (by omega) hV (by omega)
  rw [← e1, ← e2, ← e3] at hfin
  have hone1 : ∀ u ∈ (cur.toList.drop (i * 2)).take ((n - i) * 2), u.oneCell' = true := by
    rw [e2, drop_take_of _ _ (n * 2) (i * 2) h2]
    exact fun u hu => h1x u (List.mem_of_mem_drop hu)
  have hlen1 : ((cur.toList.drop (i * 2)).take ((n - i) * 2)).length = (n - i) * 2 := by rw [List.length_take, List.length_drop]; omega
  have hfit1 : (i + 1) * 2 + (n - i) * 2 ≤ cur.size := by omega
  have hk1 : Nat.min (n + 1 - i) (n - i) = n - i := Nat.min_eq_right (by omega)
  have hk2 : Nat.min 1 (n + 1 - i) = 1 := Nat.min_eq_left (by omega)
  clear e1 e2 e3
  replace hfin := Lib.hid hfin
  replace hone1 := Lib.hid hone1
  replace hlen1 := Lib.hid hlen1
  replace hfit1 := Lib.hid hfit1
  replace hk1 := Lib.hid hk1
  replace hk2 := Lib.hid hk2
  replace h1 := Lib.hid h1
  replace h2 := Lib.hid h2
  replace hcl := Lib.hid hcl
  replace hV := Lib.hid hV
  have hb1 : (i : Int) ≤ (n : Int) + 1 := by omega
  have hb2 : (i : Int) ≤ (n : Int) := by omega
  go_enter Try.func42, Try.ntmps42
  go_wp2_with fail
  clear hov
  have s1 : (0 : Int) ≤ (i : Int) + 1 := by omega
  have s2 : ((i : Int) + 1).toNat = i + 1 := by omega
  have s3 : (i : Int) + 1 ≤ (n : Int) + 1 := by omega
  have s4 : n + 1 - (i + 1) = n - i := by omega
  have s5 : IntKind.i64.wrap ((i : Int) + 1) = (i : Int) + 1 := IntWalk.i64_in _ (by omega)
  refine mixs_beginE (by kernel_rfl) hS ?_
  clear hS
  intro w2 hS hC
  refine tk 0 ?_
  refine tk 1 ?_
  refine tk 2 ?_
  refine tk 3 ?_
  refine tk 4 ?_
  refine tk 5 ?_
  refine tk 6 ?_
  refine tk 7 ?_
  refine mixs_one 8 (by kernel_rfl) rfl (fun K hK => ?_)
  ( refine op_copyblk_st (by kernel_rfl) 0 hS rfl rfl Try.underlying22 elem_g rfl rfl (hS.blkpart 0 rfl (i * 2) ((n - i) * 2)) hk1.out hlen1.out hone1.out hfit1.out ?_; intro w3 hS1; clear hS; have hS := hS1; clear hS1 )
  try clear hC
  refine cl hK (fun hC => ?_)
  clear hK K
  refine wpAnyH_done (by kernel_rfl) ?_ _
  clear s1 s2 s3 s4 s5
  go_wp2_with ((with_reducible refine wpList_copyblk_st 0 (off := i * 2) (nd := n + 1 - i) hS rfl rfl rfl Try.underlying22 elem_g rfl rfl (hS.blksl2 1 rfl) hk2.out (by rw [hV.out]) h1v (by have := h1.out; have := hV.out; simp only [List.size_toArray, List.length_append, List.length_take, List.length_drop, Array.length_toList]; omega) ?_); intro w3 hS1; clear hS; have hS := hS1; clear hS1)
  go_ret
  simp only [List.set_cons_zero] at hS
  have hr := hS.blkrow2 2 (n := n + 1) (c := c) (xs := xs.take (i * 2) ++ V ++ xs.drop (i * 2)) (by have := h1.out; have := hV.out; simp only [List.size_toArray, List.length_append, List.length_take, List.length_drop, Array.length_toList]; omega) hc h4 (by
    have := hfin.out
    rw [show (i + 1) * 2 = i * 2 + 1 * 2 by omega] at this
    rw [show (i + 1) * 2 = i * 2 + 1 * 2 by omega]
    exact this)
  exact ⟨_, _, rfl, hr.drop1⟩
theorem ginsert_end (a : Option Addr) (gv n c : Nat) (xs V : List Value) (w : World) (h : St w (feet (gA a n c gv xs V)) (gA a n c gv xs V) w) (h1v : ∀ u ∈ V, u.oneCell' = true) (hV : V.length = 2) (hm : n ≤ 100000) :
    Calls Try.prog 42 #[.slice a n c, .int .i64 n, .slice (some ⟨gv, 0, none⟩) 1 1] w (GInsRet (feet (gA a n c gv xs V)) n n xs V w) := by
  generalize feet (gA a n c gv xs V) = F at h ⊢
  have hS : St w F [Ch.row 31 2 (.slice a n c) n xs, Ch.blk gv 31 V.toArray] w := h
  clear h
  have hxl := (hS.get 0 rfl).1
  have hfin := Lib.hid (show xs ++ V = xs.take (n * 2) ++ V ++ xs.drop (n * 2) by rw [List.take_of_length_le (by omega), List.drop_of_length_le (by omega), List.append_nil])
  have hsh := (hS.get 0 rfl).2
  replace hV := Lib.hid hV
  replace hxl := Lib.hid hxl
  rcases hsh with ⟨e, e0⟩ | ⟨g, cap, cur, e, -, -, h3, h4, -⟩
  · cases e
    clear e0
    go_enter Try.func42, Try.ntmps42
    go_wp2_with (at_builtin; ((with_reducible refine wpList_app_st 0 hS rfl rfl rfl Try.underlying22 elem_g rfl (Src.slice Try.underlying22 (hS.blksl2 1 rfl) (by rw [hV.out])) rfl h1v (by omega) (by unfold maxLen; omega) ?_); intro v5 w3 hS1; clear hS; simp only [List.set_cons_zero] at hS1; have hS := hS1; clear hS1; obtain ⟨a5, c5, rfl, -⟩ := hS.row 0 rfl))
    go_ret
    rw [hfin.out] at hS
    exact ⟨_, _, rfl, hS.drop1⟩
  · cases e
    have h4' : c ≤ 9223372036854775807 := by unfold maxLen at h4; omega
    by_cases hcn : c = n
    · subst hcn
      go_enter Try.func42, Try.ntmps42
      go_wp2_with (at_builtin; ((with_reducible refine wpList_app_st 0 hS rfl rfl rfl Try.underlying22 elem_g rfl (Src.slice Try.underlying22 (hS.blksl2 1 rfl) (by rw [hV.out])) rfl h1v (by omega) (by unfold maxLen; omega) ?_); intro v5 w3 hS1; clear hS; simp only [List.set_cons_zero] at hS1; have hS := hS1; clear hS1; obtain ⟨a5, c5, rfl, -⟩ := hS.row 0 rfl))
      go_ret
      rw [hfin.out] at hS
      exact ⟨_, _, rfl, hS.drop1⟩
    · go_enter Try.func42, Try.ntmps42
      go_wp2_with (at_builtin; ((with_reducible refine wpList_app_st 0 hS rfl rfl rfl Try.underlying22 elem_g rfl (Src.slice Try.underlying22 (hS.blksl2 1 rfl) (by rw [hV.out])) rfl h1v (by omega) (by unfold maxLen; omega) ?_); intro v5 w3 hS1; clear hS; simp only [List.set_cons_zero] at hS1; have hS := hS1; clear hS1; obtain ⟨a5, c5, rfl, -⟩ := hS.row 0 rfl))
      go_ret
      rw [hfin.out] at hS
      exact ⟨_, _, rfl, hS.drop1⟩
theorem ginsert_grow (g gv n i : Nat) (xs V : List Value) (w : World) (h : St w (feet (gA (some ⟨g, 0, none⟩) n n gv xs V)) (gA (some ⟨g, 0, none⟩) n n gv xs V) w) (h1x : ∀ u ∈ xs, u.oneCell' = true) (h1v : ∀ u ∈ V, u.oneCell' = true) (hV : V.length = 2) (hi : i < n) (hm : n ≤ 100000) :
    Calls Try.prog 42 #[.slice (some ⟨g, 0, none⟩) n n, .int .i64 i, .slice (some ⟨gv, 0, none⟩) 1 1] w (GInsRet (feet (gA (some ⟨g, 0, none⟩) n n gv xs V)) n i xs V w) := by
  generalize feet (gA (some ⟨g, 0, none⟩) n n gv xs V) = F at h ⊢
  have hS : St w F [Ch.row 31 2 (.slice (some ⟨g, 0, none⟩) n n) n xs, Ch.blk gv 31 V.toArray] w := h
  clear h
  have hxl := (hS.get 0 rfl).1
  have hni : ¬ (n = i) := by omega
  have hs1 : Sl w (some ⟨g, 0, none⟩) (xs.take (i * 2)) := (hS.rowsl 0 rfl).take (i * 2)
  have hl1 : (xs.take (i * 2)).length = i * 2 := by rw [List.length_take]; omega
  have hsum : i + (n + 1 - i) = n + 1 := by omega
  have hM : (n : Int) + 1 - (i : Int) = ((n + 1 - i : Nat) : Int) := by omega
  have hl3 : (xs.drop (i * 2)).length = (n - i) * 2 := by rw [List.length_drop]; omega
  have h1d : ∀ u ∈ xs.drop (i * 2), u.oneCell' = true := fun u hu => h1x u (List.mem_of_mem_drop hu)
  have hk2 : Nat.min 1 (n + 1 - i) = 1 := Nat.min_eq_left (by omega)
  have hk3 : Nat.min (n - i) (n - i) = n - i := Nat.min_self _
  replace hs1 := Lib.hid hs1
  replace hl1 := Lib.hid hl1
  replace hM := Lib.hid hM
  replace hsum := Lib.hid hsum
  replace hk2 := Lib.hid hk2
  replace hk3 := Lib.hid hk3
  replace hl3 := Lib.hid hl3
  replace hV := Lib.hid hV
  replace hxl := Lib.hid hxl
  go_enter Try.func42, Try.ntmps42
  go_wp2_with (first
    | (at_builtin; ((with_reducible refine wpList_appzeros_st (m := n + 1 - i) hS rfl rfl Try.underlying22 Try.underlying3 elem_g rfl rfl hM.out hs1.out hl1.out (by omega) (by omega) (by omega) (by unfold maxLen; omega) (by omega) ?_); intro g5 c5 w3 hS1; clear hS; simp only [hsum.out] at hS1 ⊢; obtain ⟨cur, k1, k2, k3, k4, hS⟩ := hS1.rowblk; clear hS1; have q1 : ¬ (c5 = i) := (by omega); have q2 : ¬ (c5 = i + 1) := (by omega); have q3 : c5 ≤ 9223372036854775807 := (by unfold maxLen at k4; omega); replace k1 := Lib.hid k1; replace k2 := Lib.hid k2))
    | ((with_reducible refine wpList_copyblk_st 0 (off := i * 2) (nd := n + 1 - i) hS rfl rfl rfl Try.underlying22 elem_g rfl rfl (hS.blksl2 2 rfl) hk2.out (by rw [hV.out]) h1v (by have := k1.out; omega) ?_); intro w3 hS1; clear hS; have hS := hS1; clear hS1))
  have s1 : (0 : Int) ≤ (i : Int) + 1 := by omega
  have s2 : ((i : Int) + 1).toNat = i + 1 := by omega
  have s3 : (i : Int) + 1 ≤ (n : Int) + 1 := by omega
  have s4 : n + 1 - (i + 1) = n - i := by omega
  have s5 : IntKind.i64.wrap ((i : Int) + 1) = (i : Int) + 1 := IntWalk.i64_in _ (by omega)
  have s6 : (i : Int) ≤ (n : Int) := by omega
  simp only [List.set_cons_zero] at hS
  refine mixs_beginE (by kernel_rfl) hS ?_
  clear hS
  intro w2 hS hC
  have hs3 : Sl w2 (some ⟨g, i * 2, none⟩) (xs.drop (i * 2)) := by
    have := (hS.rowsl 1 rfl).drop (i * 2)
    rwa [Nat.zero_add] at this
  replace hs3 := Lib.hid hs3
  refine tk 0 ?_
  refine tk 1 ?_
  refine tk 2 ?_
  refine tk 3 ?_
  refine tk 4 ?_
  refine tk 5 ?_
  refine tk 6 ?_
  refine tk 7 ?_
  refine mixs_one 8 (by kernel_rfl) rfl (fun K hK => ?_)
  ( refine op_copyblk_st (by kernel_rfl) 0 hS rfl rfl Try.underlying22 elem_g rfl rfl hs3.out hk3.out hl3.out h1d (by have := k1.out; have := hV.out; simp only [List.size_toArray, List.length_append, List.length_take, List.length_drop, Array.length_toList]; omega) ?_; intro w3 hS1; clear hS hs3; have hS := hS1; clear hS1 )
  try clear hC
  refine cl hK (fun hC => ?_)
  clear hK K
  refine wpAnyH_done (by kernel_rfl) ?_ _
  clear s1 s2 s3 s4 s5 s6
  go_wp2_with fail
  go_ret
  have hcl : cur.toList.length = c5 * 2 := by simpa using k1.out
  have k2' := k2.out
  have hV' := hV.out
  have hfin := grow_cells cur.toList (xs.take (i * 2)) _ V (xs.drop (i * 2)) (n * 2) (i * 2) 2 (by rw [show n * 2 + 2 = (n + 1) * 2 by omega]; exact k2') hl1.out (by omega) hV' (by rw [hl3.out]; omega) (by omega)
  simp only [List.set_cons_zero] at hS
  have hr := hS.blkrow2 2 (n := n + 1) (c := c5) (xs := xs.take (i * 2) ++ V ++ xs.drop (i * 2)) (by have := k1.out; have := hl3.out; simp only [List.size_toArray, List.length_append, List.length_take, List.length_drop, Array.length_toList] at this ⊢; omega) k3 k4 (by
    rw [show (n + 1) * 2 = n * 2 + 2 by omega, show (i + 1) * 2 = i * 2 + 2 by omega, show (n - i) * 2 = n * 2 - i * 2 by omega]
    exact hfin)
  exact ⟨_, _, rfl, hr.drop1.drop1⟩
theorem ginsert_any (a : Option Addr) (gv n c i : Nat) (xs V : List Value) (w : World) (h : St w (feet (gA a n c gv xs V)) (gA a n c gv xs V) w) (h1x : ∀ u ∈ xs, u.oneCell' = true) (h1v : ∀ u ∈ V, u.oneCell' = true) (hV : V.length = 2) (hi : i ≤ n) (hm : n ≤ 100000) :
    Calls Try.prog 42 #[.slice a n c, .int .i64 i, .slice (some ⟨gv, 0, none⟩) 1 1] w (GInsRet (feet (gA a n c gv xs V)) n i xs V w) := by
  by_cases hin : i = n
  · subst hin
    exact ginsert_end a gv i c xs V w h h1v hV hm
  · obtain ⟨g, c', e, hc, -⟩ := h.rowat 0 rfl (by omega)
    cases e
    by_cases hcn : n + 1 ≤ c
    · exact ginsert_room g gv n c i xs V w h h1x h1v hV (by omega) hcn hm
    · obtain rfl : c = n := by omega
      exact ginsert_grow g gv c i xs V w h h1x h1v hV (by omega) hm
theorem gdelete_any (g k c i : Nat) (xs : List Value) (w : World) (h : St w (feet [Ch.row 31 2 (.slice (some ⟨g, 0, none⟩) (k + 1) c) (k + 1) xs]) [Ch.row 31 2 (.slice (some ⟨g, 0, none⟩) (k + 1) c) (k + 1) xs] w) (h1x : ∀ u ∈ xs, u.oneCell' = true) (hi : i ≤ k) (hm : k ≤ 100000) :
    Calls Try.prog 45 #[.slice (some ⟨g, 0, none⟩) (k + 1) c, .int .i64 i, .int .i64 ((i : Int) + 1)] w fun e w' => e = .returned (.slice (some ⟨g, 0, none⟩) k c) ∧ St w (feet [Ch.row 31 2 (.slice (some ⟨g, 0, none⟩) (k + 1) c) (k + 1) xs]) [Ch.row 31 2 (.slice (some ⟨g, 0, none⟩) k c) k (xs.take (i * 2) ++ xs.drop ((i + 1) * 2))] w' := by
  generalize feet [Ch.row 31 2 (.slice (some ⟨g, 0, none⟩) (k + 1) c) (k + 1) xs] = F at h ⊢
  obtain ⟨cur, h1, h2, h3, h4, hS⟩ := h.rowblk
  clear h
  have h4' : c ≤ 9223372036854775807 := by unfold maxLen at h4; omega
  have hcl : cur.toList.length = c * 2 := by simpa using h1
  have e1 : (i + 1) * 2 = i * 2 + 2 := by omega
  have e2 : (k - i) * 2 = k * 2 - i * 2 := by omega
  have e3 : (k + 1) * 2 = k * 2 + 2 := by omega
  have hfin := fun (R : List Value) => delete_cells cur.toList xs (k * 2) (i * 2) 2 (by rw [← e3]; exact h2) (by omega) R (by omega)
  rw [← e1, ← e2] at hfin
  have hone1 : ∀ u ∈ (cur.toList.drop ((i + 1) * 2)).take ((k - i) * 2), u.oneCell' = true := by
    have := drop_take_of cur.toList xs ((k + 1) * 2) ((i + 1) * 2) h2
    rw [show (k + 1) * 2 - (i + 1) * 2 = (k - i) * 2 by omega] at this
    rw [this]
    exact fun u hu => h1x u (List.mem_of_mem_drop hu)
  have hlen1 : ((cur.toList.drop ((i + 1) * 2)).take ((k - i) * 2)).length = (k - i) * 2 := by rw [List.length_take, List.length_drop]; omega
  have hroom : i + (k - i) ≤ c := by omega
  have hck : ¬ (c = k) := by omega
  have hci : ¬ (c = i) := by omega
  have hsum : i + (k - i) = k := by omega
  have hz1 : ∀ u ∈ (Value.agg #[.int .i64 0, .slice none 0 0]).cells, u.oneCell' = true := by
    intro u hu
    simp only [Value.cells, List.mem_toArray, List.mem_cons, List.not_mem_nil, or_false] at hu
    rcases hu with rfl | rfl <;> rfl
  clear e1 e2 e3
  replace hz1 := Lib.hid hz1
  replace hsum := Lib.hid hsum
  replace hfin := Lib.hid hfin
  replace hone1 := Lib.hid hone1
  replace hlen1 := Lib.hid hlen1
  replace h1 := Lib.hid h1
  replace h2 := Lib.hid h2
  replace hcl := Lib.hid hcl
  by_cases hci1 : c = i + 1
  · obtain rfl : k = i := by omega
    subst hci1
    clear hroom hone1 hlen1 hsum
    go_enter Try.func45, Try.ntmps45
    go_wp2_with fail
    have s1 : (0 : Int) ≤ (k : Int) + 1 := by omega
    have s2 : ((k : Int) + 1).toNat = k + 1 := by omega
    have s6 : (k : Int) ≤ (k : Int) + 1 := by omega
    refine mixs_beginE (by kernel_rfl) hS ?_
    clear hS
    intro w2 hS hC
    refine tk 0 ?_
    refine tk 1 ?_
    refine tk 2 ?_
    refine tk 3 ?_
    refine tk 4 ?_
    refine tk 5 ?_
    refine mixs_one 6 (by kernel_rfl) rfl (fun K hK => ?_)
    ( refine op_appblk_st (by kernel_rfl) 0 hS rfl rfl Try.underlying22 Try.underlying22 elem_g rfl rfl (Sl.nil _ _) (by simp) nil_one (by omega) h1.out ?_; intro w3 hS1; clear hS; have hS := hS1; clear hS1 )
    try clear hC
    refine cl hK (fun hC => ?_)
    clear hK K
    refine tk 7 ?_
    refine wpAnyH_done (by kernel_rfl) ?_ _
    clear s1 s2 s6
    go_wp2_with ((with_reducible refine wpList_clearblk_st 0 (off := k * 2) (n := 1) hS rfl rfl rfl Try.underlying22 elem_g hz1.out rfl (by have := h1.out; have := hcl.out; simp only [List.size_toArray, List.length_append, List.length_take, List.length_drop, Array.length_toList, List.length_nil]; omega) (by omega) ?_); intro w3 cs2 q1 q2 hS1; clear hS; have hS := hS1; clear hS1)
    go_ret
    simp only [List.set_cons_zero] at hS
    have hcl2 := hcl.out
    have h12 := h1.out
    simp only [List.size_toArray, List.length_append, List.length_take, List.length_drop, Array.length_toList, List.length_nil] at q1
    have hr := hS.blkrow2 2 (n := k) (c := (k + 1)) (xs := xs.take (k * 2) ++ xs.drop ((k + 1) * 2)) (by rw [q1]; omega) (by omega) h4 (by
      rw [q2]
      have := hfin.out (cur.toList.drop (k * 2 + 0 * 2))
      simpa using this)
    exact ⟨rfl, hr⟩
  · go_enter Try.func45, Try.ntmps45
    go_wp2_with fail
    have s1 : (0 : Int) ≤ (i : Int) + 1 := by omega
    have s2 : ((i : Int) + 1).toNat = i + 1 := by omega
    have s3 : (i : Int) + 1 ≤ (k : Int) + 1 := by omega
    have s6 : (i : Int) ≤ (k : Int) + 1 := by omega
    have s7 : i ≤ c := by omega
    refine mixs_beginE (by kernel_rfl) hS ?_
    clear hS
    intro w2 hS hC
    refine tk 0 ?_
    refine tk 1 ?_
    refine tk 2 ?_
    refine tk 3 ?_
    refine tk 4 ?_
    refine tk 5 ?_
    refine mixs_one 6 (by kernel_rfl) rfl (fun K hK => ?_)
    ( refine op_appblk_st (by kernel_rfl) 0 hS rfl rfl Try.underlying22 Try.underlying22 elem_g rfl rfl (hS.blkpart 0 rfl ((i + 1) * 2) ((k - i) * 2)) hlen1.out hone1.out hroom h1.out ?_; intro w3 hS1; clear hS; have hS := hS1; clear hS1 )
    try clear hC
    refine cl hK (fun hC => ?_)
    clear hK K
    refine tk 7 ?_
    refine wpAnyH_done (by kernel_rfl) ?_ _
    clear s1 s2 s3 s6 s7
    simp only [hsum.out]
    go_wp2_with ((with_reducible refine wpList_clearblk_st 0 (off := k * 2) (n := 1) hS rfl rfl rfl Try.underlying22 elem_g hz1.out rfl (by have := h1.out; have := hcl.out; simp only [List.size_toArray, List.length_append, List.length_take, List.length_drop, Array.length_toList, List.length_nil]; omega) (by omega) ?_); intro w3 cs2 q1 q2 hS1; clear hS; have hS := hS1; clear hS1)
    go_ret
    simp only [List.set_cons_zero] at hS
    have hcl2 := hcl.out
    have h12 := h1.out
    simp only [List.size_toArray, List.length_append, List.length_take, List.length_drop, Array.length_toList, List.length_nil] at q1
    have hr := hS.blkrow2 2 (n := k) (c := c) (xs := xs.take (i * 2) ++ xs.drop ((i + 1) * 2)) (by rw [q1]; omega) (by omega) h4 (by
      rw [q2]
      have := hfin.out (cur.toList.drop (i * 2 + (k - i) * 2))
      simpa using this)
    exact ⟨rfl, hr⟩
end Go.Proofs.Ytkbekagmfbgefaa
end
section
namespace Go.Ofp
open Go.RowKit
theorem St.mem {w w0 : World} {F : List Nat} {L : List Ch} (hS : St w0 F L w) {c : Ch} (hc : c ∈ L) : c.holds w := by
  obtain ⟨i, hi, rfl⟩ := List.getElem_of_mem hc
  exact hS.get i (List.getElem?_eq_getElem hi)
theorem grows_set (A B : List Gr) (g : Gr) (a : Option Addr) (c : Nat) : (grows (A ++ g :: B)).set (A.length * 2 + 1) (.slice a g.mem.length c) = grows (A ++ ⟨g.no, a, c, g.mem⟩ :: B) := by
  rw [grows_append, grows_append, List.set_append_right _ _ (by rw [grows_len]; omega), grows_len]
  congr 1
  rw [show A.length * 2 + 1 - A.length * 2 = 1 by omega]
  simp [grows, Gr.row]
theorem grows_set_mem (A B : List Gr) (g : Gr) (a : Option Addr) (c : Nat) (mem : List Int) : (grows (A ++ g :: B)).set (A.length * 2 + 1) (.slice a mem.length c) = grows (A ++ ⟨g.no, a, c, mem⟩ :: B) := by
  rw [grows_append, grows_append, List.set_append_right _ _ (by rw [grows_len]; omega), grows_len]
  congr 1
  rw [show A.length * 2 + 1 - A.length * 2 = 1 by omega]
  simp [grows, Gr.row]
theorem grows_get1 (A B : List Gr) (g : Gr) : (grows (A ++ g :: B))[A.length * 2 + 1]? = some (.slice g.a g.mem.length g.c) := by
  rw [grows_append, List.getElem?_append_right (by rw [grows_len]; omega), grows_len, show A.length * 2 + 1 - A.length * 2 = 1 by omega]
  simp [grows, Gr.row]
end Go.Ofp
namespace Go.Proofs.Ytkbekagmfbgefaa
open Go.RowKit Go.Ofp
set_option maxHeartbeats 4000000
def GRowRet (xs : List Value) (n : Nat) (w : World) (e : Ending) (w' : World) : Prop := ∃ a c, e = .returned (.slice a n c) ∧ St w [] [Ch.row 31 2 (.slice a n c) n xs] w'
theorem gclone_some (ad : Addr) (xs : List Value) (n cap : Nat) (w : World) (hs : Sl w (some ad) xs) (hn : xs.length = n * 2) (h1 : ∀ u ∈ xs, u.oneCell' = true) (hm : n ≤ 100000) :
    Calls Try.prog 53 #[.slice (some ad) n cap] w (GRowRet xs n w) := by
  have hS := St.start w
  have he := fun (W : World) (a : Option Addr) (n c : Nat) => Lib.run_eql_slice_nil (P := Try.prog) W 22 31 a n c 0 0 Try.underlying22
  replace hn := Lib.hid hn
  replace hs := Lib.hid hs
  go_enter Try.func53, Try.ntmps53
  go_wp2_with (first
      | ((with_reducible refine wpList_build0_st hS rfl rfl Try.underlying22 elem_g ?_); intro g1 w3 hS1; clear hS; have hS := hS1; clear hS1)
      | (at_builtin; ((with_reducible refine wpList_app_st 0 hS rfl rfl rfl Try.underlying22 elem_g rfl (Src.slice Try.underlying22 (hS.sl hs.out) hn.out) rfl h1 (by omega) (by unfold maxLen; omega) ?_); intro v5 w3 hS1; clear hS; simp only [List.set_cons_zero, Nat.zero_add, List.nil_append] at hS1; have hS := hS1; clear hS1; obtain ⟨a5, c5, rfl, -⟩ := hS.row 0 rfl)))
  go_ret
  exact ⟨_, _, rfl, hS⟩
theorem gclone_none (w : World) : Calls Try.prog 53 #[.slice none 0 0] w (GRowRet [] 0 w) := by
  have hS := St.start w
  have he := fun (W : World) (a : Option Addr) (n c : Nat) => Lib.run_eql_slice_nil (P := Try.prog) W 22 31 a n c 0 0 Try.underlying22
  go_enter Try.func53, Try.ntmps53
  go_wp2_with fail
  go_ret
  exact ⟨_, _, rfl, hS.nilrow 31 2⟩
theorem gclone_any (a : Option Addr) (gs : List Gr) (n cap : Nat) (w : World) (hD : Deep w a n cap gs) (hm : n ≤ 100000) :
    Calls Try.prog 53 #[.slice a n cap] w (GRowRet (grows gs) n w) := by
  cases a with
  | some ad => exact gclone_some ad (grows gs) n cap w hD.sl (by rw [grows_len, hD.len]) (grows_one gs) hm
  | none =>
    have hl : gs = [] := by
      by_cases h : gs = []
      · exact h
      · obtain ⟨b, off, e⟩ := hD.sl.cells (by intro e; have := congrArg List.length e; rw [grows_len] at this; have := List.length_pos_iff.2 h; simp at *; omega)
        cases e
    have hc := hD.nz rfl
    have hn := hD.len
    subst hl
    subst hn
    subst hc
    exact gclone_none w
def gp (g : Gr) : Ch := irow g.a g.c g.mem
theorem mem_of_gp {w : World} {g : Gr} (h : (gp g).holds w) : Mem w g := by
  obtain ⟨no, ga, gc, mem⟩ := g
  replace h : w.ownsRow 0 3 1 (.slice ga mem.length gc) mem.length (mem.map vi) := h
  obtain ⟨a, cap, e, hs, hl, h1, h2⟩ := owns_sl h
  cases e
  refine ⟨hs, h1, h2, fun ha => ?_⟩
  rcases h.2 with ⟨e, _⟩ | ⟨g', cap, cur, e, _⟩
  · simp only [Value.slice.injEq] at e
    exact e.2.2
  · simp only [Value.slice.injEq] at e
    have := e.1
    replace ha : ga = Option.none := ha
    rw [ha] at this
    cases this
def CopRet (gs : List Gr) (w : World) (e : Ending) (w' : World) : Prop := ∃ a c gs', keys gs' = keys gs ∧ e = .returned (.slice a gs.length c) ∧ St w [] (Ch.row 31 2 (.slice a gs.length c) gs.length (grows gs') :: gs'.reverse.map gp) w'
theorem copied_any (a : Option Addr) (gs : List Gr) (n cap : Nat) (w : World) (hD : Deep w a n cap gs) (hm : n ≤ 1000) (hmm : ∀ g ∈ gs, g.mem.length ≤ 10000) :
    Calls Try.prog 43 #[.slice a n cap] w (CopRet gs w) := by
  have cC := gclone_any a gs n cap w hD (by omega)
  have hS := St.start w
  by_cases hz : n = 0
  · have hgs : gs = [] := List.length_eq_zero_iff.1 (hD.len.trans hz)
    subst hgs
    subst hz
    replace cC := Lib.hid cC
    clear hD
    go_enter Try.func43, Try.ntmps43
    go_wp2_with (go_at_call 53; (with_reducible refine cC.out.mono ?_); rintro _ w3 ⟨a3, c3, rfl, hb3⟩)
    go_loopg [9] 0 (fun gk vx wr => vx = .int .i64 0 ∧ wr = w3)
    case atStart => exact ⟨rfl, rfl⟩
    case round =>
      obtain ⟨rfl, rfl⟩ := hrel
      go_wp2_with fail
      go_ret
      exact ⟨a3, c3, [], rfl, rfl, hb3⟩
  · have hlen := Lib.hid hD.len
    have hD' := Lib.hid hD
    replace cC := Lib.hid cC
    clear hD
    go_enter Try.func43, Try.ntmps43
    go_wp2_with (go_at_call 53; (with_reducible refine cC.out.mono ?_); rintro _ w3 ⟨a3, c3, rfl, hb3⟩; have hS1 := hS.made hb3; clear hS hb3; have hS := hS1; clear hS1; obtain ⟨g3, c4, e3, -⟩ := hS.rowat 0 rfl (by omega); cases e3)
    obtain ⟨cur, q1, q2, q3, q4, hS2⟩ := hS.rowblk
    clear hS
    have hc63 : c3 ≤ 9223372036854775807 := by unfold maxLen at q4; omega
    go_loopg [9] n (fun gk vx wr => ∃ (j : Nat) (cur : Array Value) (new : List Gr), j + gk = n ∧ vx = .int .i64 j ∧ Hid (new.length = j ∧ cur.size = c3 * 2 ∧ cur.toList.take (n * 2) = grows (new ++ gs.drop j) ∧ keys new = keys (gs.take j)) ∧ St w [] (Ch.blk g3 31 cur :: new.reverse.map gp) wr)
    case atStart => exact ⟨0, cur, [], Nat.zero_add _, rfl, Lib.hid ⟨rfl, q1, by simpa using q2, by simp [keys]⟩, hS2⟩
    case round =>
      clear hS2 q1 q2
      obtain ⟨j, cur, new, hj, rfl, hr, hS⟩ := hrel
      by_cases hlt : j < n
      · obtain ⟨r1, r2, r3, r4⟩ := hr.out
        have hjl : j < gs.length := by rw [hlen.out]; exact hlt
        have hd := List.drop_eq_getElem_cons (l := gs) (i := j) hjl
        have hM := hD'.out.mem gs[j] (List.getElem_mem hjl)
        have hml := hmm gs[j] (List.getElem_mem hjl)
        have htk : gs.take (j + 1) = gs.take j ++ [gs[j]] := by rw [List.take_succ_eq_append_getElem hjl]
        rw [hd] at r3
        generalize gs[j] = gj at hd hM hml htk r3
        have hcur1 : cur[j * 2 + 1]? = some (.slice gj.a gj.mem.length gj.c) := by
          have h1 : (cur.toList.take (n * 2))[j * 2 + 1]? = some (.slice gj.a gj.mem.length gj.c) := by rw [r3, ← r1]; exact grows_get1 new _ gj
          rw [List.getElem?_take] at h1
          rw [if_pos (by omega)] at h1
          simpa using h1
        have hcell := (hS.cell 0 rfl (j * 2 + 1)).trans hcur1
        have cI := Lib.hid (clone_any gj.a gj.mem _ gj.c wr (hS.sl hM.sl) rfl (by omega) hM.nz)
        have hble : Nat.ble (j * 2 + 1 + 1) cur.size = true := by rw [Nat.ble_eq, r2]; omega
        have hnew : ∀ (a5 : Option Addr) (c5 : Nat), (new ++ [(⟨gj.no, a5, c5, gj.mem⟩ : Gr)]).length = j + 1 ∧ (cur.setIfInBounds (j * 2 + 1) (.slice a5 gj.mem.length c5)).size = c3 * 2 ∧ (cur.setIfInBounds (j * 2 + 1) (.slice a5 gj.mem.length c5)).toList.take (n * 2) = grows (new ++ [(⟨gj.no, a5, c5, gj.mem⟩ : Gr)] ++ gs.drop (j + 1)) ∧ keys (new ++ [(⟨gj.no, a5, c5, gj.mem⟩ : Gr)]) = keys (gs.take (j + 1)) := by
          intro a5 c5
          refine ⟨by simp [r1], by simp [r2], ?_, ?_⟩
          · rw [Array.toList_setIfInBounds, List.take_set, r3, ← r1, grows_set]
            simp
          · rw [htk]
            unfold keys at r4 ⊢
            rw [List.map_append, List.map_append, r4]
            rfl
        replace hnew := Lib.hid hnew
        clear hcur1 r1 r2 r3 r4 hd htk hM hml hr
        go_wp2_with (first
          | (go_at_call 34; (with_reducible refine cI.out.mono ?_); rintro _ w5 ⟨a5, c5, rfl, h51, h52, hb5⟩; have hS1 := hS.made hb5; clear hS hb5; have hS := hS1; clear hS1)
          | ((with_reducible refine wpList_store_st 1 hS rfl rfl rfl rfl (by kernel_rfl) rfl hble ?_); intro w6 hS1; clear hS; have hS := hS1; clear hS1))
        go_roundg (n - (j + 1))
        case measure => omega
        case rel =>
          refine ⟨j + 1, _, _, by omega, by go_num, Lib.hid (hnew.out a5 c5), ?_⟩
          rw [List.reverse_append]
          exact St.swap hS
      · obtain rfl : j = n := by omega
        go_wp2_with fail
        go_ret
        obtain ⟨r1, r2, r3, r4⟩ := hr.out
        rw [List.drop_of_length_le (by rw [hlen.out]; exact Nat.le_refl _), List.append_nil] at r3
        rw [List.take_of_length_le (by rw [hlen.out]; exact Nat.le_refl _)] at r4
        have hr2 := hS.blkrow2 2 (n := j) (c := c3) r2 q3 q4 r3
        have e1 := hlen.out
        subst e1
        exact ⟨_, c3, new, r4, rfl, hr2⟩
end Go.Proofs.Ytkbekagmfbgefaa
end
section
namespace Go.Ofp
open Go.RowKit
abbrev Key := Int × List Int
def knos (ks : List Key) : List Int := ks.map (·.1)
theorem nos_keys (gs : List Gr) : nos gs = knos (keys gs) := by simp [nos, knos, keys, Gr.key, Function.comp_def]
def openK (ks : List Key) (g : Int) : Int × List Key :=
  if g < 0 ∨ 16 ≤ g then (1, []) else if Ids.has (knos ks) g then (7, []) else (0, ks.take (Ids.place (knos ks) g) ++ (g, []) :: ks.drop (Ids.place (knos ks) g))
def closeK (ks : List Key) (g : Int) : Int × List Key :=
  if g < 0 ∨ 16 ≤ g then (1, []) else if Ids.has (knos ks) g then (0, ks.take (Ids.place (knos ks) g) ++ ks.drop (Ids.place (knos ks) g + 1)) else (6, [])
def memAt (ks : List Key) (g : Int) : List Int := (ks.getD (Ids.place (knos ks) g) (0, [])).2
def joinK (ks : List Key) (g id : Int) : Int × List Key :=
  if g < 0 ∨ 16 ≤ g ∨ id < 1 ∨ 1073741824 ≤ id then (1, []) else if Ids.has (knos ks) g then
    (if Ids.has (memAt ks g) id then (7, []) else (0, ks.set (Ids.place (knos ks) g) (g, Ids.put (memAt ks g) id))) else (6, [])
def quitK (ks : List Key) (g id : Int) : Int × List Key :=
  if g < 0 ∨ 16 ≤ g ∨ id < 1 ∨ 1073741824 ≤ id then (1, []) else if Ids.has (knos ks) g then
    (if Ids.has (memAt ks g) id then (0, ks.set (Ids.place (knos ks) g) (g, Ids.drop (memAt ks g) id)) else (6, [])) else (6, [])
section
variable {P : Program} {w w0 : World} {F : List Nat} {L : List Ch} {ops : Array Oper} {rest : List Oper} {o : Oper} {a : Act} {Q : Exit → Act → World → Prop}
theorem wpList_build1a_st (hS : St w0 F L w) (hgd : o.guard = none) {t : TypeId} {x : Operand} (ho : o.op = .buildSlice t 1 #[(0, x)]) {e : TypeId} (ht : P.underlying t = some (.slice e)) {z : Value} {size bytes : Nat} (he : Elem P e z size bytes)
    {cs : Array Value} (hx : a.eval x = .agg cs) (hv : cs.size = size) (hs : size ≤ 16777216)
    (h : ∀ g w', St w0 F (Ch.blk g e cs :: L) w' → wpList P ops Q rest (a.put o.dst (.slice (some ⟨g, 0, none⟩) 1 1)) w') : wpList P ops Q (o :: rest) a w := by
  refine wpList_plain hgd fun K hK => ?_
  have hr := run_build1 w t e ht he (v := .agg cs) hv hs
  unfold Oper.wp execOp
  simp only [ho, List.map_toArray, List.map_cons, List.map_nil, hx, Sem.run_bind, hr, Result.andThen_ok, Sem.run_pure]
  exact hK _ _ (h _ _ (hS.alloc cs e))
end
end Go.Ofp
namespace Go.Proofs.Ytkbekagmfbgefaa
open Go.RowKit Go.Ofp
set_option maxHeartbeats 4000000
def GsOut (r : Int × List Key) (w : World) (e : Ending) (w' : World) : Prop := ∃ a c gs', keys gs' = r.2 ∧ e = .returned (.tuple #[.slice a gs'.length c, .int .i64 r.1]) ∧ Deep w' a gs'.length c gs' ∧ Below w.heap.size w w'
theorem deep_nil (w : World) : Deep w none 0 0 [] := ⟨Sl.nil _ _, rfl, Nat.le_refl _, Nat.zero_le _, fun _ => rfl, by simp⟩
theorem gsOut_err {w w' : World} {e : Int} (hb : Below w.heap.size w w') : GsOut (e, []) w (.returned (.tuple #[.slice none 0 0, .int .i64 e])) w' := ⟨none, 0, [], rfl, rfl, deep_nil _, hb⟩
theorem deep_of {w w' : World} {a : Option Addr} {n c : Nat} {gs : List Gr} {xs : List Value} {T : List Ch} (hS : St w [] (Ch.row 31 2 (.slice a n c) n xs :: T) w') (hx : xs = grows gs) (hn : gs.length = n) (hM : ∀ g ∈ gs, gp g ∈ T ∨ Mem w' g) : Deep w' a n c gs := by
  subst hx
  obtain ⟨a', c', e, hs, -, h1, h2⟩ := hS.row 0 rfl
  cases e
  refine ⟨hs, hn, h1, h2, hS.rownil 0 rfl, fun g hg => ?_⟩
  rcases hM g hg with h | h
  · exact mem_of_gp (hS.mem (List.mem_cons_of_mem _ h))
  · exact h
theorem build_g (g : Int) (w : World) : (Instr.build 31 #[(0, .int .i64 g)]).run Try.prog w = .ok (.agg #[.int .i64 g, .slice none 0 0]) w := by kernel_rfl
theorem open_any (a : Option Addr) (gs : List Gr) (n cap : Nat) (g : Int) (w : World) (hD : Deep w a n cap gs) (hm : n ≤ 1000) (hmm : ∀ g ∈ gs, g.mem.length ≤ 10000) (hu : Ids.Up (nos gs)) :
    Calls Try.prog 18 #[.slice a n cap, .int .i64 g] w (GsOut (openK (keys gs) g) w) := by
  have hS := St.start w
  have cF := fun W (h : Deep W a n cap gs) => find_any a gs n cap g W h (by omega) hu
  have cC := fun W (h : Deep W a n cap gs) => copied_any a gs n cap W h hm hmm
  have hpl := place_le (nos gs) g
  have hnl : (nos gs).length = n := by rw [nos, List.length_map, hD.len]
  have hlen := hD.len
  have hlt := Ids.has_lt (nos gs) g hu
  rw [hnl] at hpl
  unfold openK
  rw [← nos_keys]
  generalize Ids.has (nos gs) g = hb at cF ⊢
  generalize Ids.place (nos gs) g = p at cF hpl ⊢
  replace hD := Lib.hid hD
  replace cF := Lib.hid cF
  replace cC := Lib.hid cC
  clear hnl hu hlt
  by_cases h1 : g < 0
  · rw [if_pos (.inl h1)]
    clear hlen
    go_enter Try.func18, Try.ntmps18
    go_wp2_with fail
    go_ret2
    exact gsOut_err hS.below
  · have h1' : 0 ≤ g := by omega
    by_cases h2 : 16 ≤ g
    · rw [if_pos (.inr h2)]
      have d1 : decide (g < 0) = false := decide_eq_false h1
      clear hlen h1
      go_enter Try.func18, Try.ntmps18
      go_wp2_with fail
      go_ret2
      exact gsOut_err hS.below
    · have h2' : g < 16 := by omega
      have d1 : decide (g < 0) = false := decide_eq_false h1
      have d2 : decide (16 ≤ g) = false := decide_eq_false h2
      rw [if_neg (by omega)]
      clear h1 h2
      cases hb with
      | true =>
        rw [if_pos rfl]
        clear hlen
        go_enter Try.func18, Try.ntmps18
        go_wp2_with (go_at_call 33; (with_reducible refine (cF.out _ hD.out).mono ?_); rintro _ w3 ⟨rfl, hb3⟩; have hS1 := hS.keepB hb3; clear hb3 hS; have hS := hS1; clear hS1)
        go_ret2
        exact gsOut_err hS.below
      | false =>
        rw [if_neg (by simp)]
        have hD3 := fun W (h : Below w.heap.size w W) => hD.out.below h
        have cI := fun a3 c3 gs' gv W h => ginsert_any a3 gv n c3 p (grows gs') [.int .i64 g, .slice none 0 0] W h (grows_one gs') (by intro u hu; simp at hu; rcases hu with rfl | rfl <;> rfl) rfl hpl (by omega)
        replace cI := Lib.hid cI
        replace hlen := Lib.hid hlen
        replace hD3 := Lib.hid hD3
        go_enter Try.func18, Try.ntmps18
        go_wp2_with (first
          | (go_at_call 33; (with_reducible refine (cF.out _ hD.out).mono ?_); rintro _ w3 ⟨rfl, hb3⟩; have hS1 := hS.keepB hb3; clear hb3 hS; have hS := hS1; clear hS1)
          | (go_at_call 43; (with_reducible refine (cC.out _ (hD3.out _ hS.below)).mono ?_); rintro _ w3 ⟨a3, c3, gs', hk3, rfl, hb3⟩; have hS1 := hS.made hb3; clear hS hb3; have hS := hS1; clear hS1; simp only [hlen.out, List.append_nil] at hS ⊢; replace hk3 := Lib.hid hk3)
          | ((with_reducible refine wpList_build1 rfl rfl (.int .i64 g) rfl (build_g g) ?_))
          | ((with_reducible refine wpList_build1a_st hS rfl rfl Try.underlying22 elem_g rfl rfl (by omega) ?_); intro g3 w4 hS1; clear hS; have hS := hS1.swap; clear hS1)
          | (go_at_call 42; (refine (cI.out a3 c3 gs' g3 _ (hS.pre (gA a3 n c3 g3 (grows gs') [.int .i64 g, .slice none 0 0]) _ rfl)).mono ?_); rintro _ w5 ⟨a4, c4, rfl, hb3⟩; have hS1 := hS.call (gA a3 n c3 g3 (grows gs') [.int .i64 g, .slice none 0 0]) _ rfl hb3; clear hS hb3; have hS := hS1; clear hS1))
        go_ret2
        have hl' : gs'.length = n := by
          have := congrArg List.length hk3.out
          simp only [keys, List.length_map] at this
          rw [this, hlen.out]
        have hlx : (gs'.take p ++ (⟨g, none, 0, []⟩ : Gr) :: gs'.drop p).length = n + 1 := by simp; omega
        have hd := deep_of (gs := gs'.take p ++ (⟨g, none, 0, []⟩ : Gr) :: gs'.drop p) hS (by
          rw [grows_take, grows_drop, grows_append]; simp [grows, Gr.row]) hlx (by
          intro x hx
          simp only [List.mem_append, List.mem_cons] at hx
          rcases hx with hx | rfl | hx
          · left; exact List.mem_map.2 ⟨x, by simpa using List.mem_of_mem_take hx, rfl⟩
          · right; exact ⟨Sl.nil _ _, Nat.le_refl _, Nat.zero_le _, fun _ => rfl⟩
          · left; exact List.mem_map.2 ⟨x, by simpa using List.mem_of_mem_drop hx, rfl⟩)
        refine ⟨a4, c4, _, ?_, ?_, by rw [hlx]; exact hd, hS.below⟩
        · rw [← hk3.out]
          simp [keys, Gr.key]
        · rw [hlx]; rfl
theorem close_any (a : Option Addr) (gs : List Gr) (n cap : Nat) (g : Int) (w : World) (hD : Deep w a n cap gs) (hm : n ≤ 1000) (hmm : ∀ g ∈ gs, g.mem.length ≤ 10000) (hu : Ids.Up (nos gs)) :
    Calls Try.prog 20 #[.slice a n cap, .int .i64 g] w (GsOut (closeK (keys gs) g) w) := by
  have hS := St.start w
  have cF := fun W (h : Deep W a n cap gs) => find_any a gs n cap g W h (by omega) hu
  have cC := fun W (h : Deep W a n cap gs) => copied_any a gs n cap W h hm hmm
  have hnl : (nos gs).length = n := by rw [nos, List.length_map, hD.len]
  have hlen := hD.len
  have hlt := Ids.has_lt (nos gs) g hu
  rw [hnl] at hlt
  unfold closeK
  rw [← nos_keys]
  generalize Ids.has (nos gs) g = hb at cF hlt ⊢
  generalize Ids.place (nos gs) g = p at cF hlt ⊢
  replace hD := Lib.hid hD
  replace cF := Lib.hid cF
  replace cC := Lib.hid cC
  clear hnl hu
  by_cases h1 : g < 0
  · rw [if_pos (.inl h1)]
    clear hlen hlt
    go_enter Try.func20, Try.ntmps20
    go_wp2_with fail
    go_ret2
    exact gsOut_err hS.below
  · have h1' : 0 ≤ g := by omega
    by_cases h2 : 16 ≤ g
    · rw [if_pos (.inr h2)]
      have d1 : decide (g < 0) = false := decide_eq_false h1
      clear hlen h1 hlt
      go_enter Try.func20, Try.ntmps20
      go_wp2_with fail
      go_ret2
      exact gsOut_err hS.below
    · have h2' : g < 16 := by omega
      have d1 : decide (g < 0) = false := decide_eq_false h1
      have d2 : decide (16 ≤ g) = false := decide_eq_false h2
      rw [if_neg (by omega)]
      clear h1 h2
      cases hb with
      | false =>
        rw [if_neg (by simp)]
        clear hlen hlt
        go_enter Try.func20, Try.ntmps20
        go_wp2_with (go_at_call 33; (with_reducible refine (cF.out _ hD.out).mono ?_); rintro _ w3 ⟨rfl, hb3⟩; have hS1 := hS.keepB hb3; clear hb3 hS; have hS := hS1; clear hS1)
        go_ret2
        exact gsOut_err hS.below
      | true =>
        rw [if_pos rfl]
        have hpn := hlt rfl
        obtain ⟨k, rfl⟩ : ∃ k, n = k + 1 := ⟨n - 1, by omega⟩
        have hD3 := fun W (h : Below w.heap.size w W) => hD.out.below h
        have cI := fun g3 c3 gs' W h => gdelete_any g3 k c3 p (grows gs') W h (grows_one gs') (by omega) (by omega)
        replace cI := Lib.hid cI
        replace hlen := Lib.hid hlen
        replace hD3 := Lib.hid hD3
        clear hlt
        go_enter Try.func20, Try.ntmps20
        go_wp2_with (first
          | (go_at_call 33; (with_reducible refine (cF.out _ hD.out).mono ?_); rintro _ w3 ⟨rfl, hb3⟩; have hS1 := hS.keepB hb3; clear hb3 hS; have hS := hS1; clear hS1)
          | (go_at_call 43; (with_reducible refine (cC.out _ (hD3.out _ hS.below)).mono ?_); rintro _ w3 ⟨a3, c3, gs', hk3, rfl, hb3⟩; have hS1 := hS.made hb3; clear hS hb3; have hS := hS1; clear hS1; simp only [hlen.out, List.append_nil] at hS ⊢; replace hk3 := Lib.hid hk3; obtain ⟨g3, c4, e3, -⟩ := hS.rowat 0 rfl (by omega); cases e3)
          | (go_at_call 45; (refine (cI.out g3 c3 gs' _ (hS.pre [Ch.row 31 2 (.slice (some ⟨g3, 0, none⟩) (k + 1) c3) (k + 1) (grows gs')] _ rfl)).mono ?_); rintro _ w5 ⟨rfl, hb3⟩; have hS1 := hS.call [Ch.row 31 2 (.slice (some ⟨g3, 0, none⟩) (k + 1) c3) (k + 1) (grows gs')] _ rfl hb3; clear hS hb3; have hS := hS1; clear hS1))
        go_ret2
        have hl' : gs'.length = k + 1 := by
          have := congrArg List.length hk3.out
          simp only [keys, List.length_map] at this
          rw [this, hlen.out]
        have hlx : (gs'.take p ++ gs'.drop (p + 1)).length = k := by simp; omega
        have hd := deep_of (gs := gs'.take p ++ gs'.drop (p + 1)) hS (by
          rw [grows_take, grows_drop, grows_append]) hlx (by
          intro x hx
          simp only [List.mem_append] at hx
          rcases hx with hx | hx
          · left; exact List.mem_map.2 ⟨x, by simpa using List.mem_of_mem_take hx, rfl⟩
          · left; exact List.mem_map.2 ⟨x, by simpa using List.mem_of_mem_drop hx, rfl⟩)
        refine ⟨_, _, _, ?_, ?_, by rw [hlx]; exact hd, hS.below⟩
        · rw [← hk3.out]
          simp [keys]
        · rw [hlx]; rfl
end Go.Proofs.Ytkbekagmfbgefaa
end
