/- The library's Insert and Delete, at groups. -/
import Derived.Test.YtplgpbbghhlbjaaSt7
import Derived.Test.YtplgpbbghhlbjaaGrp1
set_option linter.unusedSimpArgs false
set_option linter.unusedVariables false
namespace Go.Proofs.Ytplgpbbghhlbjaa
open Go.RowKit Go.Ofp
set_option linter.unusedVariables false
set_option maxRecDepth 100000
set_option maxHeartbeats 4000000

theorem elem_g : Elem Try.prog 58 (.agg #[.int .i64 0, .slice none 0 0]) 2 32 := Elem.mk (by kernel_rfl) (by rfl) (by decide)

theorem goverlaps_no (w : World) (gv g j m lb cb : Nat) (cv cs : Array Value) (hv : Whole w gv 58 cv) (hg : Whole w g 58 cs) (hne : gv ≠ g) (hcs : cs.size ≠ 0) :
    (callFunc 99 #[.slice (some ⟨gv, 0, none⟩) m m, .slice (some ⟨g, j, none⟩) lb cb]).run Try.prog w = .ok (.value (.bool false)) w := by
  have hz : ∀ w : World, (sizeOf 58).run Try.prog w = .ok 2 w := fun w => by kernel_rfl
  rw [run_callFunc_extern Try.func99 (by kernel_rfl) (by kernel_rfl) (by kernel_rfl) (e := Extern.SlicesOverlaps.overlaps #[52, 52] #[4]) (by kernel_rfl),
    Lib.run_overlaps_apart w 52 4 58 Try.underlying52 2 hz ⟨gv, 0, none⟩ ⟨g, j, none⟩ m m lb cb hne _ _ _ _ hv.shape hg.shape hcs (hv.frozen 0) (hv.frozen cv.size)]
  rfl

/-- What Insert is handed. -/
def gA (a : Option Addr) (n c gv : Nat) (xs V : List Value) : List Ch := [Ch.row 58 2 (.slice a n c) n xs, Ch.blk gv 58 V.toArray]
def GInsRet (F : List Nat) (n i : Nat) (xs V : List Value) (w : World) (e : Ending) (w' : World) : Prop := ∃ a' c', e = .returned (.slice a' (n + 1) c') ∧ St w F [Ch.row 58 2 (.slice a' (n + 1) c') (n + 1) (xs.take (i * 2) ++ V ++ xs.drop (i * 2))] w'

theorem ginsert_room (g gv n c i : Nat) (xs V : List Value) (w : World) (h : St w (feet (gA (some ⟨g, 0, none⟩) n c gv xs V)) (gA (some ⟨g, 0, none⟩) n c gv xs V) w)
    (h1x : ∀ u ∈ xs, u.oneCell' = true) (h1v : ∀ u ∈ V, u.oneCell' = true) (hV : V.length = 2) (hi : i < n) (hc : n + 1 ≤ c) (hm : n ≤ 100000) :
    Calls Try.prog 74 #[.slice (some ⟨g, 0, none⟩) n c, .int .i64 i, .slice (some ⟨gv, 0, none⟩) 1 1] w (GInsRet (feet (gA (some ⟨g, 0, none⟩) n c gv xs V)) n i xs V w) := by
  generalize feet (gA (some ⟨g, 0, none⟩) n c gv xs V) = F at h ⊢
  have h' : St w F [Ch.row 58 2 (.slice (some ⟨g, 0, none⟩) n c) n xs, Ch.blk gv 58 V.toArray] w := h
  obtain ⟨cur, h1, h2, h3, h4, hS⟩ := h'.rowblk
  clear h h'
  have hne : gv ≠ g := fun e => by
    have := hS.apart 1 0 _ _ rfl rfl (by omega) gv (by simp [Ch.blk])
    simp [Ch.blk, e] at this
  have hov := fun lb cb => goverlaps_no w gv g ((i + 1) * 2) 1 lb cb _ _ (hS.get 1 rfl) (hS.get 0 rfl) hne (by omega)
  have h4' : c ≤ 9223372036854775807 := by unfold maxLen at h4; omega
  have hci : ¬ (c = i) := by omega
  have hci1 : ¬ (c = i + 1) := by omega
  have hcl : cur.toList.length = c * 2 := by simpa using h1
  have e1 : (i + 1) * 2 = i * 2 + 2 := by omega
  have e2 : (n - i) * 2 = n * 2 - i * 2 := by omega
  have e3 : (n + 1) * 2 = n * 2 + 2 := by omega
  have hfin := insert_cells cur.toList xs V (n * 2) (i * 2) 2 h2 (by omega) hV (by omega)
  rw [← e1, ← e2, ← e3] at hfin
  have hone1 : ∀ u ∈ (cur.toList.drop (i * 2)).take ((n - i) * 2), u.oneCell' = true := by
    rw [e2, drop_take_of _ _ (n * 2) (i * 2) h2]
    exact fun u hu => h1x u (List.mem_of_mem_drop hu)
  have hlen1 : ((cur.toList.drop (i * 2)).take ((n - i) * 2)).length = (n - i) * 2 := by rw [List.length_take, List.length_drop]; omega
  have hfit1 : (i + 1) * 2 + (n - i) * 2 ≤ cur.size := by omega
  have hk1 : Nat.min (n + 1 - i) (n - i) = n - i := Nat.min_eq_right (by omega)
  have hk2 : Nat.min 1 (n + 1 - i) = 1 := Nat.min_eq_left (by omega)
  clear e1 e2 e3
  replace hfin := Lib.hid hfin
  replace hone1 := Lib.hid hone1
  replace hlen1 := Lib.hid hlen1
  replace hfit1 := Lib.hid hfit1
  replace hk1 := Lib.hid hk1
  replace hk2 := Lib.hid hk2
  replace h1 := Lib.hid h1
  replace h2 := Lib.hid h2
  replace hcl := Lib.hid hcl
  replace hV := Lib.hid hV
  have hb1 : (i : Int) ≤ (n : Int) + 1 := by omega
  have hb2 : (i : Int) ≤ (n : Int) := by omega
  go_enter Try.func74, Try.ntmps74
  go_wp2_with fail
  clear hov
  have s1 : (0 : Int) ≤ (i : Int) + 1 := by omega
  have s2 : ((i : Int) + 1).toNat = i + 1 := by omega
  have s3 : (i : Int) + 1 ≤ (n : Int) + 1 := by omega
  have s4 : n + 1 - (i + 1) = n - i := by omega
  have s5 : IntKind.i64.wrap ((i : Int) + 1) = (i : Int) + 1 := IntWalk.i64_in _ (by omega)
  refine mixs_beginE (by kernel_rfl) hS ?_
  clear hS
  intro w2 hS hC
  refine mixs_take 0 (v := ?_) rfl (by kernel_rfl) (fun _ _ _ h => h) (by kernel_rfl) (by assumption) (fun s => ?hy) ?_; case hy => (go_simp <;> with_reducible rfl)
  try simp only [List.getElem_toArray, List.getElem_cons_succ, List.getElem_cons_zero, Act.put, List.setIfInBounds_toArray, List.set_cons_zero, List.set_cons_succ]
  refine mixs_take 1 (v := ?_) rfl (by kernel_rfl) (fun _ _ _ h => h) (by kernel_rfl) (by assumption) (fun s => ?hy) ?_; case hy => (go_simp <;> with_reducible rfl)
  try simp only [List.getElem_toArray, List.getElem_cons_succ, List.getElem_cons_zero, Act.put, List.setIfInBounds_toArray, List.set_cons_zero, List.set_cons_succ]
  refine mixs_take 2 (v := ?_) rfl (by kernel_rfl) (fun _ _ _ h => h) (by kernel_rfl) (by assumption) (fun s => ?hy) ?_; case hy => (go_simp <;> with_reducible rfl)
  try simp only [List.getElem_toArray, List.getElem_cons_succ, List.getElem_cons_zero, Act.put, List.setIfInBounds_toArray, List.set_cons_zero, List.set_cons_succ]
  refine mixs_take 3 (v := ?_) rfl (by kernel_rfl) (fun _ _ _ h => h) (by kernel_rfl) (by assumption) (fun s => ?hy) ?_; case hy => (go_simp <;> with_reducible rfl)
  try simp only [List.getElem_toArray, List.getElem_cons_succ, List.getElem_cons_zero, Act.put, List.setIfInBounds_toArray, List.set_cons_zero, List.set_cons_succ]
  refine mixs_take 4 (v := ?_) rfl (by kernel_rfl) (fun _ _ _ h => h) (by kernel_rfl) (by assumption) (fun s => ?hy) ?_; case hy => (go_simp <;> with_reducible rfl)
  try simp only [List.getElem_toArray, List.getElem_cons_succ, List.getElem_cons_zero, Act.put, List.setIfInBounds_toArray, List.set_cons_zero, List.set_cons_succ]
  refine mixs_take 5 (v := ?_) rfl (by kernel_rfl) (fun _ _ _ h => h) (by kernel_rfl) (by assumption) (fun s => ?hy) ?_; case hy => (go_simp <;> with_reducible rfl)
  try simp only [List.getElem_toArray, List.getElem_cons_succ, List.getElem_cons_zero, Act.put, List.setIfInBounds_toArray, List.set_cons_zero, List.set_cons_succ]
  refine mixs_take 6 (v := ?_) rfl (by kernel_rfl) (fun _ _ _ h => h) (by kernel_rfl) (by assumption) (fun s => ?hy) ?_; case hy => (go_simp <;> with_reducible rfl)
  try simp only [List.getElem_toArray, List.getElem_cons_succ, List.getElem_cons_zero, Act.put, List.setIfInBounds_toArray, List.set_cons_zero, List.set_cons_succ]
  refine mixs_take 7 (v := ?_) rfl (by kernel_rfl) (fun _ _ _ h => h) (by kernel_rfl) (by assumption) (fun s => ?hy) ?_; case hy => (go_simp <;> with_reducible rfl)
  try simp only [List.getElem_toArray, List.getElem_cons_succ, List.getElem_cons_zero, Act.put, List.setIfInBounds_toArray, List.set_cons_zero, List.set_cons_succ]
  refine mixs_one 8 (by kernel_rfl) rfl (fun K hK => ?_)
  ( refine op_copyblk_st (by kernel_rfl) 0 hS rfl rfl Try.underlying52 elem_g rfl rfl (hS.blkpart 0 rfl (i * 2) ((n - i) * 2)) hk1.out hlen1.out hone1.out hfit1.out ?_; intro w3 hS1; clear hS; have hS := hS1; clear hS1 )
  try clear hC
  refine hK.out _ _ _ (fun _ h => h) (by first | exact hS | exact hS.drop | exact hS.drop.drop | exact hS.drop.drop.drop | exact hS.drop.drop.drop.drop | exact hS.empty) (fun hC => ?_)
  clear hK K
  try simp only [List.getElem_toArray, List.getElem_cons_succ, List.getElem_cons_zero, Act.put, List.setIfInBounds_toArray, List.set_cons_zero, List.set_cons_succ]
  refine wpAnyH_done (by kernel_rfl) ?_ _
  clear s1 s2 s3 s4 s5
  go_wp2_with ((with_reducible refine wpList_copyblk_st 0 (off := i * 2) (nd := n + 1 - i) hS rfl rfl rfl Try.underlying52 elem_g rfl rfl (hS.blksl2 1 rfl) hk2.out (by rw [hV.out]) h1v (by have := h1.out; have := hV.out; simp only [List.size_toArray, List.length_append, List.length_take, List.length_drop, Array.length_toList]; omega) ?_); intro w3 hS1; clear hS; have hS := hS1; clear hS1)
  go_ret
  simp only [List.set_cons_zero] at hS
  have hr := hS.blkrow2 2 (n := n + 1) (c := c) (xs := xs.take (i * 2) ++ V ++ xs.drop (i * 2)) (by have := h1.out; have := hV.out; simp only [List.size_toArray, List.length_append, List.length_take, List.length_drop, Array.length_toList]; omega) hc h4 (by
    have := hfin.out
    rw [show (i + 1) * 2 = i * 2 + 1 * 2 by omega] at this
    rw [show (i + 1) * 2 = i * 2 + 1 * 2 by omega]
    exact this)
  exact ⟨_, _, rfl, hr.drop1⟩

theorem ginsert_end (a : Option Addr) (gv n c : Nat) (xs V : List Value) (w : World) (h : St w (feet (gA a n c gv xs V)) (gA a n c gv xs V) w) (h1v : ∀ u ∈ V, u.oneCell' = true) (hV : V.length = 2) (hm : n ≤ 100000) :
    Calls Try.prog 74 #[.slice a n c, .int .i64 n, .slice (some ⟨gv, 0, none⟩) 1 1] w (GInsRet (feet (gA a n c gv xs V)) n n xs V w) := by
  generalize feet (gA a n c gv xs V) = F at h ⊢
  have hS : St w F [Ch.row 58 2 (.slice a n c) n xs, Ch.blk gv 58 V.toArray] w := h
  clear h
  have hxl := (hS.get 0 rfl).1
  have hfin := Lib.hid (show xs ++ V = xs.take (n * 2) ++ V ++ xs.drop (n * 2) by rw [List.take_of_length_le (by omega), List.drop_of_length_le (by omega), List.append_nil])
  have hsh := (hS.get 0 rfl).2
  replace hV := Lib.hid hV
  replace hxl := Lib.hid hxl
  rcases hsh with ⟨e, e0⟩ | ⟨g, cap, cur, e, -, -, h3, h4, -⟩
  · cases e
    clear e0
    go_enter Try.func74, Try.ntmps74
    go_wp2_with (at_builtin; ((with_reducible refine wpList_app_st 0 hS rfl rfl rfl Try.underlying52 elem_g rfl (Src.slice Try.underlying52 (hS.blksl2 1 rfl) (by rw [hV.out])) rfl h1v (by omega) (by unfold maxLen; omega) ?_); intro v5 w3 hS1; clear hS; simp only [List.set_cons_zero] at hS1; have hS := hS1; clear hS1; obtain ⟨a5, c5, rfl, -⟩ := hS.row 0 rfl))
    go_ret
    rw [hfin.out] at hS
    exact ⟨_, _, rfl, hS.drop1⟩
  · cases e
    have h4' : c ≤ 9223372036854775807 := by unfold maxLen at h4; omega
    by_cases hcn : c = n
    · subst hcn
      go_enter Try.func74, Try.ntmps74
      go_wp2_with (at_builtin; ((with_reducible refine wpList_app_st 0 hS rfl rfl rfl Try.underlying52 elem_g rfl (Src.slice Try.underlying52 (hS.blksl2 1 rfl) (by rw [hV.out])) rfl h1v (by omega) (by unfold maxLen; omega) ?_); intro v5 w3 hS1; clear hS; simp only [List.set_cons_zero] at hS1; have hS := hS1; clear hS1; obtain ⟨a5, c5, rfl, -⟩ := hS.row 0 rfl))
      go_ret
      rw [hfin.out] at hS
      exact ⟨_, _, rfl, hS.drop1⟩
    · go_enter Try.func74, Try.ntmps74
      go_wp2_with (at_builtin; ((with_reducible refine wpList_app_st 0 hS rfl rfl rfl Try.underlying52 elem_g rfl (Src.slice Try.underlying52 (hS.blksl2 1 rfl) (by rw [hV.out])) rfl h1v (by omega) (by unfold maxLen; omega) ?_); intro v5 w3 hS1; clear hS; simp only [List.set_cons_zero] at hS1; have hS := hS1; clear hS1; obtain ⟨a5, c5, rfl, -⟩ := hS.row 0 rfl))
      go_ret
      rw [hfin.out] at hS
      exact ⟨_, _, rfl, hS.drop1⟩

theorem ginsert_grow (g gv n i : Nat) (xs V : List Value) (w : World) (h : St w (feet (gA (some ⟨g, 0, none⟩) n n gv xs V)) (gA (some ⟨g, 0, none⟩) n n gv xs V) w) (h1x : ∀ u ∈ xs, u.oneCell' = true) (h1v : ∀ u ∈ V, u.oneCell' = true) (hV : V.length = 2) (hi : i < n) (hm : n ≤ 100000) :
    Calls Try.prog 74 #[.slice (some ⟨g, 0, none⟩) n n, .int .i64 i, .slice (some ⟨gv, 0, none⟩) 1 1] w (GInsRet (feet (gA (some ⟨g, 0, none⟩) n n gv xs V)) n i xs V w) := by
  generalize feet (gA (some ⟨g, 0, none⟩) n n gv xs V) = F at h ⊢
  have hS : St w F [Ch.row 58 2 (.slice (some ⟨g, 0, none⟩) n n) n xs, Ch.blk gv 58 V.toArray] w := h
  clear h
  have hxl := (hS.get 0 rfl).1
  have hni : ¬ (n = i) := by omega
  have hs1 : Sl w (some ⟨g, 0, none⟩) (xs.take (i * 2)) := (hS.rowsl 0 rfl).take (i * 2)
  have hl1 : (xs.take (i * 2)).length = i * 2 := by rw [List.length_take]; omega
  have hsum : i + (n + 1 - i) = n + 1 := by omega
  have hM : (n : Int) + 1 - (i : Int) = ((n + 1 - i : Nat) : Int) := by omega
  have hl3 : (xs.drop (i * 2)).length = (n - i) * 2 := by rw [List.length_drop]; omega
  have h1d : ∀ u ∈ xs.drop (i * 2), u.oneCell' = true := fun u hu => h1x u (List.mem_of_mem_drop hu)
  have hk2 : Nat.min 1 (n + 1 - i) = 1 := Nat.min_eq_left (by omega)
  have hk3 : Nat.min (n - i) (n - i) = n - i := Nat.min_self _
  replace hs1 := Lib.hid hs1
  replace hl1 := Lib.hid hl1
  replace hM := Lib.hid hM
  replace hsum := Lib.hid hsum
  replace hk2 := Lib.hid hk2
  replace hk3 := Lib.hid hk3
  replace hl3 := Lib.hid hl3
  replace hV := Lib.hid hV
  replace hxl := Lib.hid hxl
  go_enter Try.func74, Try.ntmps74
  go_wp2_with (first
    | (at_builtin; ((with_reducible refine wpList_appzeros_st (m := n + 1 - i) hS rfl rfl Try.underlying52 Try.underlying3 elem_g rfl rfl hM.out hs1.out hl1.out (by omega) (by omega) (by omega) (by unfold maxLen; omega) (by omega) ?_); intro g5 c5 w3 hS1; clear hS; simp only [hsum.out] at hS1 ⊢; obtain ⟨cur, k1, k2, k3, k4, hS⟩ := hS1.rowblk; clear hS1; have q1 : ¬ (c5 = i) := (by omega); have q2 : ¬ (c5 = i + 1) := (by omega); have q3 : c5 ≤ 9223372036854775807 := (by unfold maxLen at k4; omega); replace k1 := Lib.hid k1; replace k2 := Lib.hid k2))
    | ((with_reducible refine wpList_copyblk_st 0 (off := i * 2) (nd := n + 1 - i) hS rfl rfl rfl Try.underlying52 elem_g rfl rfl (hS.blksl2 2 rfl) hk2.out (by rw [hV.out]) h1v (by have := k1.out; omega) ?_); intro w3 hS1; clear hS; have hS := hS1; clear hS1))
  have s1 : (0 : Int) ≤ (i : Int) + 1 := by omega
  have s2 : ((i : Int) + 1).toNat = i + 1 := by omega
  have s3 : (i : Int) + 1 ≤ (n : Int) + 1 := by omega
  have s4 : n + 1 - (i + 1) = n - i := by omega
  have s5 : IntKind.i64.wrap ((i : Int) + 1) = (i : Int) + 1 := IntWalk.i64_in _ (by omega)
  have s6 : (i : Int) ≤ (n : Int) := by omega
  simp only [List.set_cons_zero] at hS
  refine mixs_beginE (by kernel_rfl) hS ?_
  clear hS
  intro w2 hS hC
  have hs3 : Sl w2 (some ⟨g, i * 2, none⟩) (xs.drop (i * 2)) := by
    have := (hS.rowsl 1 rfl).drop (i * 2)
    rwa [Nat.zero_add] at this
  replace hs3 := Lib.hid hs3
  refine mixs_take 0 (v := ?_) rfl (by kernel_rfl) (fun _ _ _ h => h) (by kernel_rfl) (by assumption) (fun s => ?hy) ?_; case hy => (go_simp <;> with_reducible rfl)
  try simp only [List.getElem_toArray, List.getElem_cons_succ, List.getElem_cons_zero, Act.put, List.setIfInBounds_toArray, List.set_cons_zero, List.set_cons_succ]
  refine mixs_take 1 (v := ?_) rfl (by kernel_rfl) (fun _ _ _ h => h) (by kernel_rfl) (by assumption) (fun s => ?hy) ?_; case hy => (go_simp <;> with_reducible rfl)
  try simp only [List.getElem_toArray, List.getElem_cons_succ, List.getElem_cons_zero, Act.put, List.setIfInBounds_toArray, List.set_cons_zero, List.set_cons_succ]
  refine mixs_take 2 (v := ?_) rfl (by kernel_rfl) (fun _ _ _ h => h) (by kernel_rfl) (by assumption) (fun s => ?hy) ?_; case hy => (go_simp <;> with_reducible rfl)
  try simp only [List.getElem_toArray, List.getElem_cons_succ, List.getElem_cons_zero, Act.put, List.setIfInBounds_toArray, List.set_cons_zero, List.set_cons_succ]
  refine mixs_take 3 (v := ?_) rfl (by kernel_rfl) (fun _ _ _ h => h) (by kernel_rfl) (by assumption) (fun s => ?hy) ?_; case hy => (go_simp <;> with_reducible rfl)
  try simp only [List.getElem_toArray, List.getElem_cons_succ, List.getElem_cons_zero, Act.put, List.setIfInBounds_toArray, List.set_cons_zero, List.set_cons_succ]
  refine mixs_take 4 (v := ?_) rfl (by kernel_rfl) (fun _ _ _ h => h) (by kernel_rfl) (by assumption) (fun s => ?hy) ?_; case hy => (go_simp <;> with_reducible rfl)
  try simp only [List.getElem_toArray, List.getElem_cons_succ, List.getElem_cons_zero, Act.put, List.setIfInBounds_toArray, List.set_cons_zero, List.set_cons_succ]
  refine mixs_take 5 (v := ?_) rfl (by kernel_rfl) (fun _ _ _ h => h) (by kernel_rfl) (by assumption) (fun s => ?hy) ?_; case hy => (go_simp <;> with_reducible rfl)
  try simp only [List.getElem_toArray, List.getElem_cons_succ, List.getElem_cons_zero, Act.put, List.setIfInBounds_toArray, List.set_cons_zero, List.set_cons_succ]
  refine mixs_take 6 (v := ?_) rfl (by kernel_rfl) (fun _ _ _ h => h) (by kernel_rfl) (by assumption) (fun s => ?hy) ?_; case hy => (go_simp <;> with_reducible rfl)
  try simp only [List.getElem_toArray, List.getElem_cons_succ, List.getElem_cons_zero, Act.put, List.setIfInBounds_toArray, List.set_cons_zero, List.set_cons_succ]
  refine mixs_take 7 (v := ?_) rfl (by kernel_rfl) (fun _ _ _ h => h) (by kernel_rfl) (by assumption) (fun s => ?hy) ?_; case hy => (go_simp <;> with_reducible rfl)
  try simp only [List.getElem_toArray, List.getElem_cons_succ, List.getElem_cons_zero, Act.put, List.setIfInBounds_toArray, List.set_cons_zero, List.set_cons_succ]
  refine mixs_one 8 (by kernel_rfl) rfl (fun K hK => ?_)
  ( refine op_copyblk_st (by kernel_rfl) 0 hS rfl rfl Try.underlying52 elem_g rfl rfl hs3.out hk3.out hl3.out h1d (by have := k1.out; have := hV.out; simp only [List.size_toArray, List.length_append, List.length_take, List.length_drop, Array.length_toList]; omega) ?_; intro w3 hS1; clear hS hs3; have hS := hS1; clear hS1 )
  try clear hC
  refine hK.out _ _ _ (fun _ h => h) (by first | exact hS | exact hS.drop | exact hS.drop.drop | exact hS.drop.drop.drop | exact hS.drop.drop.drop.drop | exact hS.empty) (fun hC => ?_)
  clear hK K
  try simp only [List.getElem_toArray, List.getElem_cons_succ, List.getElem_cons_zero, Act.put, List.setIfInBounds_toArray, List.set_cons_zero, List.set_cons_succ]
  refine wpAnyH_done (by kernel_rfl) ?_ _
  clear s1 s2 s3 s4 s5 s6
  go_wp2_with fail
  go_ret
  have hcl : cur.toList.length = c5 * 2 := by simpa using k1.out
  have k2' := k2.out
  have hV' := hV.out
  have hfin := grow_cells cur.toList (xs.take (i * 2)) _ V (xs.drop (i * 2)) (n * 2) (i * 2) 2 (by rw [show n * 2 + 2 = (n + 1) * 2 by omega]; exact k2') hl1.out (by omega) hV' (by rw [hl3.out]; omega) (by omega)
  simp only [List.set_cons_zero] at hS
  have hr := hS.blkrow2 2 (n := n + 1) (c := c5) (xs := xs.take (i * 2) ++ V ++ xs.drop (i * 2)) (by have := k1.out; have := hl3.out; simp only [List.size_toArray, List.length_append, List.length_take, List.length_drop, Array.length_toList] at this ⊢; omega) k3 k4 (by
    rw [show (n + 1) * 2 = n * 2 + 2 by omega, show (i + 1) * 2 = i * 2 + 2 by omega, show (n - i) * 2 = n * 2 - i * 2 by omega]
    exact hfin)
  exact ⟨_, _, rfl, hr.drop1.drop1⟩

theorem ginsert_any (a : Option Addr) (gv n c i : Nat) (xs V : List Value) (w : World) (h : St w (feet (gA a n c gv xs V)) (gA a n c gv xs V) w) (h1x : ∀ u ∈ xs, u.oneCell' = true) (h1v : ∀ u ∈ V, u.oneCell' = true) (hV : V.length = 2) (hi : i ≤ n) (hm : n ≤ 100000) :
    Calls Try.prog 74 #[.slice a n c, .int .i64 i, .slice (some ⟨gv, 0, none⟩) 1 1] w (GInsRet (feet (gA a n c gv xs V)) n i xs V w) := by
  by_cases hin : i = n
  · subst hin
    exact ginsert_end a gv i c xs V w h h1v hV hm
  · obtain ⟨g, c', e, hc, -⟩ := h.rowat 0 rfl (by omega)
    cases e
    by_cases hcn : n + 1 ≤ c
    · exact ginsert_room g gv n c i xs V w h h1x h1v hV (by omega) hcn hm
    · obtain rfl : c = n := by omega
      exact ginsert_grow g gv c i xs V w h h1x h1v hV (by omega) hm

theorem gdelete_any (g k c i : Nat) (xs : List Value) (w : World) (h : St w (feet [Ch.row 58 2 (.slice (some ⟨g, 0, none⟩) (k + 1) c) (k + 1) xs]) [Ch.row 58 2 (.slice (some ⟨g, 0, none⟩) (k + 1) c) (k + 1) xs] w) (h1x : ∀ u ∈ xs, u.oneCell' = true) (hi : i ≤ k) (hm : k ≤ 100000) :
    Calls Try.prog 77 #[.slice (some ⟨g, 0, none⟩) (k + 1) c, .int .i64 i, .int .i64 ((i : Int) + 1)] w fun e w' => e = .returned (.slice (some ⟨g, 0, none⟩) k c) ∧ St w (feet [Ch.row 58 2 (.slice (some ⟨g, 0, none⟩) (k + 1) c) (k + 1) xs]) [Ch.row 58 2 (.slice (some ⟨g, 0, none⟩) k c) k (xs.take (i * 2) ++ xs.drop ((i + 1) * 2))] w' := by
  generalize feet [Ch.row 58 2 (.slice (some ⟨g, 0, none⟩) (k + 1) c) (k + 1) xs] = F at h ⊢
  obtain ⟨cur, h1, h2, h3, h4, hS⟩ := h.rowblk
  clear h
  have h4' : c ≤ 9223372036854775807 := by unfold maxLen at h4; omega
  have hcl : cur.toList.length = c * 2 := by simpa using h1
  have e1 : (i + 1) * 2 = i * 2 + 2 := by omega
  have e2 : (k - i) * 2 = k * 2 - i * 2 := by omega
  have e3 : (k + 1) * 2 = k * 2 + 2 := by omega
  have hfin := fun (R : List Value) => delete_cells cur.toList xs (k * 2) (i * 2) 2 (by rw [← e3]; exact h2) (by omega) R (by omega)
  rw [← e1, ← e2] at hfin
  have hone1 : ∀ u ∈ (cur.toList.drop ((i + 1) * 2)).take ((k - i) * 2), u.oneCell' = true := by
    have := drop_take_of cur.toList xs ((k + 1) * 2) ((i + 1) * 2) h2
    rw [show (k + 1) * 2 - (i + 1) * 2 = (k - i) * 2 by omega] at this
    rw [this]
    exact fun u hu => h1x u (List.mem_of_mem_drop hu)
  have hlen1 : ((cur.toList.drop ((i + 1) * 2)).take ((k - i) * 2)).length = (k - i) * 2 := by rw [List.length_take, List.length_drop]; omega
  have hroom : i + (k - i) ≤ c := by omega
  have hck : ¬ (c = k) := by omega
  have hci : ¬ (c = i) := by omega
  have hsum : i + (k - i) = k := by omega
  have hz1 : ∀ u ∈ (Value.agg #[.int .i64 0, .slice none 0 0]).cells, u.oneCell' = true := by
    intro u hu
    simp only [Value.cells, List.mem_toArray, List.mem_cons, List.not_mem_nil, or_false] at hu
    rcases hu with rfl | rfl <;> rfl
  clear e1 e2 e3
  replace hz1 := Lib.hid hz1
  replace hsum := Lib.hid hsum
  replace hfin := Lib.hid hfin
  replace hone1 := Lib.hid hone1
  replace hlen1 := Lib.hid hlen1
  replace h1 := Lib.hid h1
  replace h2 := Lib.hid h2
  replace hcl := Lib.hid hcl
  by_cases hci1 : c = i + 1
  · obtain rfl : k = i := by omega
    subst hci1
    clear hroom hone1 hlen1 hsum
    go_enter Try.func77, Try.ntmps77
    go_wp2_with fail
    have s1 : (0 : Int) ≤ (k : Int) + 1 := by omega
    have s2 : ((k : Int) + 1).toNat = k + 1 := by omega
    have s6 : (k : Int) ≤ (k : Int) + 1 := by omega
    refine mixs_beginE (by kernel_rfl) hS ?_
    clear hS
    intro w2 hS hC
    refine mixs_take 0 (v := ?_) rfl (by kernel_rfl) (fun _ _ _ h => h) (by kernel_rfl) (by assumption) (fun s => ?hy) ?_; case hy => (go_simp <;> with_reducible rfl)
    try simp only [List.getElem_toArray, List.getElem_cons_succ, List.getElem_cons_zero, Act.put, List.setIfInBounds_toArray, List.set_cons_zero, List.set_cons_succ]
    refine mixs_take 1 (v := ?_) rfl (by kernel_rfl) (fun _ _ _ h => h) (by kernel_rfl) (by assumption) (fun s => ?hy) ?_; case hy => (go_simp <;> with_reducible rfl)
    try simp only [List.getElem_toArray, List.getElem_cons_succ, List.getElem_cons_zero, Act.put, List.setIfInBounds_toArray, List.set_cons_zero, List.set_cons_succ]
    refine mixs_take 2 (v := ?_) rfl (by kernel_rfl) (fun _ _ _ h => h) (by kernel_rfl) (by assumption) (fun s => ?hy) ?_; case hy => (go_simp <;> with_reducible rfl)
    try simp only [List.getElem_toArray, List.getElem_cons_succ, List.getElem_cons_zero, Act.put, List.setIfInBounds_toArray, List.set_cons_zero, List.set_cons_succ]
    refine mixs_take 3 (v := ?_) rfl (by kernel_rfl) (fun _ _ _ h => h) (by kernel_rfl) (by assumption) (fun s => ?hy) ?_; case hy => (go_simp <;> with_reducible rfl)
    try simp only [List.getElem_toArray, List.getElem_cons_succ, List.getElem_cons_zero, Act.put, List.setIfInBounds_toArray, List.set_cons_zero, List.set_cons_succ]
    refine mixs_take 4 (v := ?_) rfl (by kernel_rfl) (fun _ _ _ h => h) (by kernel_rfl) (by assumption) (fun s => ?hy) ?_; case hy => (go_simp <;> with_reducible rfl)
    try simp only [List.getElem_toArray, List.getElem_cons_succ, List.getElem_cons_zero, Act.put, List.setIfInBounds_toArray, List.set_cons_zero, List.set_cons_succ]
    refine mixs_take 5 (v := ?_) rfl (by kernel_rfl) (fun _ _ _ h => h) (by kernel_rfl) (by assumption) (fun s => ?hy) ?_; case hy => (go_simp <;> with_reducible rfl)
    try simp only [List.getElem_toArray, List.getElem_cons_succ, List.getElem_cons_zero, Act.put, List.setIfInBounds_toArray, List.set_cons_zero, List.set_cons_succ]
    refine mixs_one 6 (by kernel_rfl) rfl (fun K hK => ?_)
    ( refine op_appblk_st (by kernel_rfl) 0 hS rfl rfl Try.underlying52 Try.underlying52 elem_g rfl rfl (Sl.nil _ _) (by simp) nil_one (by omega) h1.out ?_; intro w3 hS1; clear hS; have hS := hS1; clear hS1 )
    try clear hC
    refine hK.out _ _ _ (fun _ h => h) (by first | exact hS | exact hS.drop | exact hS.drop.drop | exact hS.drop.drop.drop | exact hS.drop.drop.drop.drop | exact hS.empty) (fun hC => ?_)
    clear hK K
    try simp only [List.getElem_toArray, List.getElem_cons_succ, List.getElem_cons_zero, Act.put, List.setIfInBounds_toArray, List.set_cons_zero, List.set_cons_succ]
    refine mixs_take 7 (v := ?_) rfl (by kernel_rfl) (fun _ _ _ h => h) (by kernel_rfl) (by assumption) (fun s => ?hy) ?_; case hy => (go_simp <;> with_reducible rfl)
    try simp only [List.getElem_toArray, List.getElem_cons_succ, List.getElem_cons_zero, Act.put, List.setIfInBounds_toArray, List.set_cons_zero, List.set_cons_succ]
    refine wpAnyH_done (by kernel_rfl) ?_ _
    clear s1 s2 s6
    go_wp2_with ((with_reducible refine wpList_clearblk_st 0 (off := k * 2) (n := 1) hS rfl rfl rfl Try.underlying52 elem_g hz1.out rfl (by have := h1.out; have := hcl.out; simp only [List.size_toArray, List.length_append, List.length_take, List.length_drop, Array.length_toList, List.length_nil]; omega) (by omega) ?_); intro w3 cs2 q1 q2 hS1; clear hS; have hS := hS1; clear hS1)
    go_ret
    simp only [List.set_cons_zero] at hS
    have hcl2 := hcl.out
    have h12 := h1.out
    simp only [List.size_toArray, List.length_append, List.length_take, List.length_drop, Array.length_toList, List.length_nil] at q1
    have hr := hS.blkrow2 2 (n := k) (c := (k + 1)) (xs := xs.take (k * 2) ++ xs.drop ((k + 1) * 2)) (by rw [q1]; omega) (by omega) h4 (by
      rw [q2]
      have := hfin.out (cur.toList.drop (k * 2 + 0 * 2))
      simpa using this)
    exact ⟨rfl, hr⟩
  · go_enter Try.func77, Try.ntmps77
    go_wp2_with fail
    have s1 : (0 : Int) ≤ (i : Int) + 1 := by omega
    have s2 : ((i : Int) + 1).toNat = i + 1 := by omega
    have s3 : (i : Int) + 1 ≤ (k : Int) + 1 := by omega
    have s6 : (i : Int) ≤ (k : Int) + 1 := by omega
    have s7 : i ≤ c := by omega
    refine mixs_beginE (by kernel_rfl) hS ?_
    clear hS
    intro w2 hS hC
    refine mixs_take 0 (v := ?_) rfl (by kernel_rfl) (fun _ _ _ h => h) (by kernel_rfl) (by assumption) (fun s => ?hy) ?_; case hy => (go_simp <;> with_reducible rfl)
    try simp only [List.getElem_toArray, List.getElem_cons_succ, List.getElem_cons_zero, Act.put, List.setIfInBounds_toArray, List.set_cons_zero, List.set_cons_succ]
    refine mixs_take 1 (v := ?_) rfl (by kernel_rfl) (fun _ _ _ h => h) (by kernel_rfl) (by assumption) (fun s => ?hy) ?_; case hy => (go_simp <;> with_reducible rfl)
    try simp only [List.getElem_toArray, List.getElem_cons_succ, List.getElem_cons_zero, Act.put, List.setIfInBounds_toArray, List.set_cons_zero, List.set_cons_succ]
    refine mixs_take 2 (v := ?_) rfl (by kernel_rfl) (fun _ _ _ h => h) (by kernel_rfl) (by assumption) (fun s => ?hy) ?_; case hy => (go_simp <;> with_reducible rfl)
    try simp only [List.getElem_toArray, List.getElem_cons_succ, List.getElem_cons_zero, Act.put, List.setIfInBounds_toArray, List.set_cons_zero, List.set_cons_succ]
    refine mixs_take 3 (v := ?_) rfl (by kernel_rfl) (fun _ _ _ h => h) (by kernel_rfl) (by assumption) (fun s => ?hy) ?_; case hy => (go_simp <;> with_reducible rfl)
    try simp only [List.getElem_toArray, List.getElem_cons_succ, List.getElem_cons_zero, Act.put, List.setIfInBounds_toArray, List.set_cons_zero, List.set_cons_succ]
    refine mixs_take 4 (v := ?_) rfl (by kernel_rfl) (fun _ _ _ h => h) (by kernel_rfl) (by assumption) (fun s => ?hy) ?_; case hy => (go_simp <;> with_reducible rfl)
    try simp only [List.getElem_toArray, List.getElem_cons_succ, List.getElem_cons_zero, Act.put, List.setIfInBounds_toArray, List.set_cons_zero, List.set_cons_succ]
    refine mixs_take 5 (v := ?_) rfl (by kernel_rfl) (fun _ _ _ h => h) (by kernel_rfl) (by assumption) (fun s => ?hy) ?_; case hy => (go_simp <;> with_reducible rfl)
    try simp only [List.getElem_toArray, List.getElem_cons_succ, List.getElem_cons_zero, Act.put, List.setIfInBounds_toArray, List.set_cons_zero, List.set_cons_succ]
    refine mixs_one 6 (by kernel_rfl) rfl (fun K hK => ?_)
    ( refine op_appblk_st (by kernel_rfl) 0 hS rfl rfl Try.underlying52 Try.underlying52 elem_g rfl rfl (hS.blkpart 0 rfl ((i + 1) * 2) ((k - i) * 2)) hlen1.out hone1.out hroom h1.out ?_; intro w3 hS1; clear hS; have hS := hS1; clear hS1 )
    try clear hC
    refine hK.out _ _ _ (fun _ h => h) (by first | exact hS | exact hS.drop | exact hS.drop.drop | exact hS.drop.drop.drop | exact hS.drop.drop.drop.drop | exact hS.empty) (fun hC => ?_)
    clear hK K
    try simp only [List.getElem_toArray, List.getElem_cons_succ, List.getElem_cons_zero, Act.put, List.setIfInBounds_toArray, List.set_cons_zero, List.set_cons_succ]
    refine mixs_take 7 (v := ?_) rfl (by kernel_rfl) (fun _ _ _ h => h) (by kernel_rfl) (by assumption) (fun s => ?hy) ?_; case hy => (go_simp <;> with_reducible rfl)
    try simp only [List.getElem_toArray, List.getElem_cons_succ, List.getElem_cons_zero, Act.put, List.setIfInBounds_toArray, List.set_cons_zero, List.set_cons_succ]
    refine wpAnyH_done (by kernel_rfl) ?_ _
    clear s1 s2 s3 s6 s7
    simp only [hsum.out]
    go_wp2_with ((with_reducible refine wpList_clearblk_st 0 (off := k * 2) (n := 1) hS rfl rfl rfl Try.underlying52 elem_g hz1.out rfl (by have := h1.out; have := hcl.out; simp only [List.size_toArray, List.length_append, List.length_take, List.length_drop, Array.length_toList, List.length_nil]; omega) (by omega) ?_); intro w3 cs2 q1 q2 hS1; clear hS; have hS := hS1; clear hS1)
    go_ret
    simp only [List.set_cons_zero] at hS
    have hcl2 := hcl.out
    have h12 := h1.out
    simp only [List.size_toArray, List.length_append, List.length_take, List.length_drop, Array.length_toList, List.length_nil] at q1
    have hr := hS.blkrow2 2 (n := k) (c := c) (xs := xs.take (i * 2) ++ xs.drop ((i + 1) * 2)) (by rw [q1]; omega) (by omega) h4 (by
      rw [q2]
      have := hfin.out (cur.toList.drop (i * 2 + (k - i) * 2))
      simpa using this)
    exact ⟨rfl, hr⟩
end Go.Proofs.Ytplgpbbghhlbjaa
