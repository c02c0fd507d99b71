import Derived.Lib.Overlaps
import Derived.Laws.Externs
import Derived.ProofKit
import Derived.OpenShut
import Derived.Test.YtneolmnpebiifaaGreatDoorM4
set_option linter.unusedVariables false
set_option linter.unusedSimpArgs false
set_option maxRecDepth 100000
section
namespace Go.Ofp
open Go.RowKit
theorem Whole.shape {w : World} {g t : Nat} {cs : Array Value} (h : Whole w g t cs) : w.shape? g = some (t, cs.size) := by
 unfold Whole at h
 simp [World.shape?, h]
theorem drop_take_of {α : Type} (cur L : List α) (n i : Nat) (h : cur.take n = L) : (cur.drop i).take (n - i) = L.drop i := by
 subst h
 rw [List.drop_take]
theorem insert_cells {α : Type} (cur L V : List α) (n i s : Nat) (h : cur.take n = L) (hi : i ≤ n) (hV : V.length = s) (hl : n + s ≤ cur.length) :
 (((cur.take (i + s) ++ (cur.drop i).take (n - i) ++ cur.drop (i + s + (n - i))).take i ++ V ++ (cur.take (i + s) ++ (cur.drop i).take (n - i) ++ cur.drop (i + s + (n - i))).drop (i + s)).take (n + s)) = L.take i ++ V ++ L.drop i := by
 rw [drop_take_of cur L n i h]
 have hLl : L.length = n := by subst h; rw [List.length_take]; omega
 have e1 : (cur.take (i + s) ++ L.drop i ++ cur.drop (i + s + (n - i))).take i = L.take i := by
  rw [List.append_assoc, List.take_append_of_le_length (by rw [List.length_take]; omega), List.take_take, Nat.min_eq_left (by omega)]
  subst h
  rw [List.take_take, Nat.min_eq_left hi]
 have e2 : (cur.take (i + s) ++ L.drop i ++ cur.drop (i + s + (n - i))).drop (i + s) = L.drop i ++ cur.drop (i + s + (n - i)) := by
  rw [List.append_assoc, List.drop_left' (by rw [List.length_take]; omega)]
 rw [e1, e2, ← List.append_assoc, List.take_left' (by simp only [List.length_append, List.length_take, List.length_drop, hV, hLl]; omega)]
theorem grow_cells {α : Type} (cur A Z V D : List α) (n i s : Nat) (h : cur.take (n + s) = A ++ Z) (hA : A.length = i) (hi : i ≤ n) (hV : V.length = s) (hD : D.length = n - i) (hl : n + s ≤ cur.length) :
 (((cur.take i ++ V ++ cur.drop (i + s)).take (i + s) ++ D ++ (cur.take i ++ V ++ cur.drop (i + s)).drop (i + s + (n - i))).take (n + s)) = A ++ V ++ D := by
 have e0 : cur.take i = A := by
  have := congrArg (List.take i) h
  rw [List.take_take, Nat.min_eq_left (by omega), List.take_append_of_le_length (by omega), List.take_of_length_le (l := A) (by omega)] at this
  exact this
 rw [e0]
 have e1 : (A ++ V ++ cur.drop (i + s)).take (i + s) = A ++ V := List.take_left' (by rw [List.length_append, hA, hV])
 rw [e1, List.take_left' (by simp only [List.length_append, hA, hV, hD]; omega)]
end Go.Ofp
namespace Go.Proofs.YtneolmnpebiifaaGreatDoor
open Go.RowKit Go.Ofp
set_option maxHeartbeats 4000000
theorem overlaps_no (w : World) (gv g j m lb cb : Nat) (cv cs : Array Value) (hv : Whole w gv 3 cv) (hg : Whole w g 3 cs) (hne : gv ≠ g) (hcs : cs.size ≠ 0) :
 (callFunc 179 #[.slice (some ⟨gv, 0, none⟩) m m, .slice (some ⟨g, j, none⟩) lb cb]).run Tryz.prog w = .ok (.value (.bool false)) w := by
 have hz : ∀ w : World, (sizeOf 3).run Tryz.prog w = .ok 1 w := fun w => by kernel_rfl
 rw [run_callFunc_extern Tryz.func179 (by kernel_rfl) (by kernel_rfl) (by kernel_rfl) (e := Extern.SlicesOverlaps.overlaps #[46, 46] #[4]) (by kernel_rfl),
  Lib.run_overlaps_apart w 46 4 3 Tryz.underlying46 1 hz ⟨gv, 0, none⟩ ⟨g, j, none⟩ m m lb cb hne _ _ _ _ hv.shape hg.shape hcs (hv.frozen 0) (hv.frozen cv.size)]
 rfl
theorem insert_room (g gv n c i : Nat) (l : List Int) (x : Int) (w : World) (h : St w (feet [Ch.row 3 1 (.slice (some ⟨g, 0, none⟩) n c) n (l.map vi), Ch.blk gv 3 #[.int .i64 x]]) [Ch.row 3 1 (.slice (some ⟨g, 0, none⟩) n c) n (l.map vi), Ch.blk gv 3 #[.int .i64 x]] w)
 (hn : l.length = n) (hi : i < n) (hc : n + 1 ≤ c) (hm : n ≤ 100000) :
 Calls Tryz.prog 156 #[.slice (some ⟨g, 0, none⟩) n c, .int .i64 i, .slice (some ⟨gv, 0, none⟩) 1 1] w fun e w' => ∃ a' c', e = .returned (.slice a' (n + 1) c') ∧ St w (feet [Ch.row 3 1 (.slice (some ⟨g, 0, none⟩) n c) n (l.map vi), Ch.blk gv 3 #[.int .i64 x]]) [Ch.row 3 1 (.slice a' (n + 1) c') (n + 1) ((l.take i ++ x :: l.drop i).map vi)] w' := by
 generalize feet [Ch.row 3 1 (.slice (some ⟨g, 0, none⟩) n c) n (l.map vi), Ch.blk gv 3 #[.int .i64 x]] = F at h ⊢
 obtain ⟨cur, h1, h2, h3, h4, hS⟩ := h.rowblk
 clear h
 have hne : gv ≠ g := fun e => by
  have := hS.apart 1 0 _ _ rfl rfl (by omega) gv (by simp [Ch.blk])
  simp [Ch.blk, e] at this
 have hov := fun lb cb => overlaps_no w gv g (i + 1) 1 lb cb _ _ (hS.get 1 rfl) (hS.get 0 rfl) hne (by omega)
 have h4' : c ≤ 9223372036854775807 := by unfold maxLen at h4; omega
 have hci : ¬ (c = i) := by omega
 have hci1 : ¬ (c = i + 1) := by omega
 rw [Nat.mul_one] at h1 h2
 have hcl : cur.toList.length = c := by simpa using h1
 have hfin := insert_cells cur.toList (l.map vi) [.int .i64 x] n i 1 h2 (by omega) rfl (by omega)
 have hone1 : ∀ u ∈ (cur.toList.drop i).take (n - i), u.oneCell' = true := by
  rw [drop_take_of _ _ n i h2, ← List.map_drop]; exact vi_one _
 have hlen1 : ((cur.toList.drop i).take (n - i)).length = (n - i) * 1 := by rw [List.length_take, List.length_drop]; omega
 have hfit1 : i + 1 + (n - i) * 1 ≤ cur.size := by omega
 have hfin2 : l.map vi = l.map vi := rfl
 have hk1 : Nat.min (n + 1 - i) (n - i) = n - i := Nat.min_eq_right (by omega)
 have hk2 : Nat.min 1 (n + 1 - i) = 1 := Nat.min_eq_left (by omega)
 replace hfin := Lib.hid hfin
 replace hone1 := Lib.hid hone1
 replace hlen1 := Lib.hid hlen1
 replace hfit1 := Lib.hid hfit1
 replace hk1 := Lib.hid hk1
 replace hk2 := Lib.hid hk2
 replace h1 := Lib.hid h1
 replace h2 := Lib.hid h2
 replace hcl := Lib.hid hcl
 clear hfin2
 have hb1 : (i : Int) ≤ (n : Int) + 1 := by omega
 have hb2 : (i : Int) ≤ (n : Int) := by omega
 go_enter Tryz.func156, Tryz.ntmps156
 go_wp2_with fail
 clear hov
 have s1 : (0 : Int) ≤ (i : Int) + 1 := by omega
 have s2 : ((i : Int) + 1).toNat = i + 1 := by omega
 have s3 : (i : Int) + 1 ≤ (n : Int) + 1 := by omega
 have s4 : n + 1 - (i + 1) = n - i := by omega
 have s5 : IntKind.i64.wrap ((i : Int) + 1) = (i : Int) + 1 := IntWalk.i64_in _ (by omega)
 refine mixs_beginE (by kernel_rfl) hS ?_
 clear hS
 intro w2 hS hC
 refine tk 0 ?_
 refine tk 1 ?_
 refine tk 2 ?_
 refine tk 3 ?_
 refine tk 4 ?_
 refine tk 5 ?_
 refine tk 6 ?_
 refine tk 7 ?_
 refine mixs_one 8 (by kernel_rfl) rfl (fun K hK => ?_)
 ( refine op_copyblk_st (by kernel_rfl) 0 hS rfl rfl Tryz.underlying46 elem_i rfl rfl (hS.blkpart 0 rfl i (n - i)) hk1.out hlen1.out hone1.out hfit1.out ?_; clear hS; intro w3 hS )
 try clear hC
 refine cl hK (fun hC => ?_)
 clear hK K
 refine wpAnyH_done (by kernel_rfl) ?_ _
 clear s1 s2 s3 s4 s5
 go_wp2_with ((with_reducible refine wpList_copyblk_st 0 (off := i) (nd := n + 1 - i) hS rfl rfl rfl Tryz.underlying46 elem_i rfl rfl (hS.blksl2 1 rfl) hk2.out (by simp) (vi_one [x]) (by have := h1.out; simp; omega) ?_); clear hS; intro w3 hS)
 go_ret
 simp only [List.set_cons_zero, Nat.mul_one] at hS
 have hr := hS.blkrow2 1 (n := n + 1) (c := c) (xs := (l.take i ++ x :: l.drop i).map vi) (by have := h1.out; simp; omega) hc h4 (by
  rw [Nat.mul_one]
  have := hfin.out
  simpa [vi] using this)
 rw [List.map_append, List.map_cons, List.map_take, List.map_drop] at hr
 exact ⟨_, _, rfl, hr.drop1⟩
def insA (a : Option Addr) (n c gv : Nat) (l : List Int) (x : Int) : List Ch := [Ch.row 3 1 (.slice a n c) n (l.map vi), Ch.blk gv 3 #[.int .i64 x]]
def InsRet (F : List Nat) (n i : Nat) (l : List Int) (x : Int) (w : World) (e : Ending) (w' : World) : Prop := ∃ a' c', e = .returned (.slice a' (n + 1) c') ∧ St w F [Ch.row 3 1 (.slice a' (n + 1) c') (n + 1) ((l.take i ++ x :: l.drop i).map vi)] w'
theorem insert_end (a : Option Addr) (gv n c : Nat) (l : List Int) (x : Int) (w : World) (h : St w (feet (insA a n c gv l x)) (insA a n c gv l x) w) (hn : l.length = n) (hm : n ≤ 100000) :
 Calls Tryz.prog 156 #[.slice a n c, .int .i64 n, .slice (some ⟨gv, 0, none⟩) 1 1] w (InsRet (feet (insA a n c gv l x)) n n l x w) := by
 generalize feet (insA a n c gv l x) = F at h ⊢
 have hS : St w F [Ch.row 3 1 (.slice a n c) n (l.map vi), Ch.blk gv 3 #[.int .i64 x]] w := h
 clear h
 have hfin := Lib.hid (show l.map vi ++ [x].map vi = (l.take n ++ x :: l.drop n).map vi by rw [List.take_of_length_le (by omega), List.drop_of_length_le (by omega), List.map_append])
 have hsh := (hS.get 0 rfl).2
 rcases hsh with ⟨e, e0⟩ | ⟨g, cap, cur, e, -, -, h3, h4, -⟩
 · cases e
   replace hn := Lib.hid hn
   clear e0
   go_enter Tryz.func156, Tryz.ntmps156
   go_wp2_with (at_builtin; (with_reducible refine wpList_app_st 0 hS rfl rfl rfl Tryz.underlying46 elem_i rfl (Src.slice Tryz.underlying46 (hS.blksl2 1 rfl) rfl) rfl (vi_one [x]) (by omega) (by unfold maxLen; omega) ?_); intro v5 w3 hS1; clear hS; simp only [List.set_cons_zero] at hS1; have hS := hS1; clear hS1; obtain ⟨a5, c5, rfl, -⟩ := hS.row 0 rfl)
   go_ret
   rw [hfin.out] at hS
   exact ⟨_, _, rfl, hS.drop1⟩
 · cases e
   have h4' : c ≤ 9223372036854775807 := by unfold maxLen at h4; omega
   replace hn := Lib.hid hn
   by_cases hcn : c = n
   · subst hcn
     go_enter Tryz.func156, Tryz.ntmps156
     go_wp2_with (at_builtin; (with_reducible refine wpList_app_st 0 hS rfl rfl rfl Tryz.underlying46 elem_i rfl (Src.slice Tryz.underlying46 (hS.blksl2 1 rfl) rfl) rfl (vi_one [x]) (by omega) (by unfold maxLen; omega) ?_); intro v5 w3 hS1; clear hS; simp only [List.set_cons_zero] at hS1; have hS := hS1; clear hS1; obtain ⟨a5, c5, rfl, -⟩ := hS.row 0 rfl)
     go_ret
     rw [hfin.out] at hS
     exact ⟨_, _, rfl, hS.drop1⟩
   · go_enter Tryz.func156, Tryz.ntmps156
     go_wp2_with (at_builtin; (with_reducible refine wpList_app_st 0 hS rfl rfl rfl Tryz.underlying46 elem_i rfl (Src.slice Tryz.underlying46 (hS.blksl2 1 rfl) rfl) rfl (vi_one [x]) (by omega) (by unfold maxLen; omega) ?_); intro v5 w3 hS1; clear hS; simp only [List.set_cons_zero] at hS1; have hS := hS1; clear hS1; obtain ⟨a5, c5, rfl, -⟩ := hS.row 0 rfl)
     go_ret
     rw [hfin.out] at hS
     exact ⟨_, _, rfl, hS.drop1⟩
theorem insert_grow (g gv n i : Nat) (l : List Int) (x : Int) (w : World) (h : St w (feet (insA (some ⟨g, 0, none⟩) n n gv l x)) (insA (some ⟨g, 0, none⟩) n n gv l x) w) (hn : l.length = n) (hi : i < n) (hm : n ≤ 100000) :
 Calls Tryz.prog 156 #[.slice (some ⟨g, 0, none⟩) n n, .int .i64 i, .slice (some ⟨gv, 0, none⟩) 1 1] w (InsRet (feet (insA (some ⟨g, 0, none⟩) n n gv l x)) n i l x w) := by
 generalize feet (insA (some ⟨g, 0, none⟩) n n gv l x) = F at h ⊢
 have hS : St w F [Ch.row 3 1 (.slice (some ⟨g, 0, none⟩) n n) n (l.map vi), Ch.blk gv 3 #[.int .i64 x]] w := h
 clear h
 have hni : ¬ (n = i) := by omega
 have hs1 : Sl w (some ⟨g, 0, none⟩) ((l.take i).map vi) := by rw [List.map_take]; exact (hS.rowsl 0 rfl).take i
 have hl1 : ((l.take i).map vi).length = i * 1 := by simp; omega
 have hsum : i + (n + 1 - i) = n + 1 := by omega
 have hM : (n : Int) + 1 - (i : Int) = ((n + 1 - i : Nat) : Int) := by omega
 have hs3 : Sl w (some ⟨g, i, none⟩) ((l.drop i).map vi) := by
  have := (hS.rowsl 0 rfl).drop i
  rwa [Nat.zero_add, ← List.map_drop] at this
 have hl3 : ((l.drop i).map vi).length = (n - i) * 1 := by simp; omega
 have hD : ((l.drop i).map vi).length = n - i := by simp; omega
 have hA : ((l.take i).map vi).length = i := by simp; omega
 have hk2 : Nat.min 1 (n + 1 - i) = 1 := Nat.min_eq_left (by omega)
 have hk3 : Nat.min (n - i) (n - i) = n - i := Nat.min_self _
 replace hs1 := Lib.hid hs1
 replace hl1 := Lib.hid hl1
 replace hM := Lib.hid hM
 replace hn := Lib.hid hn
 replace hsum := Lib.hid hsum
 replace hk2 := Lib.hid hk2
 replace hk3 := Lib.hid hk3
 replace hD := Lib.hid hD
 replace hA := Lib.hid hA
 replace hl3 := Lib.hid hl3
 clear hs3
 go_enter Tryz.func156, Tryz.ntmps156
 go_wp2_with (first | (at_builtin; go_loud ((with_reducible refine wpList_appzeros_st (m := n + 1 - i) hS rfl rfl Tryz.underlying46 Tryz.underlying3 elem_i rfl rfl hM.out hs1.out hl1.out (by omega) (by omega) (by omega) (by unfold maxLen; omega) (by omega) ?_); intro g5 c5 w3 hS1; clear hS; simp only [hsum.out] at hS1 ⊢; obtain ⟨cur, k1, k2, k3, k4, hS⟩ := hS1.rowblk; clear hS1; have q1 : ¬ (c5 = i) := (by omega); have q2 : ¬ (c5 = i + 1) := (by omega); have q3 : c5 ≤ 9223372036854775807 := (by unfold maxLen at k4; omega); replace k1 := Lib.hid k1; replace k2 := Lib.hid k2)) | ((with_reducible refine wpList_copyblk_st 0 (off := i) (nd := n + 1 - i) hS rfl rfl rfl Tryz.underlying46 elem_i rfl rfl (hS.blksl2 2 rfl) hk2.out (by simp) (vi_one [x]) (by have := k1.out; omega) ?_); clear hS; intro w3 hS))
 have s1 : (0 : Int) ≤ (i : Int) + 1 := by omega
 have s2 : ((i : Int) + 1).toNat = i + 1 := by omega
 have s3 : (i : Int) + 1 ≤ (n : Int) + 1 := by omega
 have s4 : n + 1 - (i + 1) = n - i := by omega
 have s5 : IntKind.i64.wrap ((i : Int) + 1) = (i : Int) + 1 := IntWalk.i64_in _ (by omega)
 have s6 : (i : Int) ≤ (n : Int) := by omega
 simp only [List.set_cons_zero, Nat.mul_one] at hS
 refine mixs_beginE (by kernel_rfl) hS ?_
 clear hS
 intro w2 hS hC
 have hs3 : Sl w2 (some ⟨g, i, none⟩) ((l.drop i).map vi) := by
  have := (hS.rowsl 1 rfl).drop i
  rwa [Nat.zero_add, ← List.map_drop] at this
 replace hs3 := Lib.hid hs3
 refine tk 0 ?_
 refine tk 1 ?_
 refine tk 2 ?_
 refine tk 3 ?_
 refine tk 4 ?_
 refine tk 5 ?_
 refine tk 6 ?_
 refine tk 7 ?_
 refine mixs_one 8 (by kernel_rfl) rfl (fun K hK => ?_)
 ( refine op_copyblk_st (by kernel_rfl) 0 hS rfl rfl Tryz.underlying46 elem_i rfl rfl hs3.out hk3.out hl3.out (vi_one _) (by have := k1.out; simp; omega) ?_; intro w3 hS1; clear hS hs3; have hS := hS1; clear hS1 )
 try clear hC
 refine cl hK (fun hC => ?_)
 clear hK K
 refine wpAnyH_done (by kernel_rfl) ?_ _
 clear s1 s2 s3 s4 s5 s6
 go_wp2_with fail
 go_ret
 have hcl : cur.toList.length = c5 := by simpa using k1.out
 have k2' := k2.out
 rw [Nat.mul_one] at k2'
 have hfin := grow_cells cur.toList _ _ ([x].map vi) ((l.drop i).map vi) n i 1 k2' hA.out (by omega) rfl hD.out (by omega)
 simp only [List.set_cons_zero, Nat.mul_one] at hS
 have hr := hS.blkrow2 1 (n := n + 1) (c := c5) (xs := (l.take i ++ x :: l.drop i).map vi) (by have := k1.out; have := hn.out; simp only [List.size_toArray, List.length_append, List.length_take, List.length_drop, Array.length_toList, List.length_map, List.length_cons, List.length_nil]; omega) k3 k4 (by
  rw [Nat.mul_one, hfin]
  simp)
 exact ⟨_, _, rfl, hr.drop1.drop1⟩
theorem insert_any (a : Option Addr) (gv n c i : Nat) (l : List Int) (x : Int) (w : World) (h : St w (feet (insA a n c gv l x)) (insA a n c gv l x) w) (hn : l.length = n) (hi : i ≤ n) (hm : n ≤ 100000) :
 Calls Tryz.prog 156 #[.slice a n c, .int .i64 i, .slice (some ⟨gv, 0, none⟩) 1 1] w (InsRet (feet (insA a n c gv l x)) n i l x w) := by
 by_cases hin : i = n
 · subst hin
   exact insert_end a gv i c l x w h hn hm
 · obtain ⟨g, c', e, hc, -⟩ := h.rowat 0 rfl (by omega)
   cases e
   by_cases hcn : n + 1 ≤ c
   · exact insert_room g gv n c i l x w h hn (by omega) hcn hm
   · obtain rfl : c = n := by omega
     exact insert_grow g gv c i l x w h hn (by omega) hm
theorem delete_cells {α : Type} (cur L : List α) (k i s : Nat) (h : cur.take (k + s) = L) (hi : i ≤ k) (R : List α) (hl : k + s ≤ cur.length) :
 (cur.take i ++ (cur.drop (i + s)).take (k - i) ++ R).take k = L.take i ++ L.drop (i + s) := by
 have e1 : (cur.drop (i + s)).take (k - i) = L.drop (i + s) := by
  have := drop_take_of cur L (k + s) (i + s) h
  rw [show k + s - (i + s) = k - i by omega] at this
  exact this
 have hLl : L.length = k + s := by subst h; rw [List.length_take]; omega
 have e2 : cur.take i = L.take i := by subst h; rw [List.take_take, Nat.min_eq_left (by omega)]
 rw [e1, e2, List.take_left' (by rw [List.length_append, List.length_take, List.length_drop, hLl]; omega)]
theorem delete_any (g k c i : Nat) (l : List Int) (w : World) (h : St w (feet [Ch.row 3 1 (.slice (some ⟨g, 0, none⟩) (k + 1) c) (k + 1) (l.map vi)]) [Ch.row 3 1 (.slice (some ⟨g, 0, none⟩) (k + 1) c) (k + 1) (l.map vi)] w) (hn : l.length = k + 1) (hi : i ≤ k) (hm : k ≤ 100000) :
 Calls Tryz.prog 150 #[.slice (some ⟨g, 0, none⟩) (k + 1) c, .int .i64 i, .int .i64 ((i : Int) + 1)] w fun e w' => e = .returned (.slice (some ⟨g, 0, none⟩) k c) ∧ St w (feet [Ch.row 3 1 (.slice (some ⟨g, 0, none⟩) (k + 1) c) (k + 1) (l.map vi)]) [Ch.row 3 1 (.slice (some ⟨g, 0, none⟩) k c) k ((l.take i ++ l.drop (i + 1)).map vi)] w' := by
 generalize feet [Ch.row 3 1 (.slice (some ⟨g, 0, none⟩) (k + 1) c) (k + 1) (l.map vi)] = F at h ⊢
 obtain ⟨cur, h1, h2, h3, h4, hS⟩ := h.rowblk
 clear h
 rw [Nat.mul_one] at h1 h2
 have h4' : c ≤ 9223372036854775807 := by unfold maxLen at h4; omega
 have hcl : cur.toList.length = c := by simpa using h1
 have hfin := fun (R : List Value) => delete_cells cur.toList (l.map vi) k i 1 h2 hi R (by omega)
 have hone1 : ∀ u ∈ (cur.toList.drop (i + 1)).take (k - i), u.oneCell' = true := by
  have := drop_take_of cur.toList (l.map vi) (k + 1) (i + 1) h2
  rw [show k + 1 - (i + 1) = k - i by omega] at this
  rw [this, ← List.map_drop]; exact vi_one _
 have hlen1 : ((cur.toList.drop (i + 1)).take (k - i)).length = (k - i) * 1 := by rw [List.length_take, List.length_drop]; omega
 have hroom : i + (k - i) ≤ c := by omega
 have hcs : cur.size = c * 1 := by omega
 have hck : ¬ (c = k) := by omega
 have hci : ¬ (c = i) := by omega
 have hsum : i + (k - i) = k := by omega
 have hz1 : ∀ u ∈ (Value.int .i64 0).cells, u.oneCell' = true := by
  intro u hu
  have : u = Value.int .i64 0 := by simpa [Value.cells] using hu
  subst this
  rfl
 replace hz1 := Lib.hid hz1
 replace hsum := Lib.hid hsum
 replace hfin := Lib.hid hfin
 replace hone1 := Lib.hid hone1
 replace hlen1 := Lib.hid hlen1
 replace hcs := Lib.hid hcs
 replace h1 := Lib.hid h1
 replace h2 := Lib.hid h2
 replace hcl := Lib.hid hcl
 replace hn := Lib.hid hn
 by_cases hci1 : c = i + 1
 · obtain rfl : k = i := by omega
   subst hci1
   clear hroom hone1 hlen1 hsum
   go_enter Tryz.func150, Tryz.ntmps150
   go_wp2_with fail
   have s1 : (0 : Int) ≤ (k : Int) + 1 := by omega
   have s2 : ((k : Int) + 1).toNat = k + 1 := by omega
   have s6 : (k : Int) ≤ (k : Int) + 1 := by omega
   refine mixs_beginE (by kernel_rfl) hS ?_
   clear hS
   intro w2 hS hC
   refine tk 0 ?_
   refine tk 1 ?_
   refine tk 2 ?_
   refine tk 3 ?_
   refine tk 4 ?_
   refine tk 5 ?_
   refine mixs_one 6 (by kernel_rfl) rfl (fun K hK => ?_)
   ( refine op_appblk_st (by kernel_rfl) 0 hS rfl rfl Tryz.underlying46 Tryz.underlying46 elem_i rfl rfl (Sl.nil _ _) (by simp) nil_one (by omega) hcs.out ?_; clear hS; intro w3 hS )
   try clear hC
   refine cl hK (fun hC => ?_)
   clear hK K
   refine tk 7 ?_
   refine wpAnyH_done (by kernel_rfl) ?_ _
   clear s1 s2 s6
   go_wp2_with ((with_reducible refine wpList_clearblk_st 0 (off := k) (n := 1) hS rfl rfl rfl Tryz.underlying46 elem_i hz1.out rfl (by have := h1.out; have := hcl.out; simp only [List.size_toArray, List.length_append, List.length_take, List.length_drop, Array.length_toList, List.length_nil]; omega) (by omega) ?_); intro w3 cs2 q1 q2 hS1; clear hS; have hS := hS1; clear hS1)
   go_ret
   simp only [List.set_cons_zero] at hS
   have hcl2 := hcl.out
   have h12 := h1.out
   simp only [List.size_toArray, List.length_append, List.length_take, List.length_drop, Array.length_toList, List.length_nil] at q1
   have hr := hS.blkrow2 1 (n := k) (c := (k + 1)) (xs := (l.take k ++ l.drop (k + 1)).map vi) (by rw [q1]; omega) (by omega) h4 (by
    rw [Nat.mul_one, q2]
    simp only [Nat.mul_one]
    have := hfin.out (cur.toList.drop (k + 0))
    simpa [hcl2] using this)
   rw [List.map_append, List.map_take, List.map_drop] at hr
   exact ⟨rfl, hr⟩
 · go_enter Tryz.func150, Tryz.ntmps150
   go_wp2_with fail
   have s1 : (0 : Int) ≤ (i : Int) + 1 := by omega
   have s2 : ((i : Int) + 1).toNat = i + 1 := by omega
   have s3 : (i : Int) + 1 ≤ (k : Int) + 1 := by omega
   have s6 : (i : Int) ≤ (k : Int) + 1 := by omega
   have s7 : i ≤ c := by omega
   refine mixs_beginE (by kernel_rfl) hS ?_
   clear hS
   intro w2 hS hC
   refine tk 0 ?_
   refine tk 1 ?_
   refine tk 2 ?_
   refine tk 3 ?_
   refine tk 4 ?_
   refine tk 5 ?_
   refine mixs_one 6 (by kernel_rfl) rfl (fun K hK => ?_)
   ( refine op_appblk_st (by kernel_rfl) 0 hS rfl rfl Tryz.underlying46 Tryz.underlying46 elem_i rfl rfl (hS.blkpart 0 rfl (i + 1) (k - i)) hlen1.out hone1.out hroom hcs.out ?_; clear hS; intro w3 hS )
   try clear hC
   refine cl hK (fun hC => ?_)
   clear hK K
   refine tk 7 ?_
   refine wpAnyH_done (by kernel_rfl) ?_ _
   clear s1 s2 s3 s6 s7
   simp only [hsum.out]
   go_wp2_with ((with_reducible refine wpList_clearblk_st 0 (off := k) (n := 1) hS rfl rfl rfl Tryz.underlying46 elem_i hz1.out rfl (by have := h1.out; have := hcl.out; simp only [List.size_toArray, List.length_append, List.length_take, List.length_drop, Array.length_toList, List.length_nil]; omega) (by omega) ?_); intro w3 cs2 q1 q2 hS1; clear hS; have hS := hS1; clear hS1)
   go_ret
   simp only [List.set_cons_zero] at hS
   have hcl2 := hcl.out
   have h12 := h1.out
   simp only [List.size_toArray, List.length_append, List.length_take, List.length_drop, Array.length_toList, List.length_nil] at q1
   have hr := hS.blkrow2 1 (n := k) (c := c) (xs := (l.take i ++ l.drop (i + 1)).map vi) (by rw [q1]; omega) (by omega) h4 (by
    rw [Nat.mul_one, q2]
    simp only [Nat.mul_one]
    have := hfin.out (cur.toList.drop (i + (k - i)))
    simpa using this)
   rw [List.map_append, List.map_take, List.map_drop] at hr
   exact ⟨rfl, hr⟩
end Go.Proofs.YtneolmnpebiifaaGreatDoor
end
section
namespace Go.Ofp.Ids
def lastD (l : List Int) : Int := l.getLastD 0
theorem chkFrom_snoc (l : List Int) (x : Int) : ∀ last : Int, chkFrom last (l ++ [x]) = (chkFrom last l && (decide (l.getLastD last < x) && decide (x < 1073741824))) := by
 induction l with
 | nil => intro last; simp [chkFrom]
 | cons y l ih =>
  intro last
  simp only [List.cons_append, chkFrom, ih, List.getLastD_cons, Bool.and_assoc]
theorem chk_snoc (l : List Int) (x : Int) : chk (l ++ [x]) = (chk l && (decide (lastD l < x) && decide (x < 1073741824))) := chkFrom_snoc l x 0
theorem chk_take (l : List Int) (k : Nat) (h : chk l = true) : chk (l.take k) = true := by
 rw [chk_iff] at h ⊢
 exact ⟨h.1.sublist (List.take_sublist _ _), fun x hx => h.2 x (List.mem_of_mem_take hx)⟩
theorem lastD_take (l : List Int) (i : Nat) (h : i < l.length) : lastD (l.take (i + 1)) = l[i] := by
 unfold lastD
 rw [List.take_succ_eq_append_getElem h, List.getLastD_eq_getLast?, List.getLast?_concat]
 rfl
theorem lastD_nn (l : List Int) (h : chk l = true) : 0 ≤ lastD l := by
 rw [chk_iff] at h
 unfold lastD
 by_cases hl : l = []
 · subst hl; simp
 · rw [List.getLastD_eq_getLast?, List.getLast?_eq_some_getLast hl]
   have := h.2 _ (List.getLast_mem hl)
   simp; omega
end Go.Ofp.Ids
namespace Go.Proofs.YtneolmnpebiifaaGreatDoor
open Go.RowKit Go.Ofp
set_option maxHeartbeats 4000000
theorem rcheck_any (a : Option Addr) (l : List Int) (n cap : Nat) (w : World) (hs : Sl w a (l.map vi)) (hn : l.length = n) (hm : n ≤ maxLen) :
 Calls Tryz.prog 102 #[.slice a n cap] w fun e w' => e = .returned (.bool (Ids.chk l)) ∧ Below w.heap.size w w' := by
 unfold maxLen at hm
 have hS := St.start w
 replace hn := Lib.hid hn
 replace hs := Lib.hid hs
 go_enter Tryz.func102, Tryz.ntmps102
 go_wp2_with fail
 go_loopg [3] n (fun gk vx wr => ∃ j : Nat, j + gk = n ∧ vx = .int .i64 j ∧ Hid (Ids.chk (l.take j) = true) ∧ St w [] [] wr)
 case atStart => exact ⟨0, Nat.zero_add _, rfl, Lib.hid rfl, hS⟩
 case round =>
  clear hS
  obtain ⟨j, hj, rfl, hr, hS⟩ := hrel
  by_cases hlt : j < n
  · obtain ⟨b1, o1, rfl, c1⟩ := sl_int hs.out j (by rw [hn.out]; exact hlt)
    have t1 := take_snoc_i l j (by rw [hn.out]; exact hlt)
    have hsn := Ids.chk_snoc (l.take j) (l[j]'(by rw [hn.out]; exact hlt))
    rw [← t1, hr.out, Bool.true_and] at hsn
    have hno : Ids.chk (l.take (j + 1)) = false → Ids.chk l = false := fun e => by
     cases h : Ids.chk l with
     | false => rfl
     | true => rw [Ids.chk_take l (j + 1) h] at e; cases e
    have hl0 := Ids.lastD_nn _ hr.out
    clear t1
    have k1 := hS.kold0 c1
    rcases Nat.eq_zero_or_pos j with rfl | hpos
    ·
     have hz : Ids.lastD (l.take 0) = 0 := rfl
     rw [hz] at hsn
     clear hl0 hz
     simp only [Nat.add_zero] at k1
     generalize l[0]'(by rw [hn.out]; exact hlt) = x at c1 k1 hsn
     by_cases h1 : x < 1
     · have e1 := Lib.hid (show Ids.chk l = false from hno (by rw [hsn, decide_eq_false (by omega)]; rfl))
       clear hno hsn c1
       go_wp2_with fail
       refine mixs_begin (by kernel_rfl) hS ?_
       clear hS
       intro w2 hS
       refine tk 0 ?_
       refine tk 1 ?_
       refine tk 2 ?_
       refine tk 3 ?_
       refine tk 4 ?_
       refine tk 5 ?_
       refine sk 6 ?_
       refine sk 7 ?_
       refine sk 8 ?_
       refine sk 9 ?_
       refine sk 10 ?_
       refine tk 11 ?_
       refine tk 12 ?_
       refine sk 13 ?_
       refine sk 14 ?_
       refine sk 15 ?_
       refine sk 16 ?_
       refine sk 17 ?_
       refine sk 18 ?_
       refine sk 19 ?_
       refine sk 20 ?_
       refine sk 21 ?_
       refine sk 22 ?_
       refine sk 23 ?_
       refine sk 24 ?_
       refine sk 25 ?_
       refine sk 26 ?_
       refine tk 27 ?_
       refine wpAnyH_done (by kernel_rfl) ?_ _
       clear k1
       go_wp2_with fail
       go_ret
       exact ⟨by rw [e1.out]; rfl, hS.below⟩
     · have h1' : 1 ≤ x := by omega
       have d1 : decide (x < 1) = false := decide_eq_false h1
       by_cases h2 : 1073741824 ≤ x
       · have e1 := Lib.hid (show Ids.chk l = false from hno (by rw [hsn, decide_eq_false (p := x < 1073741824) (by omega), Bool.and_false]))
         clear hno hsn c1 h1
         go_wp2_with fail
         refine mixs_begin (by kernel_rfl) hS ?_
         clear hS
         intro w2 hS
         refine tk 0 ?_
         refine tk 1 ?_
         refine tk 2 ?_
         refine tk 3 ?_
         refine tk 4 ?_
         refine tk 5 ?_
         refine tk 6 ?_
         refine tk 7 ?_
         refine tk 8 ?_
         refine tk 9 ?_
         refine tk 10 ?_
         refine tk 11 ?_
         refine tk 12 ?_
         refine sk 13 ?_
         refine sk 14 ?_
         refine sk 15 ?_
         refine sk 16 ?_
         refine sk 17 ?_
         refine sk 18 ?_
         refine sk 19 ?_
         refine sk 20 ?_
         refine sk 21 ?_
         refine sk 22 ?_
         refine sk 23 ?_
         refine sk 24 ?_
         refine sk 25 ?_
         refine sk 26 ?_
         refine tk 27 ?_
         refine wpAnyH_done (by kernel_rfl) ?_ _
         clear k1
         go_wp2_with fail
         go_ret
         exact ⟨by rw [e1.out]; rfl, hS.below⟩
       · have h2' : x < 1073741824 := by omega
         have d2 : decide (1073741824 ≤ x) = false := decide_eq_false h2
         have e1 := Lib.hid (show Ids.chk (l.take (0 + 1)) = true by rw [hsn, decide_eq_true (by omega), decide_eq_true (by omega)]; rfl)
         clear hno hsn c1 h1 h2
         go_wp2_with fail
         refine mixs_begin (by kernel_rfl) hS ?_
         clear hS
         intro w2 hS
         refine tk 0 ?_
         refine tk 1 ?_
         refine tk 2 ?_
         refine tk 3 ?_
         refine tk 4 ?_
         refine tk 5 ?_
         refine tk 6 ?_
         refine tk 7 ?_
         refine tk 8 ?_
         refine tk 9 ?_
         refine tk 10 ?_
         refine tk 11 ?_
         refine tk 12 ?_
         refine tk 13 ?_
         refine tk 14 ?_
         refine tk 15 ?_
         refine sk 16 ?_
         refine sk 17 ?_
         refine sk 18 ?_
         refine sk 19 ?_
         refine sk 20 ?_
         refine sk 21 ?_
         refine sk 22 ?_
         refine sk 23 ?_
         refine sk 24 ?_
         refine sk 25 ?_
         refine tk 26 ?_
         refine tk 27 ?_
         refine wpAnyH_done (by kernel_rfl) ?_ _
         clear k1
         go_wp2_with fail
         go_roundg (n - (0 + 1))
         case measure => omega
         case rel => exact ⟨0 + 1, by omega, by go_num, e1, hS⟩
    ·
     obtain ⟨i, hi⟩ : ∃ i, j = i + 1 := ⟨j - 1, by omega⟩
     have hin : i < n := by omega
     have hpi : (0 : Int) < (j : Int) := by omega
     obtain ⟨b2, o2, e2, c2⟩ := sl_int hs.out i (by rw [hn.out]; omega)
     cases e2
     rw [show l.take j = l.take (i + 1) by rw [hi], Ids.lastD_take l i (by rw [hn.out]; omega)] at hsn hl0
     have k2 := hS.kold0 c2
     generalize l[j]'(by rw [hn.out]; exact hlt) = x at c1 k1 hsn
     generalize l[i]'(by rw [hn.out]; omega) = y at c2 k2 hsn hl0
     by_cases h1 : x < 1
     · have e1 := Lib.hid (show Ids.chk l = false from hno (by rw [hsn, decide_eq_false (by omega)]; rfl))
       replace hi := Lib.hid hi
       clear hno hsn c1 c2 k2
       go_wp2_with fail
       refine mixs_begin (by kernel_rfl) hS ?_
       clear hS
       intro w2 hS
       refine tk 0 ?_
       refine tk 1 ?_
       refine tk 2 ?_
       refine tk 3 ?_
       refine tk 4 ?_
       refine tk 5 ?_
       refine sk 6 ?_
       refine sk 7 ?_
       refine sk 8 ?_
       refine sk 9 ?_
       refine sk 10 ?_
       refine tk 11 ?_
       refine tk 12 ?_
       refine sk 13 ?_
       refine sk 14 ?_
       refine sk 15 ?_
       refine sk 16 ?_
       refine sk 17 ?_
       refine sk 18 ?_
       refine sk 19 ?_
       refine sk 20 ?_
       refine sk 21 ?_
       refine sk 22 ?_
       refine sk 23 ?_
       refine sk 24 ?_
       refine sk 25 ?_
       refine sk 26 ?_
       refine tk 27 ?_
       refine wpAnyH_done (by kernel_rfl) ?_ _
       clear k1
       go_wp2_with fail
       go_ret
       exact ⟨by rw [e1.out]; rfl, hS.below⟩
     · have h1' : 1 ≤ x := by omega
       have d1 : decide (x < 1) = false := decide_eq_false h1
       by_cases h2 : 1073741824 ≤ x
       · have e1 := Lib.hid (show Ids.chk l = false from hno (by rw [hsn, decide_eq_false (p := x < 1073741824) (by omega), Bool.and_false]))
         replace hi := Lib.hid hi
         clear hno hsn c1 h1 c2 k2
         go_wp2_with fail
         refine mixs_begin (by kernel_rfl) hS ?_
         clear hS
         intro w2 hS
         refine tk 0 ?_
         refine tk 1 ?_
         refine tk 2 ?_
         refine tk 3 ?_
         refine tk 4 ?_
         refine tk 5 ?_
         refine tk 6 ?_
         refine tk 7 ?_
         refine tk 8 ?_
         refine tk 9 ?_
         refine tk 10 ?_
         refine tk 11 ?_
         refine tk 12 ?_
         refine sk 13 ?_
         refine sk 14 ?_
         refine sk 15 ?_
         refine sk 16 ?_
         refine sk 17 ?_
         refine sk 18 ?_
         refine sk 19 ?_
         refine sk 20 ?_
         refine sk 21 ?_
         refine sk 22 ?_
         refine sk 23 ?_
         refine sk 24 ?_
         refine sk 25 ?_
         refine sk 26 ?_
         refine tk 27 ?_
         refine wpAnyH_done (by kernel_rfl) ?_ _
         clear k1
         go_wp2_with fail
         go_ret
         exact ⟨by rw [e1.out]; rfl, hS.below⟩
       · have h2' : x < 1073741824 := by omega
         have d2 : decide (1073741824 ≤ x) = false := decide_eq_false h2
         have hsub :  IntKind.i64.wrap ((j : Int) - 1) = (i : Int) := by rw [IntWalk.i64_in _ (by omega)]; omega
         by_cases h3 : x ≤ y
         · have e1 := Lib.hid (show Ids.chk l = false from hno (by rw [hsn, decide_eq_false (p := y < x) (by omega)]; rfl))
           replace hi := Lib.hid hi
           clear hno hsn c1 h1 h2 c2
           go_wp2_with fail
           refine mixs_begin (by kernel_rfl) hS ?_
           clear hS
           intro w2 hS
           refine tk 0 ?_
           refine tk 1 ?_
           refine tk 2 ?_
           refine tk 3 ?_
           refine tk 4 ?_
           refine tk 5 ?_
           refine tk 6 ?_
           refine tk 7 ?_
           refine tk 8 ?_
           refine tk 9 ?_
           refine tk 10 ?_
           refine tk 11 ?_
           refine tk 12 ?_
           refine tk 13 ?_
           refine tk 14 ?_
           refine tk 15 ?_
           refine tk 16 ?_
           refine tk 17 ?_
           refine tk 18 ?_
           refine tk 19 ?_
           refine tk 20 ?_
           refine tk 21 ?_
           refine tk 22 ?_
           refine tk 23 ?_
           refine tk 24 ?_
           refine tk 25 ?_
           refine tk 26 ?_
           refine tk 27 ?_
           refine wpAnyH_done (by kernel_rfl) ?_ _
           clear k1 k2 hsub
           go_wp2_with fail
           go_ret
           exact ⟨by rw [e1.out]; rfl, hS.below⟩
         · have h3' : y < x := by omega
           have d3 : decide (x ≤ y) = false := decide_eq_false h3
           have e1 := Lib.hid (show Ids.chk (l.take (j + 1)) = true by rw [hsn, decide_eq_true (by omega), decide_eq_true (by omega)]; rfl)
           replace hi := Lib.hid hi
           clear hno hsn c1 h1 h2 c2 h3
           go_wp2_with fail
           refine mixs_begin (by kernel_rfl) hS ?_
           clear hS
           intro w2 hS
           refine tk 0 ?_
           refine tk 1 ?_
           refine tk 2 ?_
           refine tk 3 ?_
           refine tk 4 ?_
           refine tk 5 ?_
           refine tk 6 ?_
           refine tk 7 ?_
           refine tk 8 ?_
           refine tk 9 ?_
           refine tk 10 ?_
           refine tk 11 ?_
           refine tk 12 ?_
           refine tk 13 ?_
           refine tk 14 ?_
           refine tk 15 ?_
           refine tk 16 ?_
           refine tk 17 ?_
           refine tk 18 ?_
           refine tk 19 ?_
           refine tk 20 ?_
           refine tk 21 ?_
           refine tk 22 ?_
           refine tk 23 ?_
           refine tk 24 ?_
           refine tk 25 ?_
           refine tk 26 ?_
           refine tk 27 ?_
           refine wpAnyH_done (by kernel_rfl) ?_ _
           clear k1 k2 hsub
           go_wp2_with fail
           go_roundg (n - (j + 1))
           case measure => omega
           case rel => exact ⟨j + 1, by omega, by go_num, e1, hS⟩
  · obtain rfl : j = n := by omega
    go_wp2_with fail
    go_ret
    have e1 := hr.out
    rw [List.take_of_length_le (by rw [hn.out]; exact Nat.le_refl _)] at e1
    exact ⟨by rw [e1]; rfl, hS.below⟩
end Go.Proofs.YtneolmnpebiifaaGreatDoor
end
section
namespace Go.Ofp
open Go.RowKit
theorem St.rownil {e size n c m : Nat} {a : Option Addr} {xs : List Value} {w w0 : World} {F : List Nat} {L : List Ch} (hS : St w0 F L w) (i : Nat) (hi : L[i]? = some (Ch.row e size (.slice a n c) m xs)) : a = none → c = 0 := by
 intro ha
 subst ha
 rcases (hS.get i hi).2 with ⟨h, _⟩ | ⟨g, cap, cur, h, _⟩
 · cases h; rfl
 · cases h
end Go.Ofp
namespace Go.Ofp.Ids
theorem drop_split (l : List Int) (id : Int) (h : Up l) (hh : has l id = true) : l.take (place l id) ++ l.drop (place l id + 1) = drop l id := by
 obtain ⟨h1, h2⟩ := up_take_drop l id h
 have hp := has_place l id h
 rw [hh] at hp
 by_cases hlt : place l id < l.length
 · rw [dif_pos hlt] at hp
   have he : l[place l id] = id := by simpa using hp.symm
   have hd : l.drop (place l id) = id :: l.drop (place l id + 1) := by
    rw [List.drop_eq_getElem_cons hlt, he]
   have hud : Up (l.drop (place l id)) := h.sublist (List.drop_sublist _ _)
   rw [hd] at hud
   have hgt := (List.pairwise_cons.1 hud).1
   conv => rhs; rw [← List.take_append_drop (place l id) l, hd]
   unfold drop
   rw [List.filter_append, List.filter_cons_of_neg (by simp)]
   congr 1
   · rw [List.filter_eq_self.2]
     intro x hx
     have := ((h1 x).1 hx).2
     simp; omega
   · rw [List.filter_eq_self.2]
     intro x hx
     have := hgt x hx
     simp; omega
 · rw [dif_neg hlt] at hp
   cases hp
theorem drop_none (l : List Int) (id : Int) (hh : has l id = false) : drop l id = l := by
 unfold drop
 rw [List.filter_eq_self]
 intro x hx
 simp only [ne_eq, decide_not, Bool.not_eq_eq_eq_not, Bool.not_true, decide_eq_false_iff_not]
 intro e
 subst e
 have := (has_iff l x).2 hx
 rw [hh] at this
 cases this
theorem has_lt (l : List Int) (id : Int) (h : Up l) (hh : has l id = true) : place l id < l.length := by
 have hp := has_place l id h
 rw [hh] at hp
 by_cases hlt : place l id < l.length
 · exact hlt
 · rw [dif_neg hlt] at hp; cases hp
end Go.Ofp.Ids
namespace Go.Proofs.YtneolmnpebiifaaGreatDoor
open Go.RowKit Go.Ofp
set_option maxHeartbeats 4000000
theorem has_any (a : Option Addr) (l : List Int) (n cap : Nat) (id : Int) (w : World) (hs : Sl w a (l.map vi)) (hn : l.length = n) (hm : n ≤ 100000) (hu : Ids.Up l) :
 Calls Tryz.prog 92 #[.slice a n cap, .int .i64 id] w fun e w' => e = .returned (.bool (Ids.has l id)) ∧ w = w' := by
 have cS := Lib.hid (search_any a l n cap id w hs hn hm hu)
 clear hs hn hu
 go_enter Tryz.func92, Tryz.ntmps92
 go_wp2_with (go_at_call 139; (with_reducible refine cS.out.mono ?_); rintro _ _ ⟨rfl, rfl⟩)
 go_ret
 exact ⟨rfl, rfl⟩
theorem put_any (a : Option Addr) (l : List Int) (n cap : Nat) (id : Int) (w : World) (hs : Sl w a (l.map vi)) (hn : l.length = n) (hm : n ≤ 10000) (hc : a = none → cap = 0) (hu : Ids.Up l) :
 Calls Tryz.prog 124 #[.slice a n cap, .int .i64 id] w (IntsRet (Ids.put l id) w) := by
 have cS := Lib.hid (search_any a l n cap id w hs hn (by omega) hu)
 have cC := Lib.hid (clone_any a l n cap w hs hn (by omega) hc)
 have hpl := place_le l id
 rw [hn] at hpl
 have hS := St.start w
 by_cases h : id < 1 ∨ 1073741824 ≤ id ∨ Ids.has l id = true
 · have hp : Ids.put l id = l := by unfold Ids.put; rw [if_pos h]
   rw [hp]
   generalize Ids.has l id = hb at cS h
   have key : hb = true ∨ hb = false ∧ (id < 1 ∨ 1 ≤ id ∧ 1073741824 ≤ id) := by
    cases hb with
    | true => exact .inl rfl
    | false =>
     refine .inr ⟨rfl, ?_⟩
     rcases h with h | h | h
     · exact .inl h
     · exact .inr ⟨by omega, h⟩
     · cases h
   clear h hp hs hn hu
   rcases key with rfl | ⟨rfl, h | ⟨h1, h2⟩⟩
   all_goals
    go_enter Tryz.func124, Tryz.ntmps124
    go_wp2_with (first | (go_at_call 139; (with_reducible refine cS.out.mono ?_); rintro _ _ ⟨rfl, rfl⟩) | (go_at_call 37; (with_reducible refine cC.out.mono ?_); rintro _ w3 ⟨a3, c3, rfl, h31, h32, hb3⟩))
    go_ret
    exact ⟨_, _, rfl, h31, h32, hb3⟩
 · have hp : Ids.put l id = l.take (Ids.place l id) ++ id :: l.drop (Ids.place l id) := by unfold Ids.put; rw [if_neg h]
   rw [hp]
   have hhas : Ids.has l id = false := by
    cases e : Ids.has l id with
    | true => exact absurd (.inr (.inr e)) h
    | false => rfl
   rw [hhas] at cS
   have hid1 : 1 ≤ id := by omega
   have hid2 : id < 1073741824 := by omega
   clear h hp hs hu hc hhas
   have hln : (l.take (Ids.place l id) ++ id :: l.drop (Ids.place l id)).length = n + 1 := by simp; omega
   generalize hq : Ids.place l id = p at hpl cS hln ⊢
   clear hq
   have hnl : n = l.length := hn.symm
   subst hnl
   replace hln := Lib.hid hln
   generalize hz : l.length = z at cS cC hpl hm hln
   replace hz := Lib.hid hz
   have cC2 := cC.out
   unfold IntsRet irow at cC2
   rw [hz.out] at cC2
   replace cC2 := Lib.hid cC2
   clear cC hn
   go_enter Tryz.func124, Tryz.ntmps124
   go_wp2_with (first | (go_at_call 139; (with_reducible refine cS.out.mono ?_); rintro _ _ ⟨rfl, rfl⟩) | (go_at_call 37; (with_reducible refine cC2.out.mono ?_); rintro _ w3 ⟨a3, c3, rfl, h31, h32, hb3⟩; have hS1 := hS.made hb3; clear hS hb3; have hS := hS1; clear hS1) | ((with_reducible refine wpList_build1c_st hS rfl rfl Tryz.underlying46 elem_i rfl ?_); intro g3 w3 hS1; clear hS; have hS := hS1.swap; clear hS1) | (go_at_call 156; (refine (insert_any a3 g3 z c3 p l id _ (hS.pre _ [] (List.append_nil _).symm) hz.out hpl (by omega)).mono ?_); rintro _ w3 ⟨a4, c4, rfl, hb3⟩; have hS1 := hS.call _ [] (List.append_nil _).symm hb3; clear hS hb3; have hS := hS1; clear hS1))
   go_ret
   simp only [List.append_nil] at hS
   have r := intsRet_mk hS (l := l.take p ++ id :: l.drop p) rfl hln.out
   exact r
theorem drop_any (a : Option Addr) (l : List Int) (n cap : Nat) (id : Int) (w : World) (hs : Sl w a (l.map vi)) (hn : l.length = n) (hm : n ≤ 10000) (hc : a = none → cap = 0) (hu : Ids.Up l) :
 Calls Tryz.prog 117 #[.slice a n cap, .int .i64 id] w (IntsRet (Ids.drop l id) w) := by
 have cS := Lib.hid (search_any a l n cap id w hs hn (by omega) hu)
 have cC := Lib.hid (clone_any a l n cap w hs hn (by omega) hc)
 have hS := St.start w
 cases hb : Ids.has l id with
 | false =>
  rw [Ids.drop_none l id hb]
  rw [hb] at cS
  clear hb hs hn hu
  go_enter Tryz.func117, Tryz.ntmps117
  go_wp2_with (first | (go_at_call 139; (with_reducible refine cS.out.mono ?_); rintro _ _ ⟨rfl, rfl⟩) | (go_at_call 37; (with_reducible refine cC.out.mono ?_); rintro _ w3 ⟨a3, c3, rfl, h31, h32, hb3⟩))
  go_ret
  exact ⟨_, _, rfl, h31, h32, hb3⟩
 | true =>
  have hlt := Ids.has_lt l id hu hb
  rw [← Ids.drop_split l id hu hb]
  rw [hb] at cS
  generalize Ids.place l id = p at cS hlt ⊢
  obtain ⟨k, hk⟩ : ∃ k, l.length = k + 1 := ⟨l.length - 1, by omega⟩
  have hln : (l.take p ++ l.drop (p + 1)).length = k := by simp; omega
  rw [hn] at hk
  subst hk
  have cC2 := cC.out
  unfold IntsRet irow at cC2
  rw [hn] at cC2
  have hpk : p ≤ k := by omega
  have hk1 : k ≤ 100000 := by omega
  replace cC2 := Lib.hid cC2
  replace hln := Lib.hid hln
  replace hn := Lib.hid hn
  clear cC hb hs hu hc hlt
  go_enter Tryz.func117, Tryz.ntmps117
  go_wp2_with (first | (go_at_call 139; (with_reducible refine cS.out.mono ?_); rintro _ _ ⟨rfl, rfl⟩) | (go_at_call 37; (with_reducible refine cC2.out.mono ?_); rintro _ w3 ⟨a3, c3, rfl, h31, h32, hb3⟩; have hS1 := hS.made hb3; clear hS hb3; have hS := hS1; clear hS1; obtain ⟨g3, c4, e3, -⟩ := hS.rowat 0 rfl (by omega); cases e3) | (go_at_call 150; (refine (delete_any g3 k c3 p l _ (hS.pre _ [] (List.append_nil _).symm) hn.out hpk hk1).mono ?_); rintro _ w3 ⟨rfl, hb3⟩; have hS1 := hS.call _ [] (List.append_nil _).symm hb3; clear hS hb3; have hS := hS1; clear hS1))
  go_ret
  simp only [List.append_nil] at hS
  have r := intsRet_mk hS (l := l.take p ++ l.drop (p + 1)) rfl hln.out
  exact r
theorem rdrop_any (a : Option Addr) (l : List Int) (n cap : Nat) (id : Int) (w : World) (hs : Sl w a (l.map vi)) (hn : l.length = n) (hm : n ≤ 10000) :
 Calls Tryz.prog 132 #[.slice a n cap, .int .i64 id] w (IntsRet (Ids.drop l id) w) := by
 have cM := fun (W : World) (b : Option Addr) (h1 : Sl W a (l.map vi)) (h2 : Sl W b [.int .i64 id]) => rminus_any a b l [id] n 1 cap 1 W h1 h2 rfl (by unfold maxLen; omega) hn (by omega)
 rw [Ids.drop_minus] at cM
 have hS := St.start w
 replace cM := Lib.hid cM
 replace hs := Lib.hid hs
 clear hn
 go_enter Tryz.func132, Tryz.ntmps132
 go_wp2_with (first | ((with_reducible refine wpList_build1c_st hS rfl rfl Tryz.underlying46 elem_i rfl ?_); clear hS; intro g3 w3 hS) | (go_at_call 61; (with_reducible refine (cM.out _ _ (hS.sl hs.out) (hS.blksl2 0 rfl)).mono ?_); rintro _ w3 ⟨a3, c3, rfl, h31, h32, hb3⟩; have hS1 := hS.made hb3; clear hS hb3; have hS := hS1.swap.drop; clear hS1))
 go_ret
 exact ⟨_, _, rfl, h31, h32, hS⟩
theorem check_any (a : Option Addr) (l : List Int) (n cap : Nat) (w : World) (hs : Sl w a (l.map vi)) (hn : l.length = n) (hm : n ≤ maxLen) :
 Calls Tryz.prog 99 #[.slice a n cap] w fun e w' => e = .returned (.bool (Ids.chk l)) ∧ w = w' := by
 unfold maxLen at hm
 replace hn := Lib.hid hn
 replace hs := Lib.hid hs
 go_enter Tryz.func99, Tryz.ntmps99
 go_wp2_with fail
 go_loopg [3, 8] n (fun gk vl vx wr => ∃ (j : Nat) (y : Int), j + gk = n ∧ vx = .int .i64 j ∧ vl = .int .i64 y ∧ Hid (Ids.chk l = Ids.chkFrom y (l.drop j)) ∧ w = wr)
 case atStart => exact ⟨0, 0, Nat.zero_add _, rfl, rfl, Lib.hid rfl, rfl⟩
 case round =>
  obtain ⟨j, y, hj, rfl, rfl, hr, rfl⟩ := hrel
  by_cases hlt : j < n
  · obtain ⟨b, off, rfl, hc⟩ := sl_int hs.out j (by rw [hn.out]; exact hlt)
    have t1 := List.drop_eq_getElem_cons (l := l) (i := j) (by rw [hn.out]; exact hlt)
    generalize l[j]'(by rw [hn.out]; exact hlt) = x at hc t1
    have hr2 := hr.out
    rw [t1] at hr2
    simp only [Ids.chkFrom] at hr2
    by_cases h1 : x ≤ y
    · rw [decide_eq_false (by omega), Bool.false_and] at hr2
      replace hr2 := Lib.hid hr2
      clear t1
      go_wp2_with fail
      go_ret
      exact ⟨by rw [hr2.out]; rfl, rfl⟩
    · have h1' : y < x := by omega
      have d1 : decide (x ≤ y) = false := decide_eq_false h1
      by_cases h2 : 1073741824 ≤ x
      · rw [decide_eq_true h1', decide_eq_false (p := x < 1073741824) (by omega)] at hr2
        replace hr2 := Lib.hid hr2
        clear t1 h1
        go_wp2_with fail
        go_ret
        exact ⟨by rw [hr2.out]; rfl, rfl⟩
      · have h2' : x < 1073741824 := by omega
        have d2 : decide (1073741824 ≤ x) = false := decide_eq_false h2
        rw [decide_eq_true h1', decide_eq_true h2', Bool.true_and, Bool.true_and] at hr2
        replace hr2 := Lib.hid hr2
        clear t1 h1 h2
        go_wp2_with fail
        go_roundg (n - (j + 1))
        case measure => omega
        case rel => exact ⟨j + 1, x, by omega, by go_num, rfl, hr2, rfl⟩
  · obtain rfl : j = n := by omega
    have hr2 := hr.out
    rw [List.drop_of_length_le (by rw [hn.out]; exact Nat.le_refl _)] at hr2
    replace hr2 := Lib.hid hr2
    go_wp2_with fail
    go_ret
    exact ⟨by rw [hr2.out]; rfl, rfl⟩
end Go.Proofs.YtneolmnpebiifaaGreatDoor
end
section
namespace Go.Ofp
open Go.RowKit
section
variable {H : Type} {enc : TypeId × Value → H} {P : Program} {w : World} {base : Nat} {spare : Nat → Bool} {held : Bool} {t e : TypeId}
end
theorem wf_i64 {z : Int} (h : (Lit.int .i64 z).wf = true) : -9223372036854775808 ≤ z ∧ z ≤ 9223372036854775807 := by
 simpa [Lit.wf, IntKind.min, IntKind.max, IntKind.bits, IntKind.signed] using h
end Go.Ofp
end
