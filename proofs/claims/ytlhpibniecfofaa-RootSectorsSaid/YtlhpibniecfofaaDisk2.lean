/- The walks of disks: made, asked, fused. -/
import Derived.Test.YtlhpibniecfofaaDisk1
set_option linter.unusedSimpArgs false
set_option linter.unusedVariables false
namespace Go.Proofs.Ytlhpibniecfofaa
open Go.RowKit Go.Ofp
set_option linter.unusedVariables false
set_option maxRecDepth 100000
set_option maxHeartbeats 4000000

def scZero : List Value := List.replicate 64 (Value.int .u8 0) ++ [.bool false]
theorem elem_sc : Elem Try.prog 122 (.agg scZero.toArray) 65 65 := Elem.mk (by kernel_rfl) (by rfl) (by decide)
theorem elem_wt : Elem Try.prog 125 (.agg (Value.int .i64 0 :: scZero).toArray) 66 80 := Elem.mk (by kernel_rfl) (by rfl) (by decide)

theorem scRow_zero : scRow ⟨List.replicate 64 0, false⟩ = scZero := by simp [scRow, scZero, vb]
theorem scRow_length (s : Sc) (h : s.b.length = 64) : (scRow s).length = 65 := by simp [scRow, h]
theorem wtRow_length (s : Wt) (h : s.b.length = 64) : (wtRow s).length = 66 := by simp [wtRow, h]

theorem new_nil (n : Int) (w : World) (h : n < 1 ∨ 2048 < n) : Calls Try.prog 11 #[.int .i64 n] w fun e w' => e = .returned (.pointer none) ∧ w = w' := by
  rcases h with h | h
  · go_enter Try.func11, Try.ntmps11
    go_wp2_with fail
    go_ret
    exact ⟨rfl, rfl⟩
  · have h' : 1 ≤ n := by omega
    go_enter Try.func11, Try.ntmps11
    go_wp2_with fail
    go_ret
    exact ⟨rfl, rfl⟩

theorem new_any (n : Nat) (w : World) (h1 : 1 ≤ n) (h2 : n ≤ 2048) : Calls Try.prog 11 #[.int .i64 n] w fun e w' => ∃ bd sv wv, e = .returned (.pointer (some ⟨bd, 0, none⟩)) ∧ St w [] (dks bd sv wv (Dk.new n)) w' := by
  have hS := St.start w
  go_enter Try.func11, Try.ntmps11
  go_wp2_with (first
    | (with_reducible refine wpList_box_st hS rfl rfl rfl ?_; intro g1 w1 hS1; clear hS; replace hS := hS1; clear hS1) | (with_reducible refine wpList_box1_st hS rfl rfl rfl ?_; intro g1 w1 hS1; clear hS; replace hS := hS1; clear hS1) | (with_reducible refine wpList_alloc_st hS rfl rfl (by assumption) ?_; intro g1 w1 hS1; clear hS; replace hS := hS1; clear hS1) | (with_reducible refine wpList_alloc1_st hS rfl rfl (by assumption) rfl ?_; intro g1 w1 hS1; clear hS; replace hS := hS1; clear hS1)
    | (at_make; refine wpList_mkfull_st hS rfl rfl Try.underlying114 elem_sc rfl rfl n rfl rfl (by omega) (by unfold maxLen; omega) ?_; intro g2 w3 hS1; clear hS; have hS := hS1; clear hS1))
  go_ret
  refine ⟨g1, .slice (some ⟨g2, 0, none⟩) n n, .slice none 0 0, rfl, ?_⟩
  have hk := ((hS.nilrow 125 66).rot3)
  have e : (madeCells (Value.agg scZero.toArray).cells (n * 65)).toList = ((Dk.new n).sec.map scRow).flatten := by
    have := made_rows scZero n (by decide)
    rw [show (Dk.new n).sec.map scRow = List.replicate n scZero by simp only [Dk.new, List.map_replicate, scRow_zero]]
    exact this
  rw [e] at hk
  unfold dks
  rw [show (Dk.new n).sec.length = n by simp [Dk.new]]
  exact hk

theorem size_nil (w : World) : Calls Try.prog 23 #[.pointer none] w fun e w' => e = .returned (.int .i64 0) ∧ w = w' := by
  go_enter Try.func23, Try.ntmps23
  go_wp2_with fail
  go_ret
  exact ⟨rfl, rfl⟩
theorem size_any (bd : Nat) (sv wv : Value) (d : Dk) (w : World) (h : St w (feet (dks bd sv wv d)) (dks bd sv wv d) w) :
    Calls Try.prog 23 #[.pointer (some ⟨bd, 0, none⟩)] w fun e w' => e = .returned (.int .i64 d.sec.length) ∧ w = w' := by
  obtain ⟨a, cap, rfl, -⟩ := h.row 1 rfl
  have c := h.cell 0 rfl
  clear h
  go_enter Try.func23, Try.ntmps23
  go_wp2_with fail
  go_ret
  exact ⟨rfl, rfl⟩

theorem dead_nil (w : World) : Calls Try.prog 24 #[.pointer none] w fun e w' => e = .returned (.bool true) ∧ w = w' := by
  go_enter Try.func24, Try.ntmps24
  go_wp2_with fail
  go_ret
  exact ⟨rfl, rfl⟩
theorem dead_any (bd : Nat) (sv wv : Value) (d : Dk) (w : World) (h : St w (feet (dks bd sv wv d)) (dks bd sv wv d) w) :
    Calls Try.prog 24 #[.pointer (some ⟨bd, 0, none⟩)] w fun e w' => e = .returned (.bool d.dead) ∧ w = w' := by
  have c := h.cell 0 rfl
  clear h
  go_enter Try.func24, Try.ntmps24
  go_wp2_with fail
  go_ret
  exact ⟨rfl, rfl⟩

theorem waiting_nil (w : World) : Calls Try.prog 25 #[.pointer none] w fun e w' => e = .returned (.int .i64 0) ∧ w = w' := by
  go_enter Try.func25, Try.ntmps25
  go_wp2_with fail
  go_ret
  exact ⟨rfl, rfl⟩
theorem waiting_any (bd : Nat) (sv wv : Value) (d : Dk) (w : World) (h : St w (feet (dks bd sv wv d)) (dks bd sv wv d) w) :
    Calls Try.prog 25 #[.pointer (some ⟨bd, 0, none⟩)] w fun e w' => e = .returned (.int .i64 d.wait.length) ∧ w = w' := by
  obtain ⟨a, cap, rfl, -⟩ := h.row 2 rfl
  have c := h.cell 0 rfl
  clear h
  go_enter Try.func25, Try.ntmps25
  go_wp2_with fail
  go_ret
  exact ⟨rfl, rfl⟩

theorem fuse_nil (n : Int) (w : World) : Calls Try.prog 20 #[.pointer none, .int .i64 n] w fun e w' => e = .returned (.tuple #[]) ∧ w = w' := by
  go_enter Try.func20, Try.ntmps20
  go_wp2_with fail
  exact bodyPost_end (results_none rfl _ _ _) rfl ⟨rfl, rfl⟩
theorem fuse_any (bd : Nat) (sv wv : Value) (d : Dk) (n : Int) (w : World) (h : St w (feet (dks bd sv wv d)) (dks bd sv wv d) w) :
    Calls Try.prog 20 #[.pointer (some ⟨bd, 0, none⟩), .int .i64 n] w fun e w' => e = .returned (.tuple #[]) ∧ St w (feet (dks bd sv wv d)) (dks bd sv wv { d with fuse := n }) w' := by
  generalize feet (dks bd sv wv d) = F at h ⊢
  have hS := h
  clear h
  unfold dks at hS ⊢
  obtain ⟨sec, wait, fuse, dead⟩ := d
  simp only at hS ⊢
  go_enter Try.func20, Try.ntmps20
  go_wp2_with (first | (with_reducible refine wpList_box_st hS rfl rfl rfl ?_; intro g1 w1 hS1; clear hS; replace hS := hS1; clear hS1) | (with_reducible refine wpList_box1_st hS rfl rfl rfl ?_; intro g1 w1 hS1; clear hS; replace hS := hS1; clear hS1) | (with_reducible refine wpList_alloc_st hS rfl rfl (by assumption) ?_; intro g1 w1 hS1; clear hS; replace hS := hS1; clear hS1) | (with_reducible refine wpList_alloc1_st hS rfl rfl (by assumption) rfl ?_; intro g1 w1 hS1; clear hS; replace hS := hS1; clear hS1) | ((with_reducible refine wpList_load_st 0 hS rfl rfl rfl rfl ?_ rfl ?_); focus (simp [scalarB, go_sem]; done)) | ((with_reducible refine wpList_loadall_st 0 hS rfl rfl rfl rfl ?_ (by kernel_rfl) ?_); focus (simp [rowB, go_sem]; done)) | ((with_reducible refine wpList_store_st 0 hS rfl rfl rfl rfl (by kernel_rfl) rfl rfl ?_); intro w1 hS1; clear hS; replace hS := hS1; clear hS1; try simp only [List.set_cons_zero, List.set_cons_succ, List.setIfInBounds_toArray, List.take_succ_cons, List.take_zero, List.drop_succ_cons, List.drop_zero, List.nil_append, List.cons_append, List.append_nil, List.drop_nil, List.take_nil, List.length_cons, List.length_nil, Nat.zero_add, Nat.add_zero, Nat.reduceAdd] at hS) | ((with_reducible refine wpList_storerow_st 0 hS rfl rfl rfl rfl (by kernel_rfl) rfl rfl rfl rfl ?_); intro w1 hS1; clear hS; replace hS := hS1; clear hS1; try simp only [List.set_cons_zero, List.set_cons_succ, List.setIfInBounds_toArray, List.take_succ_cons, List.take_zero, List.drop_succ_cons, List.drop_zero, List.nil_append, List.cons_append, List.append_nil, List.drop_nil, List.take_nil, List.length_cons, List.length_nil, Nat.zero_add, Nat.add_zero, Nat.reduceAdd] at hS))
  exact bodyPost_end (results_none rfl _ _ _) rfl ⟨rfl, hS⟩

end Go.Proofs.Ytlhpibniecfofaa
