/- Texts laid together: Ring12 St12 Ring13. -/
import Derived.Test.YtlhpibniecfofaaM15
import Derived.Test.YtlhpibniecfofaaM4
import Derived.Test.YtlhpibniecfofaaM5
section
/- Rings: an act is done, by both. -/
set_option linter.unusedSimpArgs false
set_option linter.unusedVariables false
namespace Go.Proofs.Ytlhpibniecfofaa
open Go.RowKit Go.Ofp
set_option linter.unusedVariables false
set_option maxRecDepth 100000
set_option maxHeartbeats 8000000

/-- A disk and a ring, of both, in the law's struct. -/
def plays (g bd g2 : Nat) (sv wv rsv rwv : Value) (d : Dk) (r : Rg) : List Ch := rdp37 (plr (.pointer (some ⟨bd, 0, none⟩)) (.pointer (some ⟨g2, 0, none⟩)) r) g rsv rwv d ++ (rng g2 bd r :: dks bd sv wv d)
/-- What is there behind an act. -/
def PlayTo (w : World) (F : List Nat) (g bd size k : Nat) (w' : World) : Prop := ∃ g2 sv wv rsv rwv d r, Rg.Ok r size ∧ Dk.Fit d size k ∧ St w F (plays g bd g2 sv wv rsv rwv d r) w'
theorem tmod_bounds (n m : Int) (hm : 0 < m) : -m < n.tmod m ∧ n.tmod m < m := by
  by_cases h : 0 ≤ n
  · rw [Int.tmod_eq_emod_of_nonneg h]
    have := Int.emod_nonneg n (show m ≠ 0 by omega)
    have := Int.emod_lt_of_pos n hm
    omega
  · have e : n.tmod m = -((-n).tmod m) := by rw [Int.neg_tmod, Int.neg_neg]
    rw [e, Int.tmod_eq_emod_of_nonneg (by omega)]
    have := Int.emod_nonneg (-n) (show m ≠ 0 by omega)
    have := Int.emod_lt_of_pos (-n) hm
    omega
theorem many_500 {n : Nat} (h : n ≤ 500) : manyB n ≤ 10 := by unfold manyB; split <;> omega

theorem does37_0 (bd g g2 : Nat) (sv wv rsv rwv : Value) (d : Dk) (r : Rg) (size k : Nat) (n : Int) (s : ByteArray) (a : Option Addr) (nk kc : Nat) (c : UInt8) (w : World) (hD : St w (feet (plays g bd g2 sv wv rsv rwv d r)) (plays g bd g2 sv wv rsv rwv d r) w) (hr : r.Ok size) (hfit : d.Fit size k) (hs2 : size ≤ 1000) (hk : k ≤ 90000) (hsz : s.size ≤ 500) :
    Calls Try.prog 50 #[.pointer (some ⟨g, 0, none⟩), .agg #[.int .i64 0, .int .i64 n, .string s, .slice a nk kc, vb c]] w fun e w' => e = .returned (.bool true) ∧ PlayTo w (feet (plays g bd g2 sv wv rsv rwv d r)) g bd size (k + 10) w' := by
  have hm := many_500 hsz
  have cA := fun W hh => rgadd_any g2 bd sv wv d r size k s W hh hr hfit (by omega) (by omega) (by omega)
  have cB := fun W hh => pradd_any (.pointer (some ⟨bd, 0, none⟩)) (.pointer (some ⟨g2, 0, none⟩)) g rsv rwv d r size k s W hh hr hfit (by omega) (by omega) (by omega)
  have hrO := hr.add d s
  have hF := (hfit.add r s).mono (k' := k + 10) (by omega)
  obtain ⟨⟨r1, d1, e1⟩, hres⟩ : ∃ z, r.add d s = z := ⟨_, rfl⟩
  rw [hres] at cA cB hrO hF
  unfold rdp37 at cB
  simp only at cA cB hrO hF
  clear hres hr hfit hsz hm
  replace cA := Lib.hid cA
  replace cB := Lib.hid cB
  have hS : St w (feet (plays g bd g2 sv wv rsv rwv d r)) (plays g bd g2 sv wv rsv rwv d r ++ []) w := by rw [List.append_nil]; exact hD
  generalize feet (plays g bd g2 sv wv rsv rwv d r) = F at hS ⊢
  clear hD
  unfold plays rdp37 at hS
  simp only [List.cons_append, List.nil_append] at hS
  go_enter Try.func50, Try.ntmps50
  go_wp2_with (first
    | ((with_reducible refine wpList_box_st hS rfl rfl rfl ?_); intro g3 w1 hS1; clear hS; have hS := hS1; clear hS1)
    | (with_reducible refine wpList_box_st hS rfl rfl rfl ?_; intro g1 w1 hS1; clear hS; replace hS := hS1; clear hS1) | (with_reducible refine wpList_box1_st hS rfl rfl rfl ?_; intro g1 w1 hS1; clear hS; replace hS := hS1; clear hS1) | (with_reducible refine wpList_alloc_st hS rfl rfl (by assumption) ?_; intro g1 w1 hS1; clear hS; replace hS := hS1; clear hS1) | (with_reducible refine wpList_alloc1_st hS rfl rfl (by assumption) rfl ?_; intro g1 w1 hS1; clear hS; replace hS := hS1; clear hS1) | ((with_reducible refine wpList_load_st 0 hS rfl rfl rfl rfl ?_ rfl ?_); focus (simp [scalarB, go_sem]; done)) | ((with_reducible refine wpList_loadall_st 0 hS rfl rfl rfl rfl ?_ (by kernel_rfl) ?_); focus (simp [rowB, go_sem]; done)) | ((with_reducible refine wpList_store_st 0 hS rfl rfl rfl rfl (by kernel_rfl) rfl rfl ?_); intro w1 hS1; clear hS; replace hS := hS1; clear hS1; try simp only [List.set_cons_zero, List.set_cons_succ, List.setIfInBounds_toArray, List.take_succ_cons, List.take_zero, List.drop_succ_cons, List.drop_zero, List.nil_append, List.cons_append, List.append_nil, List.drop_nil, List.take_nil, List.length_cons, List.length_nil, Nat.zero_add, Nat.add_zero, Nat.reduceAdd] at hS) | ((with_reducible refine wpList_storerow_st 0 hS rfl rfl rfl rfl (by kernel_rfl) rfl rfl rfl rfl ?_); intro w1 hS1; clear hS; replace hS := hS1; clear hS1; try simp only [List.set_cons_zero, List.set_cons_succ, List.setIfInBounds_toArray, List.take_succ_cons, List.take_zero, List.drop_succ_cons, List.drop_zero, List.nil_append, List.cons_append, List.append_nil, List.drop_nil, List.take_nil, List.length_cons, List.length_nil, Nat.zero_add, Nat.add_zero, Nat.reduceAdd] at hS))
  revert hS
  apply wp_cutv2
  · intro hS
    refine mixs_beginP [(0, .pointer (some ⟨bd, 0, none⟩)), (1, .pointer (some ⟨g2, 0, none⟩))] (by kernel_rfl) hS (by simp) ?_
    clear hS
    intro w6 hS hC
    have kC := hC.kblk 0 rfl
    have kC1 := hC.kpart 1 rfl (0, .pointer (some ⟨bd, 0, none⟩)) (by simp)
    have kC2 := hC.kpart 1 rfl (1, .pointer (some ⟨g2, 0, none⟩)) (by simp)
    simp only at kC1 kC2
    refine mixs_take 0 (v := ?_) rfl (by kernel_rfl) (fun _ _ _ h => h) (by kernel_rfl) (by assumption) (fun s => ?hy) ?_; case hy => (go_simp <;> with_reducible rfl)
    try simp only [List.getElem_toArray, List.getElem_cons_succ, List.getElem_cons_zero, Act.put, List.setIfInBounds_toArray, List.set_cons_zero, List.set_cons_succ]
    refine mixs_take 1 (v := ?_) rfl (by kernel_rfl) (fun _ _ _ h => h) (by kernel_rfl) (by assumption) (fun s => ?hy) ?_; case hy => (go_simp <;> with_reducible rfl)
    try simp only [List.getElem_toArray, List.getElem_cons_succ, List.getElem_cons_zero, Act.put, List.setIfInBounds_toArray, List.set_cons_zero, List.set_cons_succ]
    refine mixs_take 2 (v := ?_) rfl (by kernel_rfl) (fun _ _ _ h => h) (by kernel_rfl) (by assumption) (fun s => ?hy) ?_; case hy => (go_simp <;> with_reducible rfl)
    try simp only [List.getElem_toArray, List.getElem_cons_succ, List.getElem_cons_zero, Act.put, List.setIfInBounds_toArray, List.set_cons_zero, List.set_cons_succ]
    refine mixs_take 3 (v := ?_) rfl (by kernel_rfl) (fun _ _ _ h => h) (by kernel_rfl) (by assumption) (fun s => ?hy) ?_; case hy => (go_simp <;> with_reducible rfl)
    try simp only [List.getElem_toArray, List.getElem_cons_succ, List.getElem_cons_zero, Act.put, List.setIfInBounds_toArray, List.set_cons_zero, List.set_cons_succ]
    refine mixs_take 4 (v := ?_) rfl (by kernel_rfl) (fun _ _ _ h => h) (by kernel_rfl) (by assumption) (fun s => ?hy) ?_; case hy => (go_simp <;> with_reducible rfl)
    try simp only [List.getElem_toArray, List.getElem_cons_succ, List.getElem_cons_zero, Act.put, List.setIfInBounds_toArray, List.set_cons_zero, List.set_cons_succ]
    refine mixs_take 5 (v := ?_) rfl (by kernel_rfl) (fun _ _ _ h => h) (by kernel_rfl) (by assumption) (fun s => ?hy) ?_; case hy => (go_simp <;> with_reducible rfl)
    try simp only [List.getElem_toArray, List.getElem_cons_succ, List.getElem_cons_zero, Act.put, List.setIfInBounds_toArray, List.set_cons_zero, List.set_cons_succ]
    refine mixs_take 7 (v := ?_) rfl (by kernel_rfl) (fun _ _ _ h => h) (by kernel_rfl) (by assumption) (fun s => ?hy) ?_; case hy => (go_simp <;> with_reducible rfl)
    try simp only [List.getElem_toArray, List.getElem_cons_succ, List.getElem_cons_zero, Act.put, List.setIfInBounds_toArray, List.set_cons_zero, List.set_cons_succ]
    refine mixs_take 8 (v := ?_) rfl (by kernel_rfl) (fun _ _ _ h => h) (by kernel_rfl) (by assumption) (fun s => ?hy) ?_; case hy => (go_simp <;> with_reducible rfl)
    try simp only [List.getElem_toArray, List.getElem_cons_succ, List.getElem_cons_zero, Act.put, List.setIfInBounds_toArray, List.set_cons_zero, List.set_cons_succ]
    refine mixs_take 9 (v := ?_) rfl (by kernel_rfl) (fun _ _ _ h => h) (by kernel_rfl) (by assumption) (fun s => ?hy) ?_; case hy => (go_simp <;> with_reducible rfl)
    try simp only [List.getElem_toArray, List.getElem_cons_succ, List.getElem_cons_zero, Act.put, List.setIfInBounds_toArray, List.set_cons_zero, List.set_cons_succ]
    refine mixs_take 10 (v := ?_) rfl (by kernel_rfl) (fun _ _ _ h => h) (by kernel_rfl) (by assumption) (fun s => ?hy) ?_; case hy => (go_simp <;> with_reducible rfl)
    try simp only [List.getElem_toArray, List.getElem_cons_succ, List.getElem_cons_zero, Act.put, List.setIfInBounds_toArray, List.set_cons_zero, List.set_cons_succ]
    refine mixs_take 11 (v := ?_) rfl (by kernel_rfl) (fun _ _ _ h => h) (by kernel_rfl) (by assumption) (fun s => ?hy) ?_; case hy => (go_simp <;> with_reducible rfl)
    try simp only [List.getElem_toArray, List.getElem_cons_succ, List.getElem_cons_zero, Act.put, List.setIfInBounds_toArray, List.set_cons_zero, List.set_cons_succ]
    refine mixs_take 12 (v := ?_) rfl (by kernel_rfl) (fun _ _ _ h => h) (by kernel_rfl) (by assumption) (fun s => ?hy) ?_; case hy => (go_simp <;> with_reducible rfl)
    try simp only [List.getElem_toArray, List.getElem_cons_succ, List.getElem_cons_zero, Act.put, List.setIfInBounds_toArray, List.set_cons_zero, List.set_cons_succ]
    refine mixs_take 13 (v := ?_) rfl (by kernel_rfl) (fun _ _ _ h => h) (by kernel_rfl) (by assumption) (fun s => ?hy) ?_; case hy => (go_simp <;> with_reducible rfl)
    try simp only [List.getElem_toArray, List.getElem_cons_succ, List.getElem_cons_zero, Act.put, List.setIfInBounds_toArray, List.set_cons_zero, List.set_cons_succ]
    refine mixs_take 14 (v := ?_) rfl (by kernel_rfl) (fun _ _ _ h => h) (by kernel_rfl) (by assumption) (fun s => ?hy) ?_; case hy => (go_simp <;> with_reducible rfl)
    try simp only [List.getElem_toArray, List.getElem_cons_succ, List.getElem_cons_zero, Act.put, List.setIfInBounds_toArray, List.set_cons_zero, List.set_cons_succ]
    refine mixs_one 6 (by kernel_rfl) rfl (fun K hK => ?_)
    go_simp
    ( (first | (go_at_call 44; (with_reducible refine (cA.out _ (hS.preM (A := [_, _, _, _]) (B := rng _ _ _ :: dks _ _ _ _) (R := []))).mono ?_); rintro _ w8 ⟨rfl, wv8, hk8⟩; have hS1 := hS.callM (A := [_, _, _, _]) (B := rng _ _ _ :: dks _ _ _ _) (R := []) hk8; clear hS hk8; have hS := hS1; clear hS1; simp only [List.cons_append, List.nil_append] at hS) | (go_at_call 90; (with_reducible refine (cB.out _ (hS.preM (A := [_]) (B := [_, _, _]) (R := _))).mono ?_); rintro _ w9 ⟨rfl, wv9, hk9⟩; have hS1 := hS.callM (A := [_]) (B := [_, _, _]) (R := _) hk9; clear hS hk9; have hS := hS1; clear hS1; simp only [List.cons_append, List.nil_append] at hS)) )
    try clear hC
    refine hK.out _ _ _ (fun _ h => h) (by first | exact hS | exact hS.drop | exact hS.drop.drop | exact hS.drop.drop.drop | exact hS.drop.drop.drop.drop | exact hS.empty | exact hS.one 0 rfl | exact hS.one 1 rfl | exact hS.one 2 rfl | exact hS.one 3 rfl | exact hS.one 4 rfl | exact hS.one 5 rfl | exact hS.one 6 rfl | exact hS.one 7 rfl | exact hS.one 8 rfl | exact hS.one 9 rfl | exact hS.one 10 rfl | exact hS.one 11 rfl | exact hS.toPart (by simp)) (fun hC => ?_)
    clear hK K
    try simp only [List.getElem_toArray, List.getElem_cons_succ, List.getElem_cons_zero, Act.put, List.setIfInBounds_toArray, List.set_cons_zero, List.set_cons_succ]
    refine mixs_one 15 (by kernel_rfl) rfl (fun K hK => ?_)
    go_simp
    ( (first | (go_at_call 44; (with_reducible refine (cA.out _ (hS.preM (A := [_, _, _, _]) (B := rng _ _ _ :: dks _ _ _ _) (R := []))).mono ?_); rintro _ w8 ⟨rfl, wv8, hk8⟩; have hS1 := hS.callM (A := [_, _, _, _]) (B := rng _ _ _ :: dks _ _ _ _) (R := []) hk8; clear hS hk8; have hS := hS1; clear hS1; simp only [List.cons_append, List.nil_append] at hS) | (go_at_call 90; (with_reducible refine (cB.out _ (hS.preM (A := [_]) (B := [_, _, _]) (R := _))).mono ?_); rintro _ w9 ⟨rfl, wv9, hk9⟩; have hS1 := hS.callM (A := [_]) (B := [_, _, _]) (R := _) hk9; clear hS hk9; have hS := hS1; clear hS1; simp only [List.cons_append, List.nil_append] at hS)) )
    try clear hC
    refine hK.out _ _ _ (fun _ h => h) (by first | exact hS | exact hS.drop | exact hS.drop.drop | exact hS.drop.drop.drop | exact hS.drop.drop.drop.drop | exact hS.empty | exact hS.one 0 rfl | exact hS.one 1 rfl | exact hS.one 2 rfl | exact hS.one 3 rfl | exact hS.one 4 rfl | exact hS.one 5 rfl | exact hS.one 6 rfl | exact hS.one 7 rfl | exact hS.one 8 rfl | exact hS.one 9 rfl | exact hS.one 10 rfl | exact hS.one 11 rfl | exact hS.toPart (by simp)) (fun hC => ?_)
    clear hK K
    try simp only [List.getElem_toArray, List.getElem_cons_succ, List.getElem_cons_zero, Act.put, List.setIfInBounds_toArray, List.set_cons_zero, List.set_cons_succ]
    refine mixs_take 16 (v := ?_) rfl (by kernel_rfl) (fun _ _ _ h => h) (by kernel_rfl) (by assumption) (fun s => ?hy) ?_; case hy => (go_simp <;> with_reducible rfl)
    try simp only [List.getElem_toArray, List.getElem_cons_succ, List.getElem_cons_zero, Act.put, List.setIfInBounds_toArray, List.set_cons_zero, List.set_cons_succ]
    refine mixs_take 17 (v := ?_) rfl (by kernel_rfl) (fun _ _ _ h => h) (by kernel_rfl) (by assumption) (fun s => ?hy) ?_; case hy => (go_simp <;> with_reducible rfl)
    try simp only [List.getElem_toArray, List.getElem_cons_succ, List.getElem_cons_zero, Act.put, List.setIfInBounds_toArray, List.set_cons_zero, List.set_cons_succ]
    refine wpAnyH_done (by kernel_rfl) ?_ _
    exact ⟨wv8, wv9, rfl, hS⟩
  intro wv1 rwv1 w7 hS
  go_wp2_with fail
  go_ret
  exact ⟨rfl, g2, sv, wv1, rsv, rwv1, d1, r1, hrO, hF, by simpa [plays, rdp37, dks] using hS.drop⟩
theorem does37_1 (bd g g2 : Nat) (sv wv rsv rwv : Value) (d : Dk) (r : Rg) (size k : Nat) (n : Int) (s : ByteArray) (a : Option Addr) (nk kc : Nat) (c : UInt8) (w : World) (hD : St w (feet (plays g bd g2 sv wv rsv rwv d r)) (plays g bd g2 sv wv rsv rwv d r) w) (hr : r.Ok size) (hfit : d.Fit size k) (hs2 : size ≤ 1000) (hk : k ≤ 90000) :
    Calls Try.prog 50 #[.pointer (some ⟨g, 0, none⟩), .agg #[.int .i64 1, .int .i64 n, .string s, .slice a nk kc, vb c]] w fun e w' => e = .returned (.bool true) ∧ PlayTo w (feet (plays g bd g2 sv wv rsv rwv d r)) g bd size (k + 10) w' := by
  have cA := fun W hh => sync_any bd sv wv d W hh hfit.ok (by have := hfit.wait; omega) hfit.fuse
  have cB := fun W hh => rsync_any37 (plr (.pointer (some ⟨bd, 0, none⟩)) (.pointer (some ⟨g2, 0, none⟩)) r) g rsv rwv d W hh hfit.ok (by have := hfit.sec; omega) (by have := hfit.wait; omega) hfit.fuse
  have hF := hfit.sync.mono (k' := k + 10) (by omega)
  obtain ⟨⟨d1, e1⟩, hres⟩ : ∃ z, d.sync = z := ⟨_, rfl⟩
  rw [hres] at cA cB hF
  unfold rdp37 at cB
  simp only at cA cB hF
  clear hres hfit
  replace cA := Lib.hid cA
  replace cB := Lib.hid cB
  have hS : St w (feet (plays g bd g2 sv wv rsv rwv d r)) (plays g bd g2 sv wv rsv rwv d r ++ []) w := by rw [List.append_nil]; exact hD
  generalize feet (plays g bd g2 sv wv rsv rwv d r) = F at hS ⊢
  clear hD
  unfold plays rdp37 at hS
  simp only [List.cons_append, List.nil_append] at hS
  go_enter Try.func50, Try.ntmps50
  go_wp2_with (first
    | ((with_reducible refine wpList_box_st hS rfl rfl rfl ?_); intro g3 w1 hS1; clear hS; have hS := hS1; clear hS1)
    | (with_reducible refine wpList_box_st hS rfl rfl rfl ?_; intro g1 w1 hS1; clear hS; replace hS := hS1; clear hS1) | (with_reducible refine wpList_box1_st hS rfl rfl rfl ?_; intro g1 w1 hS1; clear hS; replace hS := hS1; clear hS1) | (with_reducible refine wpList_alloc_st hS rfl rfl (by assumption) ?_; intro g1 w1 hS1; clear hS; replace hS := hS1; clear hS1) | (with_reducible refine wpList_alloc1_st hS rfl rfl (by assumption) rfl ?_; intro g1 w1 hS1; clear hS; replace hS := hS1; clear hS1) | ((with_reducible refine wpList_load_st 0 hS rfl rfl rfl rfl ?_ rfl ?_); focus (simp [scalarB, go_sem]; done)) | ((with_reducible refine wpList_loadall_st 0 hS rfl rfl rfl rfl ?_ (by kernel_rfl) ?_); focus (simp [rowB, go_sem]; done)) | ((with_reducible refine wpList_store_st 0 hS rfl rfl rfl rfl (by kernel_rfl) rfl rfl ?_); intro w1 hS1; clear hS; replace hS := hS1; clear hS1; try simp only [List.set_cons_zero, List.set_cons_succ, List.setIfInBounds_toArray, List.take_succ_cons, List.take_zero, List.drop_succ_cons, List.drop_zero, List.nil_append, List.cons_append, List.append_nil, List.drop_nil, List.take_nil, List.length_cons, List.length_nil, Nat.zero_add, Nat.add_zero, Nat.reduceAdd] at hS) | ((with_reducible refine wpList_storerow_st 0 hS rfl rfl rfl rfl (by kernel_rfl) rfl rfl rfl rfl ?_); intro w1 hS1; clear hS; replace hS := hS1; clear hS1; try simp only [List.set_cons_zero, List.set_cons_succ, List.setIfInBounds_toArray, List.take_succ_cons, List.take_zero, List.drop_succ_cons, List.drop_zero, List.nil_append, List.cons_append, List.append_nil, List.drop_nil, List.take_nil, List.length_cons, List.length_nil, Nat.zero_add, Nat.add_zero, Nat.reduceAdd] at hS))
  revert hS
  apply wp_cutv3
  · intro hS
    refine mixs_beginP [(0, .pointer (some ⟨bd, 0, none⟩)), (1, .pointer (some ⟨g2, 0, none⟩))] (by kernel_rfl) hS (by simp) ?_
    clear hS
    intro w6 hS hC
    have kC := hC.kblk 0 rfl
    have kC1 := hC.kpart 1 rfl (0, .pointer (some ⟨bd, 0, none⟩)) (by simp)
    have kC2 := hC.kpart 1 rfl (1, .pointer (some ⟨g2, 0, none⟩)) (by simp)
    simp only at kC1 kC2
    refine mixs_take 0 (v := ?_) rfl (by kernel_rfl) (fun _ _ _ h => h) (by kernel_rfl) (by assumption) (fun s => ?hy) ?_; case hy => (go_simp <;> with_reducible rfl)
    try simp only [List.getElem_toArray, List.getElem_cons_succ, List.getElem_cons_zero, Act.put, List.setIfInBounds_toArray, List.set_cons_zero, List.set_cons_succ]
    refine mixs_take 1 (v := ?_) rfl (by kernel_rfl) (fun _ _ _ h => h) (by kernel_rfl) (by assumption) (fun s => ?hy) ?_; case hy => (go_simp <;> with_reducible rfl)
    try simp only [List.getElem_toArray, List.getElem_cons_succ, List.getElem_cons_zero, Act.put, List.setIfInBounds_toArray, List.set_cons_zero, List.set_cons_succ]
    refine mixs_take 2 (v := ?_) rfl (by kernel_rfl) (fun _ _ _ h => h) (by kernel_rfl) (by assumption) (fun s => ?hy) ?_; case hy => (go_simp <;> with_reducible rfl)
    try simp only [List.getElem_toArray, List.getElem_cons_succ, List.getElem_cons_zero, Act.put, List.setIfInBounds_toArray, List.set_cons_zero, List.set_cons_succ]
    refine mixs_take 3 (v := ?_) rfl (by kernel_rfl) (fun _ _ _ h => h) (by kernel_rfl) (by assumption) (fun s => ?hy) ?_; case hy => (go_simp <;> with_reducible rfl)
    try simp only [List.getElem_toArray, List.getElem_cons_succ, List.getElem_cons_zero, Act.put, List.setIfInBounds_toArray, List.set_cons_zero, List.set_cons_succ]
    refine mixs_take 5 (v := ?_) rfl (by kernel_rfl) (fun _ _ _ h => h) (by kernel_rfl) (by assumption) (fun s => ?hy) ?_; case hy => (go_simp <;> with_reducible rfl)
    try simp only [List.getElem_toArray, List.getElem_cons_succ, List.getElem_cons_zero, Act.put, List.setIfInBounds_toArray, List.set_cons_zero, List.set_cons_succ]
    refine mixs_take 6 (v := ?_) rfl (by kernel_rfl) (fun _ _ _ h => h) (by kernel_rfl) (by assumption) (fun s => ?hy) ?_; case hy => (go_simp <;> with_reducible rfl)
    try simp only [List.getElem_toArray, List.getElem_cons_succ, List.getElem_cons_zero, Act.put, List.setIfInBounds_toArray, List.set_cons_zero, List.set_cons_succ]
    refine mixs_take 7 (v := ?_) rfl (by kernel_rfl) (fun _ _ _ h => h) (by kernel_rfl) (by assumption) (fun s => ?hy) ?_; case hy => (go_simp <;> with_reducible rfl)
    try simp only [List.getElem_toArray, List.getElem_cons_succ, List.getElem_cons_zero, Act.put, List.setIfInBounds_toArray, List.set_cons_zero, List.set_cons_succ]
    refine mixs_one 4 (by kernel_rfl) rfl (fun K hK => ?_)
    go_simp
    ( (first | (go_at_call 19; (with_reducible refine (cA.out _ (hS.preM (A := [_, _, _, _, _]) (B := dks _ _ _ _) (R := []))).mono ?_); rintro _ w8 ⟨rfl, wv8, hk8⟩; have hS1 := hS.callM (A := [_, _, _, _, _]) (B := dks _ _ _ _) (R := []) hk8; clear hS hk8; have hS := hS1; clear hS1; simp only [List.cons_append, List.nil_append] at hS) | (go_at_call 67; (with_reducible refine (cB.out _ (hS.preM (A := [_]) (B := [_, _, _]) (R := _))).mono ?_); rintro _ w9 ⟨rfl, sv9, wv9, hk9⟩; have hS1 := hS.callM (A := [_]) (B := [_, _, _]) (R := _) hk9; clear hS hk9; have hS := hS1; clear hS1; simp only [List.cons_append, List.nil_append] at hS)) )
    try clear hC
    refine hK.out _ _ _ (fun _ h => h) (by first | exact hS | exact hS.drop | exact hS.drop.drop | exact hS.drop.drop.drop | exact hS.drop.drop.drop.drop | exact hS.empty | exact hS.one 0 rfl | exact hS.one 1 rfl | exact hS.one 2 rfl | exact hS.one 3 rfl | exact hS.one 4 rfl | exact hS.one 5 rfl | exact hS.one 6 rfl | exact hS.one 7 rfl | exact hS.one 8 rfl | exact hS.one 9 rfl | exact hS.one 10 rfl | exact hS.one 11 rfl | exact hS.toPart (by simp)) (fun hC => ?_)
    clear hK K
    try simp only [List.getElem_toArray, List.getElem_cons_succ, List.getElem_cons_zero, Act.put, List.setIfInBounds_toArray, List.set_cons_zero, List.set_cons_succ]
    refine mixs_one 8 (by kernel_rfl) rfl (fun K hK => ?_)
    go_simp
    ( (first | (go_at_call 19; (with_reducible refine (cA.out _ (hS.preM (A := [_, _, _, _, _]) (B := dks _ _ _ _) (R := []))).mono ?_); rintro _ w8 ⟨rfl, wv8, hk8⟩; have hS1 := hS.callM (A := [_, _, _, _, _]) (B := dks _ _ _ _) (R := []) hk8; clear hS hk8; have hS := hS1; clear hS1; simp only [List.cons_append, List.nil_append] at hS) | (go_at_call 67; (with_reducible refine (cB.out _ (hS.preM (A := [_]) (B := [_, _, _]) (R := _))).mono ?_); rintro _ w9 ⟨rfl, sv9, wv9, hk9⟩; have hS1 := hS.callM (A := [_]) (B := [_, _, _]) (R := _) hk9; clear hS hk9; have hS := hS1; clear hS1; simp only [List.cons_append, List.nil_append] at hS)) )
    try clear hC
    refine hK.out _ _ _ (fun _ h => h) (by first | exact hS | exact hS.drop | exact hS.drop.drop | exact hS.drop.drop.drop | exact hS.drop.drop.drop.drop | exact hS.empty | exact hS.one 0 rfl | exact hS.one 1 rfl | exact hS.one 2 rfl | exact hS.one 3 rfl | exact hS.one 4 rfl | exact hS.one 5 rfl | exact hS.one 6 rfl | exact hS.one 7 rfl | exact hS.one 8 rfl | exact hS.one 9 rfl | exact hS.one 10 rfl | exact hS.one 11 rfl | exact hS.toPart (by simp)) (fun hC => ?_)
    clear hK K
    try simp only [List.getElem_toArray, List.getElem_cons_succ, List.getElem_cons_zero, Act.put, List.setIfInBounds_toArray, List.set_cons_zero, List.set_cons_succ]
    refine mixs_take 9 (v := ?_) rfl (by kernel_rfl) (fun _ _ _ h => h) (by kernel_rfl) (by assumption) (fun s => ?hy) ?_; case hy => (go_simp <;> with_reducible rfl)
    try simp only [List.getElem_toArray, List.getElem_cons_succ, List.getElem_cons_zero, Act.put, List.setIfInBounds_toArray, List.set_cons_zero, List.set_cons_succ]
    refine mixs_take 10 (v := ?_) rfl (by kernel_rfl) (fun _ _ _ h => h) (by kernel_rfl) (by assumption) (fun s => ?hy) ?_; case hy => (go_simp <;> with_reducible rfl)
    try simp only [List.getElem_toArray, List.getElem_cons_succ, List.getElem_cons_zero, Act.put, List.setIfInBounds_toArray, List.set_cons_zero, List.set_cons_succ]
    refine wpAnyH_done (by kernel_rfl) ?_ _
    exact ⟨wv8, sv9, wv9, rfl, hS⟩
  intro wv1 rsv1 rwv1 w7 hS
  go_wp2_with fail
  go_ret
  exact ⟨rfl, g2, sv, wv1, rsv1, rwv1, d1, r, hr, hF, by simpa [plays, rdp37, dks] using hS.drop⟩
theorem does37_2 (bd g g2 : Nat) (sv wv rsv rwv : Value) (d : Dk) (r : Rg) (size k : Nat) (n : Int) (s : ByteArray) (a : Option Addr) (nk kc : Nat) (c : UInt8) (w : World) (hD : St w (feet (plays g bd g2 sv wv rsv rwv d r)) (plays g bd g2 sv wv rsv rwv d r) w) (hr : r.Ok size) (hfit : d.Fit size k) (hs2 : size ≤ 1000) (hk : k ≤ 90000) (hn : -9223372036854775808 ≤ n ∧ n ≤ 9223372036854775807) :
    Calls Try.prog 50 #[.pointer (some ⟨g, 0, none⟩), .agg #[.int .i64 2, .int .i64 n, .string s, .slice a nk kc, vb c]] w fun e w' => e = .returned (.bool true) ∧ PlayTo w (feet (plays g bd g2 sv wv rsv rwv d r)) g bd size (k + 10) w' := by
  have h20 := tmod_bounds n 20 (by omega)
  have h3 := tmod_bounds n 3 (by omega)
  have hlf := hr.life
  have htl := hr.tail
  have htp := hr.top
  generalize ht20 : n.tmod 20 = m20 at *
  generalize ht3 : n.tmod 3 = m3 at *
  have w20 : IntKind.i64.wrap ((r.head : Int) + m20) = r.head + m20 := IntWalk.i64_in _ (by omega)
  have w3' : IntKind.i64.wrap ((r.life : Int) + m3) = r.life + m3 := IntWalk.i64_in _ (by omega)
  have hrO := (hr.move (r.head + m20)).raise (r.life + m3)
  have cM := fun W hh => rgmove_any g2 bd r (r.head + m20) W hh
  have cN := fun W hh => prmove_any (.pointer (some ⟨bd, 0, none⟩)) (.pointer (some ⟨g2, 0, none⟩)) g rsv rwv d r (r.head + m20) W hh
  have hl1 : 1 ≤ (r.move (r.head + m20)).1.life := ((hr.move (r.head + m20)).life).1
  have cA := fun W hh => rgraise_any g2 bd (r.move (r.head + m20)).1 (r.life + m3) W hh hl1
  have cB := fun W hh => prraise_any (.pointer (some ⟨bd, 0, none⟩)) (.pointer (some ⟨g2, 0, none⟩)) g rsv rwv d (r.move (r.head + m20)).1 (r.life + m3) W hh hl1
  have hF := hfit.mono (k' := k + 10) (by omega)
  obtain ⟨⟨r1, b1⟩, hres⟩ : ∃ z, r.move (r.head + m20) = z := ⟨_, rfl⟩
  rw [hres] at cM cN cA cB hrO
  simp only at cA cB hrO
  obtain ⟨⟨r2, b2⟩, hres2⟩ : ∃ z, r1.raise (r.life + m3) = z := ⟨_, rfl⟩
  rw [hres2] at cA cB hrO
  unfold rdp37 at cB cN
  simp only at cA cB cM cN hrO
  clear hres hres2 hr hfit hl1 h20 h3 hlf htl htp
  have e1 : (b1 == b1) = true := by simp
  have e2 : (b2 == b2) = true := by simp
  replace cA := Lib.hid cA
  replace cB := Lib.hid cB
  replace cM := Lib.hid cM
  replace cN := Lib.hid cN
  have hS : St w (feet (plays g bd g2 sv wv rsv rwv d r)) (plays g bd g2 sv wv rsv rwv d r ++ []) w := by rw [List.append_nil]; exact hD
  generalize feet (plays g bd g2 sv wv rsv rwv d r) = F at hS ⊢
  clear hD
  unfold plays rdp37 at hS
  simp only [List.cons_append, List.nil_append] at hS
  go_enter Try.func50, Try.ntmps50
  go_wp2_with (first
    | ((with_reducible refine wpList_box_st hS rfl rfl rfl ?_); intro g3 w1 hS1; clear hS; have hS := hS1; clear hS1)
    | (with_reducible refine wpList_box_st hS rfl rfl rfl ?_; intro g1 w1 hS1; clear hS; replace hS := hS1; clear hS1) | (with_reducible refine wpList_box1_st hS rfl rfl rfl ?_; intro g1 w1 hS1; clear hS; replace hS := hS1; clear hS1) | (with_reducible refine wpList_alloc_st hS rfl rfl (by assumption) ?_; intro g1 w1 hS1; clear hS; replace hS := hS1; clear hS1) | (with_reducible refine wpList_alloc1_st hS rfl rfl (by assumption) rfl ?_; intro g1 w1 hS1; clear hS; replace hS := hS1; clear hS1) | ((with_reducible refine wpList_load_st 0 hS rfl rfl rfl rfl ?_ rfl ?_); focus (simp [scalarB, go_sem]; done)) | ((with_reducible refine wpList_loadall_st 0 hS rfl rfl rfl rfl ?_ (by kernel_rfl) ?_); focus (simp [rowB, go_sem]; done)) | ((with_reducible refine wpList_store_st 0 hS rfl rfl rfl rfl (by kernel_rfl) rfl rfl ?_); intro w1 hS1; clear hS; replace hS := hS1; clear hS1; try simp only [List.set_cons_zero, List.set_cons_succ, List.setIfInBounds_toArray, List.take_succ_cons, List.take_zero, List.drop_succ_cons, List.drop_zero, List.nil_append, List.cons_append, List.append_nil, List.drop_nil, List.take_nil, List.length_cons, List.length_nil, Nat.zero_add, Nat.add_zero, Nat.reduceAdd] at hS) | ((with_reducible refine wpList_storerow_st 0 hS rfl rfl rfl rfl (by kernel_rfl) rfl rfl rfl rfl ?_); intro w1 hS1; clear hS; replace hS := hS1; clear hS1; try simp only [List.set_cons_zero, List.set_cons_succ, List.setIfInBounds_toArray, List.take_succ_cons, List.take_zero, List.drop_succ_cons, List.drop_zero, List.nil_append, List.cons_append, List.append_nil, List.drop_nil, List.take_nil, List.length_cons, List.length_nil, Nat.zero_add, Nat.add_zero, Nat.reduceAdd] at hS))
  revert hS
  apply wp_cut0
  · intro hS
    have k0 := hS.kblk 0 rfl
    have k1 := hS.kblk 1 rfl
    refine mixs_begin (by kernel_rfl) hS ?_
    clear hS
    intro w6 hS
    refine mixs_take 0 (v := ?_) rfl (by kernel_rfl) (fun _ _ _ h => h) (by kernel_rfl) (by assumption) (fun s => ?hy) ?_; case hy => (go_simp <;> with_reducible rfl)
    try simp only [List.getElem_toArray, List.getElem_cons_succ, List.getElem_cons_zero, Act.put, List.setIfInBounds_toArray, List.set_cons_zero, List.set_cons_succ]
    refine mixs_take 1 (v := ?_) rfl (by kernel_rfl) (fun _ _ _ h => h) (by kernel_rfl) (by assumption) (fun s => ?hy) ?_; case hy => (go_simp <;> with_reducible rfl)
    try simp only [List.getElem_toArray, List.getElem_cons_succ, List.getElem_cons_zero, Act.put, List.setIfInBounds_toArray, List.set_cons_zero, List.set_cons_succ]
    refine mixs_take 2 (v := ?_) rfl (by kernel_rfl) (fun _ _ _ h => h) (by kernel_rfl) (by assumption) (fun s => ?hy) ?_; case hy => (go_simp <;> with_reducible rfl)
    try simp only [List.getElem_toArray, List.getElem_cons_succ, List.getElem_cons_zero, Act.put, List.setIfInBounds_toArray, List.set_cons_zero, List.set_cons_succ]
    refine mixs_take 3 (v := ?_) rfl (by kernel_rfl) (fun _ _ _ h => h) (by kernel_rfl) (by assumption) (fun s => ?hy) ?_; case hy => (go_simp <;> with_reducible rfl)
    try simp only [List.getElem_toArray, List.getElem_cons_succ, List.getElem_cons_zero, Act.put, List.setIfInBounds_toArray, List.set_cons_zero, List.set_cons_succ]
    refine mixs_take 4 (v := ?_) rfl (by kernel_rfl) (fun _ _ _ h => h) (by kernel_rfl) (by assumption) (fun s => ?hy) ?_; case hy => (go_simp <;> with_reducible rfl)
    try simp only [List.getElem_toArray, List.getElem_cons_succ, List.getElem_cons_zero, Act.put, List.setIfInBounds_toArray, List.set_cons_zero, List.set_cons_succ]
    refine mixs_take 5 (v := ?_) rfl (by kernel_rfl) (fun _ _ _ h => h) (by kernel_rfl) (by assumption) (fun s => ?hy) ?_; case hy => (go_simp <;> with_reducible rfl)
    try simp only [List.getElem_toArray, List.getElem_cons_succ, List.getElem_cons_zero, Act.put, List.setIfInBounds_toArray, List.set_cons_zero, List.set_cons_succ]
    refine mixs_take 6 (v := ?_) rfl (by kernel_rfl) (fun _ _ _ h => h) (by kernel_rfl) (by assumption) (fun s => ?hy) ?_; case hy => (go_simp <;> with_reducible rfl)
    try simp only [List.getElem_toArray, List.getElem_cons_succ, List.getElem_cons_zero, Act.put, List.setIfInBounds_toArray, List.set_cons_zero, List.set_cons_succ]
    refine mixs_take 7 (v := ?_) rfl (by kernel_rfl) (fun _ _ _ h => h) (by kernel_rfl) (by assumption) (fun s => ?hy) ?_; case hy => (go_simp <;> with_reducible rfl)
    try simp only [List.getElem_toArray, List.getElem_cons_succ, List.getElem_cons_zero, Act.put, List.setIfInBounds_toArray, List.set_cons_zero, List.set_cons_succ]
    refine mixs_take 8 (v := ?_) rfl (by kernel_rfl) (fun _ _ _ h => h) (by kernel_rfl) (by assumption) (fun s => ?hy) ?_; case hy => (go_simp <;> with_reducible rfl)
    try simp only [List.getElem_toArray, List.getElem_cons_succ, List.getElem_cons_zero, Act.put, List.setIfInBounds_toArray, List.set_cons_zero, List.set_cons_succ]
    refine mixs_take 9 (v := ?_) rfl (by kernel_rfl) (fun _ _ _ h => h) (by kernel_rfl) (by assumption) (fun s => ?hy) ?_; case hy => (go_simp <;> with_reducible rfl)
    try simp only [List.getElem_toArray, List.getElem_cons_succ, List.getElem_cons_zero, Act.put, List.setIfInBounds_toArray, List.set_cons_zero, List.set_cons_succ]
    refine mixs_take 10 (v := ?_) rfl (by kernel_rfl) (fun _ _ _ h => h) (by kernel_rfl) (by assumption) (fun s => ?hy) ?_; case hy => (go_simp <;> with_reducible rfl)
    try simp only [List.getElem_toArray, List.getElem_cons_succ, List.getElem_cons_zero, Act.put, List.setIfInBounds_toArray, List.set_cons_zero, List.set_cons_succ]
    refine wpAnyH_done (by kernel_rfl) ?_ _
    exact ⟨rfl, hS⟩
  intro w7 hS
  go_wp2_with fail
  revert hS
  apply wp_cut0
  · intro hS
    have k0 := hS.kblk 0 rfl
    have k1 := hS.kblk 1 rfl
    refine mixs_begin (by kernel_rfl) hS ?_
    clear hS
    intro w6 hS
    refine mixs_take 0 (v := ?_) rfl (by kernel_rfl) (fun _ _ _ h => h) (by kernel_rfl) (by assumption) (fun s => ?hy) ?_; case hy => (go_simp <;> with_reducible rfl)
    try simp only [List.getElem_toArray, List.getElem_cons_succ, List.getElem_cons_zero, Act.put, List.setIfInBounds_toArray, List.set_cons_zero, List.set_cons_succ]
    refine mixs_take 1 (v := ?_) rfl (by kernel_rfl) (fun _ _ _ h => h) (by kernel_rfl) (by assumption) (fun s => ?hy) ?_; case hy => (go_simp <;> with_reducible rfl)
    try simp only [List.getElem_toArray, List.getElem_cons_succ, List.getElem_cons_zero, Act.put, List.setIfInBounds_toArray, List.set_cons_zero, List.set_cons_succ]
    refine mixs_take 2 (v := ?_) rfl (by kernel_rfl) (fun _ _ _ h => h) (by kernel_rfl) (by assumption) (fun s => ?hy) ?_; case hy => (go_simp <;> with_reducible rfl)
    try simp only [List.getElem_toArray, List.getElem_cons_succ, List.getElem_cons_zero, Act.put, List.setIfInBounds_toArray, List.set_cons_zero, List.set_cons_succ]
    refine mixs_take 3 (v := ?_) rfl (by kernel_rfl) (fun _ _ _ h => h) (by kernel_rfl) (by assumption) (fun s => ?hy) ?_; case hy => (go_simp <;> with_reducible rfl)
    try simp only [List.getElem_toArray, List.getElem_cons_succ, List.getElem_cons_zero, Act.put, List.setIfInBounds_toArray, List.set_cons_zero, List.set_cons_succ]
    refine mixs_take 4 (v := ?_) rfl (by kernel_rfl) (fun _ _ _ h => h) (by kernel_rfl) (by assumption) (fun s => ?hy) ?_; case hy => (go_simp <;> with_reducible rfl)
    try simp only [List.getElem_toArray, List.getElem_cons_succ, List.getElem_cons_zero, Act.put, List.setIfInBounds_toArray, List.set_cons_zero, List.set_cons_succ]
    refine mixs_take 5 (v := ?_) rfl (by kernel_rfl) (fun _ _ _ h => h) (by kernel_rfl) (by assumption) (fun s => ?hy) ?_; case hy => (go_simp <;> with_reducible rfl)
    try simp only [List.getElem_toArray, List.getElem_cons_succ, List.getElem_cons_zero, Act.put, List.setIfInBounds_toArray, List.set_cons_zero, List.set_cons_succ]
    refine mixs_take 6 (v := ?_) rfl (by kernel_rfl) (fun _ _ _ h => h) (by kernel_rfl) (by assumption) (fun s => ?hy) ?_; case hy => (go_simp <;> with_reducible rfl)
    try simp only [List.getElem_toArray, List.getElem_cons_succ, List.getElem_cons_zero, Act.put, List.setIfInBounds_toArray, List.set_cons_zero, List.set_cons_succ]
    refine mixs_take 7 (v := ?_) rfl (by kernel_rfl) (fun _ _ _ h => h) (by kernel_rfl) (by assumption) (fun s => ?hy) ?_; case hy => (go_simp <;> with_reducible rfl)
    try simp only [List.getElem_toArray, List.getElem_cons_succ, List.getElem_cons_zero, Act.put, List.setIfInBounds_toArray, List.set_cons_zero, List.set_cons_succ]
    refine mixs_take 8 (v := ?_) rfl (by kernel_rfl) (fun _ _ _ h => h) (by kernel_rfl) (by assumption) (fun s => ?hy) ?_; case hy => (go_simp <;> with_reducible rfl)
    try simp only [List.getElem_toArray, List.getElem_cons_succ, List.getElem_cons_zero, Act.put, List.setIfInBounds_toArray, List.set_cons_zero, List.set_cons_succ]
    refine mixs_take 9 (v := ?_) rfl (by kernel_rfl) (fun _ _ _ h => h) (by kernel_rfl) (by assumption) (fun s => ?hy) ?_; case hy => (go_simp <;> with_reducible rfl)
    try simp only [List.getElem_toArray, List.getElem_cons_succ, List.getElem_cons_zero, Act.put, List.setIfInBounds_toArray, List.set_cons_zero, List.set_cons_succ]
    refine mixs_take 10 (v := ?_) rfl (by kernel_rfl) (fun _ _ _ h => h) (by kernel_rfl) (by assumption) (fun s => ?hy) ?_; case hy => (go_simp <;> with_reducible rfl)
    try simp only [List.getElem_toArray, List.getElem_cons_succ, List.getElem_cons_zero, Act.put, List.setIfInBounds_toArray, List.set_cons_zero, List.set_cons_succ]
    refine wpAnyH_done (by kernel_rfl) ?_ _
    exact ⟨rfl, hS⟩
  intro w8 hS
  go_wp2_with fail
  revert hS
  apply wp_cut0
  · intro hS
    refine mixs_beginP [(0, .pointer (some ⟨bd, 0, none⟩)), (1, .pointer (some ⟨g2, 0, none⟩))] (by kernel_rfl) hS (by simp) ?_
    clear hS
    intro w6 hS hC
    have kC := hC.kblk 0 rfl
    have kC1 := hC.kpart 1 rfl (0, .pointer (some ⟨bd, 0, none⟩)) (by simp)
    have kC2 := hC.kpart 1 rfl (1, .pointer (some ⟨g2, 0, none⟩)) (by simp)
    simp only at kC1 kC2
    refine mixs_take 0 (v := ?_) rfl (by kernel_rfl) (fun _ _ _ h => h) (by kernel_rfl) (by assumption) (fun s => ?hy) ?_; case hy => (go_simp <;> with_reducible rfl)
    try simp only [List.getElem_toArray, List.getElem_cons_succ, List.getElem_cons_zero, Act.put, List.setIfInBounds_toArray, List.set_cons_zero, List.set_cons_succ]
    refine mixs_take 1 (v := ?_) rfl (by kernel_rfl) (fun _ _ _ h => h) (by kernel_rfl) (by assumption) (fun s => ?hy) ?_; case hy => (go_simp <;> with_reducible rfl)
    try simp only [List.getElem_toArray, List.getElem_cons_succ, List.getElem_cons_zero, Act.put, List.setIfInBounds_toArray, List.set_cons_zero, List.set_cons_succ]
    refine mixs_take 2 (v := ?_) rfl (by kernel_rfl) (fun _ _ _ h => h) (by kernel_rfl) (by assumption) (fun s => ?hy) ?_; case hy => (go_simp <;> with_reducible rfl)
    try simp only [List.getElem_toArray, List.getElem_cons_succ, List.getElem_cons_zero, Act.put, List.setIfInBounds_toArray, List.set_cons_zero, List.set_cons_succ]
    refine mixs_take 3 (v := ?_) rfl (by kernel_rfl) (fun _ _ _ h => h) (by kernel_rfl) (by assumption) (fun s => ?hy) ?_; case hy => (go_simp <;> with_reducible rfl)
    try simp only [List.getElem_toArray, List.getElem_cons_succ, List.getElem_cons_zero, Act.put, List.setIfInBounds_toArray, List.set_cons_zero, List.set_cons_succ]
    refine mixs_take 4 (v := ?_) rfl (by kernel_rfl) (fun _ _ _ h => h) (by kernel_rfl) (by assumption) (fun s => ?hy) ?_; case hy => (go_simp <;> with_reducible rfl)
    try simp only [List.getElem_toArray, List.getElem_cons_succ, List.getElem_cons_zero, Act.put, List.setIfInBounds_toArray, List.set_cons_zero, List.set_cons_succ]
    refine mixs_take 6 (v := ?_) rfl (by kernel_rfl) (fun _ _ _ h => h) (by kernel_rfl) (by assumption) (fun s => ?hy) ?_; case hy => (go_simp <;> with_reducible rfl)
    try simp only [List.getElem_toArray, List.getElem_cons_succ, List.getElem_cons_zero, Act.put, List.setIfInBounds_toArray, List.set_cons_zero, List.set_cons_succ]
    refine mixs_take 7 (v := ?_) rfl (by kernel_rfl) (fun _ _ _ h => h) (by kernel_rfl) (by assumption) (fun s => ?hy) ?_; case hy => (go_simp <;> with_reducible rfl)
    try simp only [List.getElem_toArray, List.getElem_cons_succ, List.getElem_cons_zero, Act.put, List.setIfInBounds_toArray, List.set_cons_zero, List.set_cons_succ]
    refine mixs_take 8 (v := ?_) rfl (by kernel_rfl) (fun _ _ _ h => h) (by kernel_rfl) (by assumption) (fun s => ?hy) ?_; case hy => (go_simp <;> with_reducible rfl)
    try simp only [List.getElem_toArray, List.getElem_cons_succ, List.getElem_cons_zero, Act.put, List.setIfInBounds_toArray, List.set_cons_zero, List.set_cons_succ]
    refine mixs_take 9 (v := ?_) rfl (by kernel_rfl) (fun _ _ _ h => h) (by kernel_rfl) (by assumption) (fun s => ?hy) ?_; case hy => (go_simp <;> with_reducible rfl)
    try simp only [List.getElem_toArray, List.getElem_cons_succ, List.getElem_cons_zero, Act.put, List.setIfInBounds_toArray, List.set_cons_zero, List.set_cons_succ]
    refine mixs_one 5 (by kernel_rfl) rfl (fun K hK => ?_)
    go_simp
    ( (first | (go_at_call 55; (with_reducible refine (cM.out _ (hS.preM (A := [_, _, _, _]) (B := [_]) (R := _))).mono ?_); rintro _ w8 ⟨rfl, hk8⟩; have hS1 := hS.callM (A := [_, _, _, _]) (B := [_]) (R := _) hk8; clear hS hk8; have hS := hS1; clear hS1; simp only [List.cons_append, List.nil_append] at hS) | (go_at_call 56; (with_reducible refine (cA.out _ (hS.preM (A := [_, _, _, _]) (B := [_]) (R := _))).mono ?_); rintro _ w8 ⟨rfl, hk8⟩; have hS1 := hS.callM (A := [_, _, _, _]) (B := [_]) (R := _) hk8; clear hS hk8; have hS := hS1; clear hS1; simp only [List.cons_append, List.nil_append] at hS) | (go_at_call 91; (with_reducible refine (cN.out _ (hS.preM (A := [_]) (B := [_, _, _]) (R := _))).mono ?_); rintro _ w9 ⟨rfl, hk9⟩; have hS1 := hS.callM (A := [_]) (B := [_, _, _]) (R := _) hk9; clear hS hk9; have hS := hS1; clear hS1; simp only [List.cons_append, List.nil_append] at hS) | (go_at_call 92; (with_reducible refine (cB.out _ (hS.preM (A := [_]) (B := [_, _, _]) (R := _))).mono ?_); rintro _ w9 ⟨rfl, hk9⟩; have hS1 := hS.callM (A := [_]) (B := [_, _, _]) (R := _) hk9; clear hS hk9; have hS := hS1; clear hS1; simp only [List.cons_append, List.nil_append] at hS)) )
    try clear hC
    refine hK.out _ _ _ (fun _ h => h) (by first | exact hS | exact hS.drop | exact hS.drop.drop | exact hS.drop.drop.drop | exact hS.drop.drop.drop.drop | exact hS.empty | exact hS.one 0 rfl | exact hS.one 1 rfl | exact hS.one 2 rfl | exact hS.one 3 rfl | exact hS.one 4 rfl | exact hS.one 5 rfl | exact hS.one 6 rfl | exact hS.one 7 rfl | exact hS.one 8 rfl | exact hS.one 9 rfl | exact hS.one 10 rfl | exact hS.one 11 rfl | exact hS.toPart (by simp)) (fun hC => ?_)
    clear hK K
    try simp only [List.getElem_toArray, List.getElem_cons_succ, List.getElem_cons_zero, Act.put, List.setIfInBounds_toArray, List.set_cons_zero, List.set_cons_succ]
    refine mixs_one 10 (by kernel_rfl) rfl (fun K hK => ?_)
    go_simp
    ( (first | (go_at_call 55; (with_reducible refine (cM.out _ (hS.preM (A := [_, _, _, _]) (B := [_]) (R := _))).mono ?_); rintro _ w8 ⟨rfl, hk8⟩; have hS1 := hS.callM (A := [_, _, _, _]) (B := [_]) (R := _) hk8; clear hS hk8; have hS := hS1; clear hS1; simp only [List.cons_append, List.nil_append] at hS) | (go_at_call 56; (with_reducible refine (cA.out _ (hS.preM (A := [_, _, _, _]) (B := [_]) (R := _))).mono ?_); rintro _ w8 ⟨rfl, hk8⟩; have hS1 := hS.callM (A := [_, _, _, _]) (B := [_]) (R := _) hk8; clear hS hk8; have hS := hS1; clear hS1; simp only [List.cons_append, List.nil_append] at hS) | (go_at_call 91; (with_reducible refine (cN.out _ (hS.preM (A := [_]) (B := [_, _, _]) (R := _))).mono ?_); rintro _ w9 ⟨rfl, hk9⟩; have hS1 := hS.callM (A := [_]) (B := [_, _, _]) (R := _) hk9; clear hS hk9; have hS := hS1; clear hS1; simp only [List.cons_append, List.nil_append] at hS) | (go_at_call 92; (with_reducible refine (cB.out _ (hS.preM (A := [_]) (B := [_, _, _]) (R := _))).mono ?_); rintro _ w9 ⟨rfl, hk9⟩; have hS1 := hS.callM (A := [_]) (B := [_, _, _]) (R := _) hk9; clear hS hk9; have hS := hS1; clear hS1; simp only [List.cons_append, List.nil_append] at hS)) )
    try clear hC
    refine hK.out _ _ _ (fun _ h => h) (by first | exact hS | exact hS.drop | exact hS.drop.drop | exact hS.drop.drop.drop | exact hS.drop.drop.drop.drop | exact hS.empty | exact hS.one 0 rfl | exact hS.one 1 rfl | exact hS.one 2 rfl | exact hS.one 3 rfl | exact hS.one 4 rfl | exact hS.one 5 rfl | exact hS.one 6 rfl | exact hS.one 7 rfl | exact hS.one 8 rfl | exact hS.one 9 rfl | exact hS.one 10 rfl | exact hS.one 11 rfl | exact hS.toPart (by simp)) (fun hC => ?_)
    clear hK K
    try simp only [List.getElem_toArray, List.getElem_cons_succ, List.getElem_cons_zero, Act.put, List.setIfInBounds_toArray, List.set_cons_zero, List.set_cons_succ]
    refine mixs_take 11 (v := ?_) rfl (by kernel_rfl) (fun _ _ _ h => h) (by kernel_rfl) (by assumption) (fun s => ?hy) ?_; case hy => (go_simp <;> with_reducible rfl)
    try simp only [List.getElem_toArray, List.getElem_cons_succ, List.getElem_cons_zero, Act.put, List.setIfInBounds_toArray, List.set_cons_zero, List.set_cons_succ]
    refine mixs_take 12 (v := ?_) rfl (by kernel_rfl) (fun _ _ _ h => h) (by kernel_rfl) (by assumption) (fun s => ?hy) ?_; case hy => (go_simp <;> with_reducible rfl)
    try simp only [List.getElem_toArray, List.getElem_cons_succ, List.getElem_cons_zero, Act.put, List.setIfInBounds_toArray, List.set_cons_zero, List.set_cons_succ]
    refine mixs_take 13 (v := ?_) rfl (by kernel_rfl) (fun _ _ _ h => h) (by kernel_rfl) (by assumption) (fun s => ?hy) ?_; case hy => (go_simp <;> with_reducible rfl)
    try simp only [List.getElem_toArray, List.getElem_cons_succ, List.getElem_cons_zero, Act.put, List.setIfInBounds_toArray, List.set_cons_zero, List.set_cons_succ]
    refine mixs_take 14 (v := ?_) rfl (by kernel_rfl) (fun _ _ _ h => h) (by kernel_rfl) (by assumption) (fun s => ?hy) ?_; case hy => (go_simp <;> with_reducible rfl)
    try simp only [List.getElem_toArray, List.getElem_cons_succ, List.getElem_cons_zero, Act.put, List.setIfInBounds_toArray, List.set_cons_zero, List.set_cons_succ]
    refine mixs_take 15 (v := ?_) rfl (by kernel_rfl) (fun _ _ _ h => h) (by kernel_rfl) (by assumption) (fun s => ?hy) ?_; case hy => (go_simp <;> with_reducible rfl)
    try simp only [List.getElem_toArray, List.getElem_cons_succ, List.getElem_cons_zero, Act.put, List.setIfInBounds_toArray, List.set_cons_zero, List.set_cons_succ]
    refine mixs_take 16 (v := ?_) rfl (by kernel_rfl) (fun _ _ _ h => h) (by kernel_rfl) (by assumption) (fun s => ?hy) ?_; case hy => (go_simp <;> with_reducible rfl)
    try simp only [List.getElem_toArray, List.getElem_cons_succ, List.getElem_cons_zero, Act.put, List.setIfInBounds_toArray, List.set_cons_zero, List.set_cons_succ]
    refine mixs_take 17 (v := ?_) rfl (by kernel_rfl) (fun _ _ _ h => h) (by kernel_rfl) (by assumption) (fun s => ?hy) ?_; case hy => (go_simp <;> with_reducible rfl)
    try simp only [List.getElem_toArray, List.getElem_cons_succ, List.getElem_cons_zero, Act.put, List.setIfInBounds_toArray, List.set_cons_zero, List.set_cons_succ]
    refine mixs_take 19 (v := ?_) rfl (by kernel_rfl) (fun _ _ _ h => h) (by kernel_rfl) (by assumption) (fun s => ?hy) ?_; case hy => (go_simp <;> with_reducible rfl)
    try simp only [List.getElem_toArray, List.getElem_cons_succ, List.getElem_cons_zero, Act.put, List.setIfInBounds_toArray, List.set_cons_zero, List.set_cons_succ]
    refine mixs_take 20 (v := ?_) rfl (by kernel_rfl) (fun _ _ _ h => h) (by kernel_rfl) (by assumption) (fun s => ?hy) ?_; case hy => (go_simp <;> with_reducible rfl)
    try simp only [List.getElem_toArray, List.getElem_cons_succ, List.getElem_cons_zero, Act.put, List.setIfInBounds_toArray, List.set_cons_zero, List.set_cons_succ]
    refine mixs_take 21 (v := ?_) rfl (by kernel_rfl) (fun _ _ _ h => h) (by kernel_rfl) (by assumption) (fun s => ?hy) ?_; case hy => (go_simp <;> with_reducible rfl)
    try simp only [List.getElem_toArray, List.getElem_cons_succ, List.getElem_cons_zero, Act.put, List.setIfInBounds_toArray, List.set_cons_zero, List.set_cons_succ]
    refine mixs_take 22 (v := ?_) rfl (by kernel_rfl) (fun _ _ _ h => h) (by kernel_rfl) (by assumption) (fun s => ?hy) ?_; case hy => (go_simp <;> with_reducible rfl)
    try simp only [List.getElem_toArray, List.getElem_cons_succ, List.getElem_cons_zero, Act.put, List.setIfInBounds_toArray, List.set_cons_zero, List.set_cons_succ]
    refine mixs_one 18 (by kernel_rfl) rfl (fun K hK => ?_)
    go_simp
    ( (first | (go_at_call 55; (with_reducible refine (cM.out _ (hS.preM (A := [_, _, _, _]) (B := [_]) (R := _))).mono ?_); rintro _ w8 ⟨rfl, hk8⟩; have hS1 := hS.callM (A := [_, _, _, _]) (B := [_]) (R := _) hk8; clear hS hk8; have hS := hS1; clear hS1; simp only [List.cons_append, List.nil_append] at hS) | (go_at_call 56; (with_reducible refine (cA.out _ (hS.preM (A := [_, _, _, _]) (B := [_]) (R := _))).mono ?_); rintro _ w8 ⟨rfl, hk8⟩; have hS1 := hS.callM (A := [_, _, _, _]) (B := [_]) (R := _) hk8; clear hS hk8; have hS := hS1; clear hS1; simp only [List.cons_append, List.nil_append] at hS) | (go_at_call 91; (with_reducible refine (cN.out _ (hS.preM (A := [_]) (B := [_, _, _]) (R := _))).mono ?_); rintro _ w9 ⟨rfl, hk9⟩; have hS1 := hS.callM (A := [_]) (B := [_, _, _]) (R := _) hk9; clear hS hk9; have hS := hS1; clear hS1; simp only [List.cons_append, List.nil_append] at hS) | (go_at_call 92; (with_reducible refine (cB.out _ (hS.preM (A := [_]) (B := [_, _, _]) (R := _))).mono ?_); rintro _ w9 ⟨rfl, hk9⟩; have hS1 := hS.callM (A := [_]) (B := [_, _, _]) (R := _) hk9; clear hS hk9; have hS := hS1; clear hS1; simp only [List.cons_append, List.nil_append] at hS)) )
    try clear hC
    refine hK.out _ _ _ (fun _ h => h) (by first | exact hS | exact hS.drop | exact hS.drop.drop | exact hS.drop.drop.drop | exact hS.drop.drop.drop.drop | exact hS.empty | exact hS.one 0 rfl | exact hS.one 1 rfl | exact hS.one 2 rfl | exact hS.one 3 rfl | exact hS.one 4 rfl | exact hS.one 5 rfl | exact hS.one 6 rfl | exact hS.one 7 rfl | exact hS.one 8 rfl | exact hS.one 9 rfl | exact hS.one 10 rfl | exact hS.one 11 rfl | exact hS.toPart (by simp)) (fun hC => ?_)
    clear hK K
    try simp only [List.getElem_toArray, List.getElem_cons_succ, List.getElem_cons_zero, Act.put, List.setIfInBounds_toArray, List.set_cons_zero, List.set_cons_succ]
    refine mixs_one 23 (by kernel_rfl) rfl (fun K hK => ?_)
    go_simp
    ( (first | (go_at_call 55; (with_reducible refine (cM.out _ (hS.preM (A := [_, _, _, _]) (B := [_]) (R := _))).mono ?_); rintro _ w8 ⟨rfl, hk8⟩; have hS1 := hS.callM (A := [_, _, _, _]) (B := [_]) (R := _) hk8; clear hS hk8; have hS := hS1; clear hS1; simp only [List.cons_append, List.nil_append] at hS) | (go_at_call 56; (with_reducible refine (cA.out _ (hS.preM (A := [_, _, _, _]) (B := [_]) (R := _))).mono ?_); rintro _ w8 ⟨rfl, hk8⟩; have hS1 := hS.callM (A := [_, _, _, _]) (B := [_]) (R := _) hk8; clear hS hk8; have hS := hS1; clear hS1; simp only [List.cons_append, List.nil_append] at hS) | (go_at_call 91; (with_reducible refine (cN.out _ (hS.preM (A := [_]) (B := [_, _, _]) (R := _))).mono ?_); rintro _ w9 ⟨rfl, hk9⟩; have hS1 := hS.callM (A := [_]) (B := [_, _, _]) (R := _) hk9; clear hS hk9; have hS := hS1; clear hS1; simp only [List.cons_append, List.nil_append] at hS) | (go_at_call 92; (with_reducible refine (cB.out _ (hS.preM (A := [_]) (B := [_, _, _]) (R := _))).mono ?_); rintro _ w9 ⟨rfl, hk9⟩; have hS1 := hS.callM (A := [_]) (B := [_, _, _]) (R := _) hk9; clear hS hk9; have hS := hS1; clear hS1; simp only [List.cons_append, List.nil_append] at hS)) )
    try clear hC
    refine hK.out _ _ _ (fun _ h => h) (by first | exact hS | exact hS.drop | exact hS.drop.drop | exact hS.drop.drop.drop | exact hS.drop.drop.drop.drop | exact hS.empty | exact hS.one 0 rfl | exact hS.one 1 rfl | exact hS.one 2 rfl | exact hS.one 3 rfl | exact hS.one 4 rfl | exact hS.one 5 rfl | exact hS.one 6 rfl | exact hS.one 7 rfl | exact hS.one 8 rfl | exact hS.one 9 rfl | exact hS.one 10 rfl | exact hS.one 11 rfl | exact hS.toPart (by simp)) (fun hC => ?_)
    clear hK K
    try simp only [List.getElem_toArray, List.getElem_cons_succ, List.getElem_cons_zero, Act.put, List.setIfInBounds_toArray, List.set_cons_zero, List.set_cons_succ]
    refine mixs_take 24 (v := ?_) rfl (by kernel_rfl) (fun _ _ _ h => h) (by kernel_rfl) (by assumption) (fun s => ?hy) ?_; case hy => (go_simp <;> with_reducible rfl)
    try simp only [List.getElem_toArray, List.getElem_cons_succ, List.getElem_cons_zero, Act.put, List.setIfInBounds_toArray, List.set_cons_zero, List.set_cons_succ]
    refine mixs_take 25 (v := ?_) rfl (by kernel_rfl) (fun _ _ _ h => h) (by kernel_rfl) (by assumption) (fun s => ?hy) ?_; case hy => (go_simp <;> with_reducible rfl)
    try simp only [List.getElem_toArray, List.getElem_cons_succ, List.getElem_cons_zero, Act.put, List.setIfInBounds_toArray, List.set_cons_zero, List.set_cons_succ]
    refine mixs_take 26 (v := ?_) rfl (by kernel_rfl) (fun _ _ _ h => h) (by kernel_rfl) (by assumption) (fun s => ?hy) ?_; case hy => (go_simp <;> with_reducible rfl)
    try simp only [List.getElem_toArray, List.getElem_cons_succ, List.getElem_cons_zero, Act.put, List.setIfInBounds_toArray, List.set_cons_zero, List.set_cons_succ]
    refine wpAnyH_done (by kernel_rfl) ?_ _
    exact ⟨rfl, hS⟩
  intro w9 hS
  go_wp2_with fail
  go_ret
  exact ⟨rfl, g2, sv, wv, rsv, rwv, d, r2, hrO, hF, by simpa [plays, rdp37, dks] using hS.drop⟩
theorem does37_3 (bd g g2 : Nat) (sv wv rsv rwv : Value) (d : Dk) (r : Rg) (size k : Nat) (n : Int) (s : ByteArray) (a : Option Addr) (nk kc : Nat) (c : UInt8) (w : World) (hD : St w (feet (plays g bd g2 sv wv rsv rwv d r)) (plays g bd g2 sv wv rsv rwv d r) w) (hr : r.Ok size) (hfit : d.Fit size k) (hs2 : size ≤ 1000) (hk : k ≤ 90000) (hn : -9223372036854775808 ≤ n ∧ n ≤ 9223372036854775807) :
    Calls Try.prog 50 #[.pointer (some ⟨g, 0, none⟩), .agg #[.int .i64 3, .int .i64 n, .string s, .slice a nk kc, vb c]] w fun e w' => e = .returned (.bool true) ∧ PlayTo w (feet (plays g bd g2 sv wv rsv rwv d r)) g bd size (k + 10) w' := by
  have cA := fun W hh => fuse_any bd sv wv d n W hh
  have hF := (hfit.fused n hn).mono (k' := k + 10) (by omega)
  clear hfit
  replace cA := Lib.hid cA
  have hS : St w (feet (plays g bd g2 sv wv rsv rwv d r)) (plays g bd g2 sv wv rsv rwv d r ++ []) w := by rw [List.append_nil]; exact hD
  generalize feet (plays g bd g2 sv wv rsv rwv d r) = F at hS ⊢
  clear hD
  unfold plays rdp37 at hS
  simp only [List.cons_append, List.nil_append] at hS
  go_enter Try.func50, Try.ntmps50
  go_wp2_with (first
    | ((with_reducible refine wpList_box_st hS rfl rfl rfl ?_); intro g3 w1 hS1; clear hS; have hS := hS1; clear hS1)
    | (with_reducible refine wpList_box_st hS rfl rfl rfl ?_; intro g1 w1 hS1; clear hS; replace hS := hS1; clear hS1) | (with_reducible refine wpList_box1_st hS rfl rfl rfl ?_; intro g1 w1 hS1; clear hS; replace hS := hS1; clear hS1) | (with_reducible refine wpList_alloc_st hS rfl rfl (by assumption) ?_; intro g1 w1 hS1; clear hS; replace hS := hS1; clear hS1) | (with_reducible refine wpList_alloc1_st hS rfl rfl (by assumption) rfl ?_; intro g1 w1 hS1; clear hS; replace hS := hS1; clear hS1) | ((with_reducible refine wpList_load_st 0 hS rfl rfl rfl rfl ?_ rfl ?_); focus (simp [scalarB, go_sem]; done)) | ((with_reducible refine wpList_loadall_st 0 hS rfl rfl rfl rfl ?_ (by kernel_rfl) ?_); focus (simp [rowB, go_sem]; done)) | ((with_reducible refine wpList_store_st 0 hS rfl rfl rfl rfl (by kernel_rfl) rfl rfl ?_); intro w1 hS1; clear hS; replace hS := hS1; clear hS1; try simp only [List.set_cons_zero, List.set_cons_succ, List.setIfInBounds_toArray, List.take_succ_cons, List.take_zero, List.drop_succ_cons, List.drop_zero, List.nil_append, List.cons_append, List.append_nil, List.drop_nil, List.take_nil, List.length_cons, List.length_nil, Nat.zero_add, Nat.add_zero, Nat.reduceAdd] at hS) | ((with_reducible refine wpList_storerow_st 0 hS rfl rfl rfl rfl (by kernel_rfl) rfl rfl rfl rfl ?_); intro w1 hS1; clear hS; replace hS := hS1; clear hS1; try simp only [List.set_cons_zero, List.set_cons_succ, List.setIfInBounds_toArray, List.take_succ_cons, List.take_zero, List.drop_succ_cons, List.drop_zero, List.nil_append, List.cons_append, List.append_nil, List.drop_nil, List.take_nil, List.length_cons, List.length_nil, Nat.zero_add, Nat.add_zero, Nat.reduceAdd] at hS))
  revert hS
  apply wp_cut0
  · intro hS
    refine mixs_beginP [(0, .pointer (some ⟨bd, 0, none⟩)), (1, .pointer (some ⟨g2, 0, none⟩))] (by kernel_rfl) hS (by simp) ?_
    clear hS
    intro w6 hS hC
    have kC := hC.kblk 0 rfl
    have kC1 := hC.kpart 1 rfl (0, .pointer (some ⟨bd, 0, none⟩)) (by simp)
    have kC2 := hC.kpart 1 rfl (1, .pointer (some ⟨g2, 0, none⟩)) (by simp)
    simp only at kC1 kC2
    refine mixs_take 0 (v := ?_) rfl (by kernel_rfl) (fun _ _ _ h => h) (by kernel_rfl) (by assumption) (fun s => ?hy) ?_; case hy => (go_simp <;> with_reducible rfl)
    try simp only [List.getElem_toArray, List.getElem_cons_succ, List.getElem_cons_zero, Act.put, List.setIfInBounds_toArray, List.set_cons_zero, List.set_cons_succ]
    refine mixs_take 1 (v := ?_) rfl (by kernel_rfl) (fun _ _ _ h => h) (by kernel_rfl) (by assumption) (fun s => ?hy) ?_; case hy => (go_simp <;> with_reducible rfl)
    try simp only [List.getElem_toArray, List.getElem_cons_succ, List.getElem_cons_zero, Act.put, List.setIfInBounds_toArray, List.set_cons_zero, List.set_cons_succ]
    refine mixs_take 2 (v := ?_) rfl (by kernel_rfl) (fun _ _ _ h => h) (by kernel_rfl) (by assumption) (fun s => ?hy) ?_; case hy => (go_simp <;> with_reducible rfl)
    try simp only [List.getElem_toArray, List.getElem_cons_succ, List.getElem_cons_zero, Act.put, List.setIfInBounds_toArray, List.set_cons_zero, List.set_cons_succ]
    refine mixs_take 3 (v := ?_) rfl (by kernel_rfl) (fun _ _ _ h => h) (by kernel_rfl) (by assumption) (fun s => ?hy) ?_; case hy => (go_simp <;> with_reducible rfl)
    try simp only [List.getElem_toArray, List.getElem_cons_succ, List.getElem_cons_zero, Act.put, List.setIfInBounds_toArray, List.set_cons_zero, List.set_cons_succ]
    refine mixs_take 4 (v := ?_) rfl (by kernel_rfl) (fun _ _ _ h => h) (by kernel_rfl) (by assumption) (fun s => ?hy) ?_; case hy => (go_simp <;> with_reducible rfl)
    try simp only [List.getElem_toArray, List.getElem_cons_succ, List.getElem_cons_zero, Act.put, List.setIfInBounds_toArray, List.set_cons_zero, List.set_cons_succ]
    refine mixs_take 5 (v := ?_) rfl (by kernel_rfl) (fun _ _ _ h => h) (by kernel_rfl) (by assumption) (fun s => ?hy) ?_; case hy => (go_simp <;> with_reducible rfl)
    try simp only [List.getElem_toArray, List.getElem_cons_succ, List.getElem_cons_zero, Act.put, List.setIfInBounds_toArray, List.set_cons_zero, List.set_cons_succ]
    refine mixs_one 6 (by kernel_rfl) rfl (fun K hK => ?_)
    go_simp
    ( (go_at_call 20; (with_reducible refine (cA.out _ (hS.preM (A := [_, _, _, _, _]) (B := dks _ _ _ _) (R := []))).mono ?_); rintro _ w8 ⟨rfl, hk8⟩; have hS1 := hS.callM (A := [_, _, _, _, _]) (B := dks _ _ _ _) (R := []) hk8; clear hS hk8; have hS := hS1; clear hS1; simp only [List.cons_append, List.nil_append] at hS) )
    try clear hC
    refine hK.out _ _ _ (fun _ h => h) (by first | exact hS | exact hS.drop | exact hS.drop.drop | exact hS.drop.drop.drop | exact hS.drop.drop.drop.drop | exact hS.empty | exact hS.one 0 rfl | exact hS.one 1 rfl | exact hS.one 2 rfl | exact hS.one 3 rfl | exact hS.one 4 rfl | exact hS.one 5 rfl | exact hS.one 6 rfl | exact hS.one 7 rfl | exact hS.one 8 rfl | exact hS.one 9 rfl | exact hS.one 10 rfl | exact hS.one 11 rfl | exact hS.toPart (by simp)) (fun hC => ?_)
    clear hK K
    try simp only [List.getElem_toArray, List.getElem_cons_succ, List.getElem_cons_zero, Act.put, List.setIfInBounds_toArray, List.set_cons_zero, List.set_cons_succ]
    refine wpAnyH_done (by kernel_rfl) ?_ _
    exact ⟨rfl, hS⟩
  intro w7 hS
  go_wp2_with (first | (with_reducible refine wpList_box_st hS rfl rfl rfl ?_; intro g1 w1 hS1; clear hS; replace hS := hS1; clear hS1) | (with_reducible refine wpList_box1_st hS rfl rfl rfl ?_; intro g1 w1 hS1; clear hS; replace hS := hS1; clear hS1) | (with_reducible refine wpList_alloc_st hS rfl rfl (by assumption) ?_; intro g1 w1 hS1; clear hS; replace hS := hS1; clear hS1) | (with_reducible refine wpList_alloc1_st hS rfl rfl (by assumption) rfl ?_; intro g1 w1 hS1; clear hS; replace hS := hS1; clear hS1) | ((with_reducible refine wpList_load_st 0 hS rfl rfl rfl rfl ?_ rfl ?_); focus (simp [scalarB, go_sem]; done)) | ((with_reducible refine wpList_loadall_st 0 hS rfl rfl rfl rfl ?_ (by kernel_rfl) ?_); focus (simp [rowB, go_sem]; done)) | ((with_reducible refine wpList_store_st 0 hS rfl rfl rfl rfl (by kernel_rfl) rfl rfl ?_); intro w1 hS1; clear hS; replace hS := hS1; clear hS1; try simp only [List.set_cons_zero, List.set_cons_succ, List.setIfInBounds_toArray, List.take_succ_cons, List.take_zero, List.drop_succ_cons, List.drop_zero, List.nil_append, List.cons_append, List.append_nil, List.drop_nil, List.take_nil, List.length_cons, List.length_nil, Nat.zero_add, Nat.add_zero, Nat.reduceAdd] at hS) | ((with_reducible refine wpList_storerow_st 0 hS rfl rfl rfl rfl (by kernel_rfl) rfl rfl rfl rfl ?_); intro w1 hS1; clear hS; replace hS := hS1; clear hS1; try simp only [List.set_cons_zero, List.set_cons_succ, List.setIfInBounds_toArray, List.take_succ_cons, List.take_zero, List.drop_succ_cons, List.drop_zero, List.nil_append, List.cons_append, List.append_nil, List.drop_nil, List.take_nil, List.length_cons, List.length_nil, Nat.zero_add, Nat.add_zero, Nat.reduceAdd] at hS) | ((with_reducible refine wpList_load_st 1 hS rfl rfl rfl rfl ?_ rfl ?_); focus (simp [scalarB, go_sem]; done)) | ((with_reducible refine wpList_loadall_st 1 hS rfl rfl rfl rfl ?_ (by kernel_rfl) ?_); focus (simp [rowB, go_sem]; done)) | ((with_reducible refine wpList_store_st 1 hS rfl rfl rfl rfl (by kernel_rfl) rfl rfl ?_); intro w1 hS1; clear hS; replace hS := hS1; clear hS1; try simp only [List.set_cons_zero, List.set_cons_succ, List.setIfInBounds_toArray, List.take_succ_cons, List.take_zero, List.drop_succ_cons, List.drop_zero, List.nil_append, List.cons_append, List.append_nil, List.drop_nil, List.take_nil, List.length_cons, List.length_nil, Nat.zero_add, Nat.add_zero, Nat.reduceAdd] at hS) | ((with_reducible refine wpList_storerow_st 1 hS rfl rfl rfl rfl (by kernel_rfl) rfl rfl rfl rfl ?_); intro w1 hS1; clear hS; replace hS := hS1; clear hS1; try simp only [List.set_cons_zero, List.set_cons_succ, List.setIfInBounds_toArray, List.take_succ_cons, List.take_zero, List.drop_succ_cons, List.drop_zero, List.nil_append, List.cons_append, List.append_nil, List.drop_nil, List.take_nil, List.length_cons, List.length_nil, Nat.zero_add, Nat.add_zero, Nat.reduceAdd] at hS))
  go_ret
  exact ⟨rfl, g2, sv, wv, rsv, rwv, { d with fuse := n }, r, hr, hF, by simpa [plays, rdp37, dks] using hS.drop⟩
theorem does37_w (bd g g2 : Nat) (sv wv rsv rwv : Value) (d : Dk) (r : Rg) (size k : Nat) (n : Int) (s : ByteArray) (a : Option Addr) (nk kc : Nat) (c : UInt8) (kind : Int) (w : World) (hD : St w (feet (plays g bd g2 sv wv rsv rwv d r)) (plays g bd g2 sv wv rsv rwv d r) w) (hr : r.Ok size) (hfit : d.Fit size k) (hs2 : size ≤ 1000) (hk : k ≤ 90000) (hn : -9223372036854775808 ≤ n ∧ n ≤ 9223372036854775807) (h0 : kind ≠ 0) (h1 : kind ≠ 1) (h2 : kind ≠ 2) (h3 : kind ≠ 3) (h4 : kind ≠ 4) :
    Calls Try.prog 50 #[.pointer (some ⟨g, 0, none⟩), .agg #[.int .i64 kind, .int .i64 n, .string s, .slice a nk kc, vb c]] w fun e w' => e = .returned (.bool true) ∧ PlayTo w (feet (plays g bd g2 sv wv rsv rwv d r)) g bd size (k + 10) w' := by
  have b0 : (kind == 0) = false := by rw [beq_eq_false_iff_ne]; exact h0
  have b1 : (kind == 1) = false := by rw [beq_eq_false_iff_ne]; exact h1
  have b2 : (kind == 2) = false := by rw [beq_eq_false_iff_ne]; exact h2
  have b3 : (kind == 3) = false := by rw [beq_eq_false_iff_ne]; exact h3
  have b4 : (kind == 4) = false := by rw [beq_eq_false_iff_ne]; exact h4
  clear h0 h1 h2 h3 h4
  have cA := fun W hh => write_any bd sv wv d n (str (List.replicate 64 c)) W hh (by rw [str_size]; simp [maxLen]) (by have := hfit.wait; omega) hfit.fuse
  have cB := fun W hh => rwrite_any37 (plr (.pointer (some ⟨bd, 0, none⟩)) (.pointer (some ⟨g2, 0, none⟩)) r) g rsv rwv d n (str (List.replicate 64 c)) W hh (by rw [str_size]; simp [maxLen]) (by have := hfit.sec; omega) (by have := hfit.wait; omega) hfit.fuse
  have cL := fun W => all37_any c W
  have hF := (hfit.write n (str (List.replicate 64 c)).data.toList).mono (k' := k + 10) (by omega)
  generalize str (List.replicate 64 c) = S at *
  obtain ⟨⟨d1, e1⟩, hres⟩ : ∃ z, d.write n S.data.toList = z := ⟨_, rfl⟩
  rw [hres] at cA cB hF
  unfold rdp37 at cB
  simp only at cA cB hF
  clear hres hfit
  unfold vb at cL ⊢
  replace cA := Lib.hid cA
  replace cB := Lib.hid cB
  replace cL := Lib.hid cL
  have hS : St w (feet (plays g bd g2 sv wv rsv rwv d r)) (plays g bd g2 sv wv rsv rwv d r ++ []) w := by rw [List.append_nil]; exact hD
  generalize feet (plays g bd g2 sv wv rsv rwv d r) = F at hS ⊢
  clear hD
  unfold plays rdp37 at hS
  simp only [List.cons_append, List.nil_append] at hS
  go_enter Try.func50, Try.ntmps50
  go_wp2_with (first
    | ((with_reducible refine wpList_box_st hS rfl rfl rfl ?_); intro g3 w1 hS1; clear hS; have hS := hS1; clear hS1)
    | (with_reducible refine wpList_box_st hS rfl rfl rfl ?_; intro g1 w1 hS1; clear hS; replace hS := hS1; clear hS1) | (with_reducible refine wpList_box1_st hS rfl rfl rfl ?_; intro g1 w1 hS1; clear hS; replace hS := hS1; clear hS1) | (with_reducible refine wpList_alloc_st hS rfl rfl (by assumption) ?_; intro g1 w1 hS1; clear hS; replace hS := hS1; clear hS1) | (with_reducible refine wpList_alloc1_st hS rfl rfl (by assumption) rfl ?_; intro g1 w1 hS1; clear hS; replace hS := hS1; clear hS1) | ((with_reducible refine wpList_load_st 0 hS rfl rfl rfl rfl ?_ rfl ?_); focus (simp [scalarB, go_sem]; done)) | ((with_reducible refine wpList_loadall_st 0 hS rfl rfl rfl rfl ?_ (by kernel_rfl) ?_); focus (simp [rowB, go_sem]; done)) | ((with_reducible refine wpList_store_st 0 hS rfl rfl rfl rfl (by kernel_rfl) rfl rfl ?_); intro w1 hS1; clear hS; replace hS := hS1; clear hS1; try simp only [List.set_cons_zero, List.set_cons_succ, List.setIfInBounds_toArray, List.take_succ_cons, List.take_zero, List.drop_succ_cons, List.drop_zero, List.nil_append, List.cons_append, List.append_nil, List.drop_nil, List.take_nil, List.length_cons, List.length_nil, Nat.zero_add, Nat.add_zero, Nat.reduceAdd] at hS) | ((with_reducible refine wpList_storerow_st 0 hS rfl rfl rfl rfl (by kernel_rfl) rfl rfl rfl rfl ?_); intro w1 hS1; clear hS; replace hS := hS1; clear hS1; try simp only [List.set_cons_zero, List.set_cons_succ, List.setIfInBounds_toArray, List.take_succ_cons, List.take_zero, List.drop_succ_cons, List.drop_zero, List.nil_append, List.cons_append, List.append_nil, List.drop_nil, List.take_nil, List.length_cons, List.length_nil, Nat.zero_add, Nat.add_zero, Nat.reduceAdd] at hS))
  revert hS
  apply wp_cutv2
  · intro hS
    refine mixs_beginP [(0, .pointer (some ⟨bd, 0, none⟩)), (1, .pointer (some ⟨g2, 0, none⟩))] (by kernel_rfl) hS (by simp) ?_
    clear hS
    intro w6 hS hC
    have kC := hC.kblk 0 rfl
    have kC1 := hC.kpart 1 rfl (0, .pointer (some ⟨bd, 0, none⟩)) (by simp)
    have kC2 := hC.kpart 1 rfl (1, .pointer (some ⟨g2, 0, none⟩)) (by simp)
    simp only at kC1 kC2
    refine mixs_take 0 (v := ?_) rfl (by kernel_rfl) (fun _ _ _ h => h) (by kernel_rfl) (by assumption) (fun s => ?hy) ?_; case hy => (go_simp <;> with_reducible rfl)
    try simp only [List.getElem_toArray, List.getElem_cons_succ, List.getElem_cons_zero, Act.put, List.setIfInBounds_toArray, List.set_cons_zero, List.set_cons_succ]
    refine mixs_take 1 (v := ?_) rfl (by kernel_rfl) (fun _ _ _ h => h) (by kernel_rfl) (by assumption) (fun s => ?hy) ?_; case hy => (go_simp <;> with_reducible rfl)
    try simp only [List.getElem_toArray, List.getElem_cons_succ, List.getElem_cons_zero, Act.put, List.setIfInBounds_toArray, List.set_cons_zero, List.set_cons_succ]
    refine mixs_take 2 (v := ?_) rfl (by kernel_rfl) (fun _ _ _ h => h) (by kernel_rfl) (by assumption) (fun s => ?hy) ?_; case hy => (go_simp <;> with_reducible rfl)
    try simp only [List.getElem_toArray, List.getElem_cons_succ, List.getElem_cons_zero, Act.put, List.setIfInBounds_toArray, List.set_cons_zero, List.set_cons_succ]
    refine mixs_take 3 (v := ?_) rfl (by kernel_rfl) (fun _ _ _ h => h) (by kernel_rfl) (by assumption) (fun s => ?hy) ?_; case hy => (go_simp <;> with_reducible rfl)
    try simp only [List.getElem_toArray, List.getElem_cons_succ, List.getElem_cons_zero, Act.put, List.setIfInBounds_toArray, List.set_cons_zero, List.set_cons_succ]
    refine mixs_take 4 (v := ?_) rfl (by kernel_rfl) (fun _ _ _ h => h) (by kernel_rfl) (by assumption) (fun s => ?hy) ?_; case hy => (go_simp <;> with_reducible rfl)
    try simp only [List.getElem_toArray, List.getElem_cons_succ, List.getElem_cons_zero, Act.put, List.setIfInBounds_toArray, List.set_cons_zero, List.set_cons_succ]
    refine mixs_take 5 (v := ?_) rfl (by kernel_rfl) (fun _ _ _ h => h) (by kernel_rfl) (by assumption) (fun s => ?hy) ?_; case hy => (go_simp <;> with_reducible rfl)
    try simp only [List.getElem_toArray, List.getElem_cons_succ, List.getElem_cons_zero, Act.put, List.setIfInBounds_toArray, List.set_cons_zero, List.set_cons_succ]
    refine mixs_take 6 (v := ?_) rfl (by kernel_rfl) (fun _ _ _ h => h) (by kernel_rfl) (by assumption) (fun s => ?hy) ?_; case hy => (go_simp <;> with_reducible rfl)
    try simp only [List.getElem_toArray, List.getElem_cons_succ, List.getElem_cons_zero, Act.put, List.setIfInBounds_toArray, List.set_cons_zero, List.set_cons_succ]
    refine mixs_take 7 (v := ?_) rfl (by kernel_rfl) (fun _ _ _ h => h) (by kernel_rfl) (by assumption) (fun s => ?hy) ?_; case hy => (go_simp <;> with_reducible rfl)
    try simp only [List.getElem_toArray, List.getElem_cons_succ, List.getElem_cons_zero, Act.put, List.setIfInBounds_toArray, List.set_cons_zero, List.set_cons_succ]
    refine mixs_take 10 (v := ?_) rfl (by kernel_rfl) (fun _ _ _ h => h) (by kernel_rfl) (by assumption) (fun s => ?hy) ?_; case hy => (go_simp <;> with_reducible rfl)
    try simp only [List.getElem_toArray, List.getElem_cons_succ, List.getElem_cons_zero, Act.put, List.setIfInBounds_toArray, List.set_cons_zero, List.set_cons_succ]
    refine mixs_take 11 (v := ?_) rfl (by kernel_rfl) (fun _ _ _ h => h) (by kernel_rfl) (by assumption) (fun s => ?hy) ?_; case hy => (go_simp <;> with_reducible rfl)
    try simp only [List.getElem_toArray, List.getElem_cons_succ, List.getElem_cons_zero, Act.put, List.setIfInBounds_toArray, List.set_cons_zero, List.set_cons_succ]
    refine mixs_take 12 (v := ?_) rfl (by kernel_rfl) (fun _ _ _ h => h) (by kernel_rfl) (by assumption) (fun s => ?hy) ?_; case hy => (go_simp <;> with_reducible rfl)
    try simp only [List.getElem_toArray, List.getElem_cons_succ, List.getElem_cons_zero, Act.put, List.setIfInBounds_toArray, List.set_cons_zero, List.set_cons_succ]
    refine mixs_take 13 (v := ?_) rfl (by kernel_rfl) (fun _ _ _ h => h) (by kernel_rfl) (by assumption) (fun s => ?hy) ?_; case hy => (go_simp <;> with_reducible rfl)
    try simp only [List.getElem_toArray, List.getElem_cons_succ, List.getElem_cons_zero, Act.put, List.setIfInBounds_toArray, List.set_cons_zero, List.set_cons_succ]
    refine mixs_take 14 (v := ?_) rfl (by kernel_rfl) (fun _ _ _ h => h) (by kernel_rfl) (by assumption) (fun s => ?hy) ?_; case hy => (go_simp <;> with_reducible rfl)
    try simp only [List.getElem_toArray, List.getElem_cons_succ, List.getElem_cons_zero, Act.put, List.setIfInBounds_toArray, List.set_cons_zero, List.set_cons_succ]
    refine mixs_take 15 (v := ?_) rfl (by kernel_rfl) (fun _ _ _ h => h) (by kernel_rfl) (by assumption) (fun s => ?hy) ?_; case hy => (go_simp <;> with_reducible rfl)
    try simp only [List.getElem_toArray, List.getElem_cons_succ, List.getElem_cons_zero, Act.put, List.setIfInBounds_toArray, List.set_cons_zero, List.set_cons_succ]
    refine mixs_take 16 (v := ?_) rfl (by kernel_rfl) (fun _ _ _ h => h) (by kernel_rfl) (by assumption) (fun s => ?hy) ?_; case hy => (go_simp <;> with_reducible rfl)
    try simp only [List.getElem_toArray, List.getElem_cons_succ, List.getElem_cons_zero, Act.put, List.setIfInBounds_toArray, List.set_cons_zero, List.set_cons_succ]
    refine mixs_one 8 (by kernel_rfl) rfl (fun K hK => ?_)
    go_simp
    ( (first | (go_at_call 82; (with_reducible refine (cL.out _).mono ?_); rintro _ w9 ⟨rfl, hb9⟩; have hS1 := hS.keepB hb9; clear hb9 hS; have hS := hS1; clear hS1) | (go_at_call 17; (with_reducible refine (cA.out _ (hS.preM (A := [_, _, _, _, _]) (B := dks _ _ _ _) (R := []))).mono ?_); rintro _ w8 ⟨rfl, wv8, hk8⟩; have hS1 := hS.callM (A := [_, _, _, _, _]) (B := dks _ _ _ _) (R := []) hk8; clear hS hk8; have hS := hS1; clear hS1; simp only [List.cons_append, List.nil_append] at hS) | (go_at_call 38; (with_reducible refine (cB.out _ (hS.preM (A := [_]) (B := [_, _, _]) (R := _))).mono ?_); rintro _ w9 ⟨rfl, wv9, hk9⟩; have hS1 := hS.callM (A := [_]) (B := [_, _, _]) (R := _) hk9; clear hS hk9; have hS := hS1; clear hS1; simp only [List.cons_append, List.nil_append] at hS)) )
    try clear hC
    refine hK.out _ _ _ (fun _ h => h) (by first | exact hS | exact hS.drop | exact hS.drop.drop | exact hS.drop.drop.drop | exact hS.drop.drop.drop.drop | exact hS.empty | exact hS.one 0 rfl | exact hS.one 1 rfl | exact hS.one 2 rfl | exact hS.one 3 rfl | exact hS.one 4 rfl | exact hS.one 5 rfl | exact hS.one 6 rfl | exact hS.one 7 rfl | exact hS.one 8 rfl | exact hS.one 9 rfl | exact hS.one 10 rfl | exact hS.one 11 rfl | exact hS.toPart (by simp)) (fun hC => ?_)
    clear hK K
    try simp only [List.getElem_toArray, List.getElem_cons_succ, List.getElem_cons_zero, Act.put, List.setIfInBounds_toArray, List.set_cons_zero, List.set_cons_succ]
    refine mixs_one 9 (by kernel_rfl) rfl (fun K hK => ?_)
    go_simp
    ( (first | (go_at_call 82; (with_reducible refine (cL.out _).mono ?_); rintro _ w9 ⟨rfl, hb9⟩; have hS1 := hS.keepB hb9; clear hb9 hS; have hS := hS1; clear hS1) | (go_at_call 17; (with_reducible refine (cA.out _ (hS.preM (A := [_, _, _, _, _]) (B := dks _ _ _ _) (R := []))).mono ?_); rintro _ w8 ⟨rfl, wv8, hk8⟩; have hS1 := hS.callM (A := [_, _, _, _, _]) (B := dks _ _ _ _) (R := []) hk8; clear hS hk8; have hS := hS1; clear hS1; simp only [List.cons_append, List.nil_append] at hS) | (go_at_call 38; (with_reducible refine (cB.out _ (hS.preM (A := [_]) (B := [_, _, _]) (R := _))).mono ?_); rintro _ w9 ⟨rfl, wv9, hk9⟩; have hS1 := hS.callM (A := [_]) (B := [_, _, _]) (R := _) hk9; clear hS hk9; have hS := hS1; clear hS1; simp only [List.cons_append, List.nil_append] at hS)) )
    try clear hC
    refine hK.out _ _ _ (fun _ h => h) (by first | exact hS | exact hS.drop | exact hS.drop.drop | exact hS.drop.drop.drop | exact hS.drop.drop.drop.drop | exact hS.empty | exact hS.one 0 rfl | exact hS.one 1 rfl | exact hS.one 2 rfl | exact hS.one 3 rfl | exact hS.one 4 rfl | exact hS.one 5 rfl | exact hS.one 6 rfl | exact hS.one 7 rfl | exact hS.one 8 rfl | exact hS.one 9 rfl | exact hS.one 10 rfl | exact hS.one 11 rfl | exact hS.toPart (by simp)) (fun hC => ?_)
    clear hK K
    try simp only [List.getElem_toArray, List.getElem_cons_succ, List.getElem_cons_zero, Act.put, List.setIfInBounds_toArray, List.set_cons_zero, List.set_cons_succ]
    refine mixs_one 17 (by kernel_rfl) rfl (fun K hK => ?_)
    go_simp
    ( (first | (go_at_call 82; (with_reducible refine (cL.out _).mono ?_); rintro _ w9 ⟨rfl, hb9⟩; have hS1 := hS.keepB hb9; clear hb9 hS; have hS := hS1; clear hS1) | (go_at_call 17; (with_reducible refine (cA.out _ (hS.preM (A := [_, _, _, _, _]) (B := dks _ _ _ _) (R := []))).mono ?_); rintro _ w8 ⟨rfl, wv8, hk8⟩; have hS1 := hS.callM (A := [_, _, _, _, _]) (B := dks _ _ _ _) (R := []) hk8; clear hS hk8; have hS := hS1; clear hS1; simp only [List.cons_append, List.nil_append] at hS) | (go_at_call 38; (with_reducible refine (cB.out _ (hS.preM (A := [_]) (B := [_, _, _]) (R := _))).mono ?_); rintro _ w9 ⟨rfl, wv9, hk9⟩; have hS1 := hS.callM (A := [_]) (B := [_, _, _]) (R := _) hk9; clear hS hk9; have hS := hS1; clear hS1; simp only [List.cons_append, List.nil_append] at hS)) )
    try clear hC
    refine hK.out _ _ _ (fun _ h => h) (by first | exact hS | exact hS.drop | exact hS.drop.drop | exact hS.drop.drop.drop | exact hS.drop.drop.drop.drop | exact hS.empty | exact hS.one 0 rfl | exact hS.one 1 rfl | exact hS.one 2 rfl | exact hS.one 3 rfl | exact hS.one 4 rfl | exact hS.one 5 rfl | exact hS.one 6 rfl | exact hS.one 7 rfl | exact hS.one 8 rfl | exact hS.one 9 rfl | exact hS.one 10 rfl | exact hS.one 11 rfl | exact hS.toPart (by simp)) (fun hC => ?_)
    clear hK K
    try simp only [List.getElem_toArray, List.getElem_cons_succ, List.getElem_cons_zero, Act.put, List.setIfInBounds_toArray, List.set_cons_zero, List.set_cons_succ]
    refine mixs_one 18 (by kernel_rfl) rfl (fun K hK => ?_)
    go_simp
    ( (first | (go_at_call 82; (with_reducible refine (cL.out _).mono ?_); rintro _ w9 ⟨rfl, hb9⟩; have hS1 := hS.keepB hb9; clear hb9 hS; have hS := hS1; clear hS1) | (go_at_call 17; (with_reducible refine (cA.out _ (hS.preM (A := [_, _, _, _, _]) (B := dks _ _ _ _) (R := []))).mono ?_); rintro _ w8 ⟨rfl, wv8, hk8⟩; have hS1 := hS.callM (A := [_, _, _, _, _]) (B := dks _ _ _ _) (R := []) hk8; clear hS hk8; have hS := hS1; clear hS1; simp only [List.cons_append, List.nil_append] at hS) | (go_at_call 38; (with_reducible refine (cB.out _ (hS.preM (A := [_]) (B := [_, _, _]) (R := _))).mono ?_); rintro _ w9 ⟨rfl, wv9, hk9⟩; have hS1 := hS.callM (A := [_]) (B := [_, _, _]) (R := _) hk9; clear hS hk9; have hS := hS1; clear hS1; simp only [List.cons_append, List.nil_append] at hS)) )
    try clear hC
    refine hK.out _ _ _ (fun _ h => h) (by first | exact hS | exact hS.drop | exact hS.drop.drop | exact hS.drop.drop.drop | exact hS.drop.drop.drop.drop | exact hS.empty | exact hS.one 0 rfl | exact hS.one 1 rfl | exact hS.one 2 rfl | exact hS.one 3 rfl | exact hS.one 4 rfl | exact hS.one 5 rfl | exact hS.one 6 rfl | exact hS.one 7 rfl | exact hS.one 8 rfl | exact hS.one 9 rfl | exact hS.one 10 rfl | exact hS.one 11 rfl | exact hS.toPart (by simp)) (fun hC => ?_)
    clear hK K
    try simp only [List.getElem_toArray, List.getElem_cons_succ, List.getElem_cons_zero, Act.put, List.setIfInBounds_toArray, List.set_cons_zero, List.set_cons_succ]
    refine mixs_take 19 (v := ?_) rfl (by kernel_rfl) (fun _ _ _ h => h) (by kernel_rfl) (by assumption) (fun s => ?hy) ?_; case hy => (go_simp <;> with_reducible rfl)
    try simp only [List.getElem_toArray, List.getElem_cons_succ, List.getElem_cons_zero, Act.put, List.setIfInBounds_toArray, List.set_cons_zero, List.set_cons_succ]
    refine mixs_take 20 (v := ?_) rfl (by kernel_rfl) (fun _ _ _ h => h) (by kernel_rfl) (by assumption) (fun s => ?hy) ?_; case hy => (go_simp <;> with_reducible rfl)
    try simp only [List.getElem_toArray, List.getElem_cons_succ, List.getElem_cons_zero, Act.put, List.setIfInBounds_toArray, List.set_cons_zero, List.set_cons_succ]
    refine wpAnyH_done (by kernel_rfl) ?_ _
    exact ⟨wv8, wv9, rfl, hS⟩
  intro wv1 rwv1 w7 hS
  go_wp2_with fail
  go_ret
  exact ⟨rfl, g2, sv, wv1, rsv, rwv1, d1, r, hr, hF, by simpa [plays, rdp37, dks] using hS.drop⟩
end Go.Proofs.Ytlhpibniecfofaa
end

section
/- Pieces change places. -/
set_option linter.unusedSimpArgs false
set_option linter.unusedVariables false
namespace Go.Ofp
open Go.RowKit
namespace St
variable {w0 w w' : World} {F : List Nat} {A B C R L : List Ch} {c : Ch}
/-- Two runs of pieces change places. -/
theorem mid (h : St w0 F (A ++ (B ++ (C ++ R))) w) : St w0 F (A ++ (C ++ (B ++ R))) w := by
  refine h.pick (fun i => if i < A.length then i else if i < A.length + C.length then i + B.length else if i < A.length + C.length + B.length then i - C.length else i) ?_ ?_
  · intro i d hd
    by_cases h1 : i < A.length
    · rw [List.getElem?_append_left h1] at hd
      simp only [h1, if_true]
      rw [List.getElem?_append_left h1]
      exact hd
    · rw [List.getElem?_append_right (by omega)] at hd
      simp only [h1, if_false]
      by_cases h2 : i < A.length + C.length
      · rw [List.getElem?_append_left (by omega)] at hd
        simp only [h2, if_true]
        rw [List.getElem?_append_right (by omega), List.getElem?_append_right (by omega), List.getElem?_append_left (by omega), show i + B.length - A.length - B.length = i - A.length by omega]
        exact hd
      · rw [List.getElem?_append_right (by omega)] at hd
        simp only [h2, if_false]
        by_cases h3 : i < A.length + C.length + B.length
        · rw [List.getElem?_append_left (by omega)] at hd
          simp only [h3, if_true]
          rw [List.getElem?_append_right (by omega), List.getElem?_append_left (by omega), show i - C.length - A.length = i - A.length - C.length by omega]
          exact hd
        · rw [List.getElem?_append_right (by omega)] at hd
          simp only [h3, if_false]
          rw [List.getElem?_append_right (by omega), List.getElem?_append_right (by omega), List.getElem?_append_right (by omega), show i - A.length - B.length - C.length = i - A.length - C.length - B.length by omega]
          exact hd
  · intro i j hi hj hij
    split <;> split <;> (try split) <;> (try split) <;> (try split) <;> (try split) <;> omega
theorem mid0 (h : St w0 F (A ++ (B ++ (C ++ R))) w) : St w0 F ((A ++ C) ++ ((B ++ R) ++ [])) w := by
  have := h.mid
  simpa using this
end St
end Go.Ofp
end

section
/- Rings: an act is done, by both: Crash; any act. -/
set_option linter.unusedSimpArgs false
set_option linter.unusedVariables false
namespace Go.Proofs.Ytlhpibniecfofaa
open Go.RowKit Go.Ofp
set_option linter.unusedVariables false
set_option maxRecDepth 100000
set_option maxHeartbeats 8000000

theorem does37_4 (bd g g2 : Nat) (sv wv rsv rwv : Value) (d : Dk) (r : Rg) (size k : Nat) (n : Int) (s : ByteArray) (a : Option Addr) (keep : List Int) (kc : Nat) (c : UInt8) (w : World) (hD : St w (feet (plays g bd g2 sv wv rsv rwv d r)) (plays g bd g2 sv wv rsv rwv d r) w) (hr : r.Ok size) (hfit : d.Fit size k) (hs2 : size ≤ 1000) (hk : k ≤ 90000)
    (hks : Sl w a (keep.map vi)) (hkb : ∀ z ∈ keep, z ≤ 9223372036854775807) (hkm : keep.length ≤ maxLen) (hap : 0 < keep.length → ∀ b o, a = some ⟨b, o, none⟩ → b ∉ feet (plays g bd g2 sv wv rsv rwv d r)) :
    Calls Try.prog 50 #[.pointer (some ⟨g, 0, none⟩), .agg #[.int .i64 4, .int .i64 n, .string s, .slice a keep.length kc, vb c]] w fun e w' => e = .returned (.bool true) ∧ PlayTo w (feet (plays g bd g2 sv wv rsv rwv d r)) g bd size (k + 10) w' := by
  have hap1 : 0 < keep.length → ∀ b o, a = some ⟨b, o, none⟩ → b ∉ feet (dks bd sv wv d) := fun h b o e => by
    have := hap h b o e
    unfold plays at this
    have := (feet_off this).2
    exact (feet_off (A := [_]) (B := dks bd sv wv d) this).2
  have hap2 : 0 < keep.length → ∀ b o, a = some ⟨b, o, none⟩ → b ∉ feet (rdp37 (plr (.pointer (some ⟨bd, 0, none⟩)) (.pointer (some ⟨g2, 0, none⟩)) r) g rsv rwv d) := fun h b o e => by
    have := hap h b o e
    unfold plays at this
    exact (feet_off this).1
  have hsl : ∀ (L : List Ch) (W : World), St w (feet (plays g bd g2 sv wv rsv rwv d r)) L W → Sl W a (keep.map vi) := fun L W hh => hks.old hh (by simpa using hap)
  have cA := fun W hh hs => crash_any bd sv wv d a keep keep.length kc W hh hfit.ok (by have := hfit.wait; omega) hs hkb rfl hkm hap1
  have cB := fun W hh hs => rcrash_any37 (plr (.pointer (some ⟨bd, 0, none⟩)) (.pointer (some ⟨g2, 0, none⟩)) r) g rsv rwv d a keep keep.length kc W hh hfit.ok (by have := hfit.sec; omega) (by have := hfit.wait; omega) hs hkb rfl hkm hap2
  have hF := hfit.crash keep
  have hdd : (d.crash keep).dead = false := by simp [Dk.crash]
  generalize d.crash keep = d1 at *
  have hF2 := hF.mono (k' := k + 10) (by omega)
  obtain ⟨l2, hl2⟩ : ∃ l2 : Nat, l2 = min r.life 4294967294 + 1 := ⟨_, rfl⟩
  have hlf := hr.life
  have htl := hr.tail
  have htp := hr.top
  have hlI : IntKind.i64.wrap (min (r.life : Int) 4294967294 + 1) = l2 := by rw [IntWalk.i64_in _ (by omega)]; omega
  have hmI : (if (4294967294 : Int) < (r.life : Int) then (4294967294 : Int) else (r.life : Int)) + 1 = (l2 : Int) := by split <;> omega
  obtain ⟨ok, hok⟩ : ∃ b, ringOk size r.src r.n r.head l2 = b := ⟨_, rfl⟩
  have cBad : ok = false → ∀ (sv1 wv1 rsv1 rwv1 : Value) W, St W (feet (rdp37 (plr (.pointer (some ⟨bd, 0, none⟩)) (.pointer (some ⟨g2, 0, none⟩)) r) g rsv1 rwv1 d1 ++ dks bd sv1 wv1 d1)) (rdp37 (plr (.pointer (some ⟨bd, 0, none⟩)) (.pointer (some ⟨g2, 0, none⟩)) r) g rsv1 rwv1 d1 ++ dks bd sv1 wv1 d1) W → _ := fun hb sv1 wv1 rsv1 rwv1 W hh =>
    open37_bad bd g sv1 wv1 rsv1 rwv1 d1 (plr (.pointer (some ⟨bd, 0, none⟩)) (.pointer (some ⟨g2, 0, none⟩)) r) r.src r.n r.head l2 size W hh rfl hF.sec (by omega) hdd (by rw [hok, hb])
  have cOk : ok = true → ∀ (sv1 wv1 rsv1 rwv1 : Value) W, St W (feet (rdp37 (plr (.pointer (some ⟨bd, 0, none⟩)) (.pointer (some ⟨g2, 0, none⟩)) r) g rsv1 rwv1 d1 ++ dks bd sv1 wv1 d1)) (rdp37 (plr (.pointer (some ⟨bd, 0, none⟩)) (.pointer (some ⟨g2, 0, none⟩)) r) g rsv1 rwv1 d1 ++ dks bd sv1 wv1 d1) W → _ := fun hb sv1 wv1 rsv1 rwv1 W hh =>
    open37_ok bd g sv1 wv1 rsv1 rwv1 d1 (plr (.pointer (some ⟨bd, 0, none⟩)) (.pointer (some ⟨g2, 0, none⟩)) r) r.src r.n r.head l2 size k W hh rfl hF hs2 (by omega) hdd (by rw [hok, hb])
  have hrO : ∀ (recs : List ByteArray) (t : Nat), d1.Runs ⟨r.src, r.n, r.head, r.head, l2⟩ 1 r.head recs t → Rg.Ok ⟨r.src, r.n, r.head, t, l2⟩ size := fun recs t hh => by
    have h1 := hh.le (by simp only; omega)
    have h2 := hh.top (by omega)
    simp only at h1
    exact ⟨hr.pos, hr.fit, by simp only; omega, h2, by simp only; omega⟩
  have hD2 := hD
  generalize hFe : feet (plays g bd g2 sv wv rsv rwv d r) = F at *
  have hS : St w F (plays g bd g2 sv wv rsv rwv d r ++ []) w := by rw [List.append_nil]; exact hD
  clear hD hD2 hks hkb hkm hap hap1 hap2 hfit hF htl htp hlf
  unfold plays rdp37 at hS
  unfold rdp37 at cB
  simp only [List.cons_append, List.nil_append] at hS
  simp only at cB
  have ez := elem_base
  replace cA := Lib.hid cA
  replace cB := Lib.hid cB
  replace hsl := Lib.hid hsl
  replace cBad := Lib.hid cBad
  replace cOk := Lib.hid cOk
  replace hrO := Lib.hid hrO
  replace hok := Lib.hid hok
  replace hl2 := Lib.hid hl2
  go_enter Try.func50, Try.ntmps50
  go_wp2_with (first
    | ((with_reducible refine wpList_box_st hS rfl rfl rfl ?_); intro g3 w1 hS1; clear hS; have hS := hS1; clear hS1)
    | (with_reducible refine wpList_box_st hS rfl rfl rfl ?_; intro g1 w1 hS1; clear hS; replace hS := hS1; clear hS1) | (with_reducible refine wpList_box1_st hS rfl rfl rfl ?_; intro g1 w1 hS1; clear hS; replace hS := hS1; clear hS1) | (with_reducible refine wpList_alloc_st hS rfl rfl (by assumption) ?_; intro g1 w1 hS1; clear hS; replace hS := hS1; clear hS1) | (with_reducible refine wpList_alloc1_st hS rfl rfl (by assumption) rfl ?_; intro g1 w1 hS1; clear hS; replace hS := hS1; clear hS1) | ((with_reducible refine wpList_load_st 0 hS rfl rfl rfl rfl ?_ rfl ?_); focus (simp [scalarB, go_sem]; done)) | ((with_reducible refine wpList_loadall_st 0 hS rfl rfl rfl rfl ?_ (by kernel_rfl) ?_); focus (simp [rowB, go_sem]; done)) | ((with_reducible refine wpList_store_st 0 hS rfl rfl rfl rfl (by kernel_rfl) rfl rfl ?_); intro w1 hS1; clear hS; replace hS := hS1; clear hS1; try simp only [List.set_cons_zero, List.set_cons_succ, List.setIfInBounds_toArray, List.take_succ_cons, List.take_zero, List.drop_succ_cons, List.drop_zero, List.nil_append, List.cons_append, List.append_nil, List.drop_nil, List.take_nil, List.length_cons, List.length_nil, Nat.zero_add, Nat.add_zero, Nat.reduceAdd] at hS) | ((with_reducible refine wpList_storerow_st 0 hS rfl rfl rfl rfl (by kernel_rfl) rfl rfl rfl rfl ?_); intro w1 hS1; clear hS; replace hS := hS1; clear hS1; try simp only [List.set_cons_zero, List.set_cons_succ, List.setIfInBounds_toArray, List.take_succ_cons, List.take_zero, List.drop_succ_cons, List.drop_zero, List.nil_append, List.cons_append, List.append_nil, List.drop_nil, List.take_nil, List.length_cons, List.length_nil, Nat.zero_add, Nat.add_zero, Nat.reduceAdd] at hS))
  revert hS
  apply wp_cutv
  · intro hS
    refine mixs_beginP [(0, .pointer (some ⟨bd, 0, none⟩)), (1, .pointer (some ⟨g2, 0, none⟩))] (by kernel_rfl) hS (by simp) ?_
    clear hS
    intro w6 hS hC
    have kC := hC.kblk 0 rfl
    have kC1 := hC.kpart 1 rfl (0, .pointer (some ⟨bd, 0, none⟩)) (by simp)
    have kC2 := hC.kpart 1 rfl (1, .pointer (some ⟨g2, 0, none⟩)) (by simp)
    simp only at kC1 kC2
    refine mixs_take 0 (v := ?_) rfl (by kernel_rfl) (fun _ _ _ h => h) (by kernel_rfl) (by assumption) (fun s => ?hy) ?_; case hy => (go_simp <;> with_reducible rfl)
    try simp only [List.getElem_toArray, List.getElem_cons_succ, List.getElem_cons_zero, Act.put, List.setIfInBounds_toArray, List.set_cons_zero, List.set_cons_succ]
    refine mixs_take 1 (v := ?_) rfl (by kernel_rfl) (fun _ _ _ h => h) (by kernel_rfl) (by assumption) (fun s => ?hy) ?_; case hy => (go_simp <;> with_reducible rfl)
    try simp only [List.getElem_toArray, List.getElem_cons_succ, List.getElem_cons_zero, Act.put, List.setIfInBounds_toArray, List.set_cons_zero, List.set_cons_succ]
    refine mixs_take 2 (v := ?_) rfl (by kernel_rfl) (fun _ _ _ h => h) (by kernel_rfl) (by assumption) (fun s => ?hy) ?_; case hy => (go_simp <;> with_reducible rfl)
    try simp only [List.getElem_toArray, List.getElem_cons_succ, List.getElem_cons_zero, Act.put, List.setIfInBounds_toArray, List.set_cons_zero, List.set_cons_succ]
    refine mixs_take 3 (v := ?_) rfl (by kernel_rfl) (fun _ _ _ h => h) (by kernel_rfl) (by assumption) (fun s => ?hy) ?_; case hy => (go_simp <;> with_reducible rfl)
    try simp only [List.getElem_toArray, List.getElem_cons_succ, List.getElem_cons_zero, Act.put, List.setIfInBounds_toArray, List.set_cons_zero, List.set_cons_succ]
    refine mixs_take 4 (v := ?_) rfl (by kernel_rfl) (fun _ _ _ h => h) (by kernel_rfl) (by assumption) (fun s => ?hy) ?_; case hy => (go_simp <;> with_reducible rfl)
    try simp only [List.getElem_toArray, List.getElem_cons_succ, List.getElem_cons_zero, Act.put, List.setIfInBounds_toArray, List.set_cons_zero, List.set_cons_succ]
    refine mixs_take 5 (v := ?_) rfl (by kernel_rfl) (fun _ _ _ h => h) (by kernel_rfl) (by assumption) (fun s => ?hy) ?_; case hy => (go_simp <;> with_reducible rfl)
    try simp only [List.getElem_toArray, List.getElem_cons_succ, List.getElem_cons_zero, Act.put, List.setIfInBounds_toArray, List.set_cons_zero, List.set_cons_succ]
    refine mixs_one 6 (by kernel_rfl) rfl (fun K hK => ?_)
    go_simp
    ( (go_at_call 21; (with_reducible refine (cA.out _ (hS.preM (A := [_, _, _, _, _]) (B := dks _ _ _ _) (R := [])) (hsl.out _ _ hS)).mono ?_); rintro _ w8 ⟨rfl, wv8, hk8⟩; have hS1 := hS.callM (A := [_, _, _, _, _]) (B := dks _ _ _ _) (R := []) hk8; clear hS hk8; have hS := hS1; clear hS1; simp only [List.cons_append, List.nil_append] at hS) )
    try clear hC
    refine hK.out _ _ _ (fun _ h => h) (by first | exact hS | exact hS.drop | exact hS.drop.drop | exact hS.drop.drop.drop | exact hS.drop.drop.drop.drop | exact hS.empty | exact hS.one 0 rfl | exact hS.one 1 rfl | exact hS.one 2 rfl | exact hS.one 3 rfl | exact hS.one 4 rfl | exact hS.one 5 rfl | exact hS.one 6 rfl | exact hS.one 7 rfl | exact hS.one 8 rfl | exact hS.one 9 rfl | exact hS.one 10 rfl | exact hS.one 11 rfl | exact hS.toPart (by simp)) (fun hC => ?_)
    clear hK K
    try simp only [List.getElem_toArray, List.getElem_cons_succ, List.getElem_cons_zero, Act.put, List.setIfInBounds_toArray, List.set_cons_zero, List.set_cons_succ]
    refine wpAnyH_done (by kernel_rfl) ?_ _
    exact ⟨wv8, rfl, hS⟩
  intro wv1 w7 hS
  go_wp2_with fail
  revert hS
  apply wp_cutv2
  · intro hS
    refine mixs_beginP [(0, .pointer (some ⟨bd, 0, none⟩)), (1, .pointer (some ⟨g2, 0, none⟩))] (by kernel_rfl) hS (by simp) ?_
    clear hS
    intro w6 hS hC
    have kC := hC.kblk 0 rfl
    have kC1 := hC.kpart 1 rfl (0, .pointer (some ⟨bd, 0, none⟩)) (by simp)
    have kC2 := hC.kpart 1 rfl (1, .pointer (some ⟨g2, 0, none⟩)) (by simp)
    simp only at kC1 kC2
    refine mixs_take 0 (v := ?_) rfl (by kernel_rfl) (fun _ _ _ h => h) (by kernel_rfl) (by assumption) (fun s => ?hy) ?_; case hy => (go_simp <;> with_reducible rfl)
    try simp only [List.getElem_toArray, List.getElem_cons_succ, List.getElem_cons_zero, Act.put, List.setIfInBounds_toArray, List.set_cons_zero, List.set_cons_succ]
    refine mixs_take 1 (v := ?_) rfl (by kernel_rfl) (fun _ _ _ h => h) (by kernel_rfl) (by assumption) (fun s => ?hy) ?_; case hy => (go_simp <;> with_reducible rfl)
    try simp only [List.getElem_toArray, List.getElem_cons_succ, List.getElem_cons_zero, Act.put, List.setIfInBounds_toArray, List.set_cons_zero, List.set_cons_succ]
    refine mixs_take 2 (v := ?_) rfl (by kernel_rfl) (fun _ _ _ h => h) (by kernel_rfl) (by assumption) (fun s => ?hy) ?_; case hy => (go_simp <;> with_reducible rfl)
    try simp only [List.getElem_toArray, List.getElem_cons_succ, List.getElem_cons_zero, Act.put, List.setIfInBounds_toArray, List.set_cons_zero, List.set_cons_succ]
    refine mixs_take 3 (v := ?_) rfl (by kernel_rfl) (fun _ _ _ h => h) (by kernel_rfl) (by assumption) (fun s => ?hy) ?_; case hy => (go_simp <;> with_reducible rfl)
    try simp only [List.getElem_toArray, List.getElem_cons_succ, List.getElem_cons_zero, Act.put, List.setIfInBounds_toArray, List.set_cons_zero, List.set_cons_succ]
    refine mixs_take 4 (v := ?_) rfl (by kernel_rfl) (fun _ _ _ h => h) (by kernel_rfl) (by assumption) (fun s => ?hy) ?_; case hy => (go_simp <;> with_reducible rfl)
    try simp only [List.getElem_toArray, List.getElem_cons_succ, List.getElem_cons_zero, Act.put, List.setIfInBounds_toArray, List.set_cons_zero, List.set_cons_succ]
    refine mixs_one 5 (by kernel_rfl) rfl (fun K hK => ?_)
    go_simp
    ( (go_at_call 37; (with_reducible refine (cB.out _ (hS.preM (A := [_]) (B := [_, _, _]) (R := _)) (hsl.out _ _ hS)).mono ?_); rintro _ w9 ⟨rfl, sv9, wv9, hk9⟩; have hS1 := hS.callM (A := [_]) (B := [_, _, _]) (R := _) hk9; clear hS hk9; have hS := hS1; clear hS1; simp only [List.cons_append, List.nil_append] at hS) )
    try clear hC
    refine hK.out _ _ _ (fun _ h => h) (by first | exact hS | exact hS.drop | exact hS.drop.drop | exact hS.drop.drop.drop | exact hS.drop.drop.drop.drop | exact hS.empty | exact hS.one 0 rfl | exact hS.one 1 rfl | exact hS.one 2 rfl | exact hS.one 3 rfl | exact hS.one 4 rfl | exact hS.one 5 rfl | exact hS.one 6 rfl | exact hS.one 7 rfl | exact hS.one 8 rfl | exact hS.one 9 rfl | exact hS.one 10 rfl | exact hS.one 11 rfl | exact hS.toPart (by simp)) (fun hC => ?_)
    clear hK K
    try simp only [List.getElem_toArray, List.getElem_cons_succ, List.getElem_cons_zero, Act.put, List.setIfInBounds_toArray, List.set_cons_zero, List.set_cons_succ]
    refine wpAnyH_done (by kernel_rfl) ?_ _
    exact ⟨sv9, wv9, rfl, hS⟩
  intro rsv1 rwv1 w8 hS
  clear cA cB hsl
  cases ok with
  | false =>
    have cX := Lib.hid (cBad.out rfl)
    clear cBad cOk hrO hok
    have hcl := hS.cell 1 rfl
    go_wp2_with (first
      | ((with_reducible refine wpList_alloc_st hS rfl rfl ez ?_); intro g7 w1 hS1; clear hS hcl; have hS := hS1; clear hS1)
      | ((with_reducible refine wpList_storerow_st 0 hS rfl rfl rfl rfl (by kernel_rfl) rfl rfl rfl rfl ?_); intro w1 hS1; clear hS; have hS := hS1; clear hS1; try simp only [List.set_cons_zero, List.set_cons_succ, List.setIfInBounds_toArray, List.take_succ_cons, List.take_zero, List.drop_succ_cons, List.drop_zero, List.nil_append, List.cons_append, List.append_nil, List.drop_nil, List.take_nil, List.length_cons, List.length_nil, Nat.zero_add, Nat.add_zero, Nat.reduceAdd] at hS)
      | (go_at_call 49; have hS2 := St.mid0 (A := [_, _]) (B := rdp37 (plr (.pointer (some ⟨bd, 0, none⟩)) (.pointer (some ⟨g2, 0, none⟩)) r) g rsv1 rwv1 d1) (C := [_]) (R := dks bd sv wv1 d1) hS; (with_reducible refine (cX.out _ _ _ _ _ (St.preM hS2)).mono ?_); rintro _ w10 ⟨rfl, hk10⟩; have hS3 := St.callM hS2 hk10; clear hS hS2 hk10; have hS := hS3; clear hS3)
      | (with_reducible refine wpList_box_st hS rfl rfl rfl ?_; intro g1 w1 hS1; clear hS; replace hS := hS1; clear hS1) | (with_reducible refine wpList_box1_st hS rfl rfl rfl ?_; intro g1 w1 hS1; clear hS; replace hS := hS1; clear hS1) | (with_reducible refine wpList_alloc_st hS rfl rfl (by assumption) ?_; intro g1 w1 hS1; clear hS; replace hS := hS1; clear hS1) | (with_reducible refine wpList_alloc1_st hS rfl rfl (by assumption) rfl ?_; intro g1 w1 hS1; clear hS; replace hS := hS1; clear hS1) | ((with_reducible refine wpList_load_st 0 hS rfl rfl rfl rfl ?_ rfl ?_); focus (simp [scalarB, go_sem]; done)) | ((with_reducible refine wpList_loadall_st 0 hS rfl rfl rfl rfl ?_ (by kernel_rfl) ?_); focus (simp [rowB, go_sem]; done)) | ((with_reducible refine wpList_store_st 0 hS rfl rfl rfl rfl (by kernel_rfl) rfl rfl ?_); intro w1 hS1; clear hS; replace hS := hS1; clear hS1; try simp only [List.set_cons_zero, List.set_cons_succ, List.setIfInBounds_toArray, List.take_succ_cons, List.take_zero, List.drop_succ_cons, List.drop_zero, List.nil_append, List.cons_append, List.append_nil, List.drop_nil, List.take_nil, List.length_cons, List.length_nil, Nat.zero_add, Nat.add_zero, Nat.reduceAdd] at hS) | ((with_reducible refine wpList_storerow_st 0 hS rfl rfl rfl rfl (by kernel_rfl) rfl rfl rfl rfl ?_); intro w1 hS1; clear hS; replace hS := hS1; clear hS1; try simp only [List.set_cons_zero, List.set_cons_succ, List.setIfInBounds_toArray, List.take_succ_cons, List.take_zero, List.drop_succ_cons, List.drop_zero, List.nil_append, List.cons_append, List.append_nil, List.drop_nil, List.take_nil, List.length_cons, List.length_nil, Nat.zero_add, Nat.add_zero, Nat.reduceAdd] at hS) | ((with_reducible refine wpList_load_st 1 hS rfl rfl rfl rfl ?_ rfl ?_); focus (simp [scalarB, go_sem]; done)) | ((with_reducible refine wpList_loadall_st 1 hS rfl rfl rfl rfl ?_ (by kernel_rfl) ?_); focus (simp [rowB, go_sem]; done)) | ((with_reducible refine wpList_store_st 1 hS rfl rfl rfl rfl (by kernel_rfl) rfl rfl ?_); intro w1 hS1; clear hS; replace hS := hS1; clear hS1; try simp only [List.set_cons_zero, List.set_cons_succ, List.setIfInBounds_toArray, List.take_succ_cons, List.take_zero, List.drop_succ_cons, List.drop_zero, List.nil_append, List.cons_append, List.append_nil, List.drop_nil, List.take_nil, List.length_cons, List.length_nil, Nat.zero_add, Nat.add_zero, Nat.reduceAdd] at hS) | ((with_reducible refine wpList_storerow_st 1 hS rfl rfl rfl rfl (by kernel_rfl) rfl rfl rfl rfl ?_); intro w1 hS1; clear hS; replace hS := hS1; clear hS1; try simp only [List.set_cons_zero, List.set_cons_succ, List.setIfInBounds_toArray, List.take_succ_cons, List.take_zero, List.drop_succ_cons, List.drop_zero, List.nil_append, List.cons_append, List.append_nil, List.drop_nil, List.take_nil, List.length_cons, List.length_nil, Nat.zero_add, Nat.add_zero, Nat.reduceAdd] at hS) | ((with_reducible refine wpList_load_st 2 hS rfl rfl rfl rfl ?_ rfl ?_); focus (simp [scalarB, go_sem]; done)) | ((with_reducible refine wpList_loadall_st 2 hS rfl rfl rfl rfl ?_ (by kernel_rfl) ?_); focus (simp [rowB, go_sem]; done)) | ((with_reducible refine wpList_store_st 2 hS rfl rfl rfl rfl (by kernel_rfl) rfl rfl ?_); intro w1 hS1; clear hS; replace hS := hS1; clear hS1; try simp only [List.set_cons_zero, List.set_cons_succ, List.setIfInBounds_toArray, List.take_succ_cons, List.take_zero, List.drop_succ_cons, List.drop_zero, List.nil_append, List.cons_append, List.append_nil, List.drop_nil, List.take_nil, List.length_cons, List.length_nil, Nat.zero_add, Nat.add_zero, Nat.reduceAdd] at hS) | ((with_reducible refine wpList_storerow_st 2 hS rfl rfl rfl rfl (by kernel_rfl) rfl rfl rfl rfl ?_); intro w1 hS1; clear hS; replace hS := hS1; clear hS1; try simp only [List.set_cons_zero, List.set_cons_succ, List.setIfInBounds_toArray, List.take_succ_cons, List.take_zero, List.drop_succ_cons, List.drop_zero, List.nil_append, List.cons_append, List.append_nil, List.drop_nil, List.take_nil, List.length_cons, List.length_nil, Nat.zero_add, Nat.add_zero, Nat.reduceAdd] at hS))
    all_goals
      go_ret
      refine ⟨rfl, g2, sv, wv1, rsv1, rwv1, d1, r, hr, hF2, ?_⟩
      have h1 := St.mid (A := []) (B := [_]) (C := rdp37 (plr (.pointer (some ⟨bd, 0, none⟩)) (.pointer (some ⟨g2, 0, none⟩)) r) g rsv1 rwv1 d1) (R := dks bd sv wv1 d1 ++ []) (by simpa using hS.drop.drop)
      simpa [plays] using h1
  | true =>
    have cX := Lib.hid (cOk.out rfl)
    clear cBad cOk hok
    have hcl := hS.cell 1 rfl
    go_wp2_with (first
      | ((with_reducible refine wpList_alloc_st hS rfl rfl ez ?_); intro g7 w1 hS1; clear hS hcl; have hS := hS1; clear hS1)
      | ((with_reducible refine wpList_storerow_st 0 hS rfl rfl rfl rfl (by kernel_rfl) rfl rfl rfl rfl ?_); intro w1 hS1; clear hS; have hS := hS1; clear hS1; try simp only [List.set_cons_zero, List.set_cons_succ, List.setIfInBounds_toArray, List.take_succ_cons, List.take_zero, List.drop_succ_cons, List.drop_zero, List.nil_append, List.cons_append, List.append_nil, List.drop_nil, List.take_nil, List.length_cons, List.length_nil, Nat.zero_add, Nat.add_zero, Nat.reduceAdd] at hS)
      | (go_at_call 49; have hS2 := St.mid0 (A := [_, _]) (B := rdp37 (plr (.pointer (some ⟨bd, 0, none⟩)) (.pointer (some ⟨g2, 0, none⟩)) r) g rsv1 rwv1 d1) (C := [_]) (R := dks bd sv wv1 d1) hS; (with_reducible refine (cX.out _ _ _ _ _ (St.preM hS2)).mono ?_); rintro _ w10 ⟨rfl, g10, t10, recs10, hr10, hk10⟩; have hS3 := St.callM hS2 hk10; clear hS hS2 hk10; have hS := hS3; clear hS3)
      | (with_reducible refine wpList_box_st hS rfl rfl rfl ?_; intro g1 w1 hS1; clear hS; replace hS := hS1; clear hS1) | (with_reducible refine wpList_box1_st hS rfl rfl rfl ?_; intro g1 w1 hS1; clear hS; replace hS := hS1; clear hS1) | (with_reducible refine wpList_alloc_st hS rfl rfl (by assumption) ?_; intro g1 w1 hS1; clear hS; replace hS := hS1; clear hS1) | (with_reducible refine wpList_alloc1_st hS rfl rfl (by assumption) rfl ?_; intro g1 w1 hS1; clear hS; replace hS := hS1; clear hS1) | ((with_reducible refine wpList_load_st 0 hS rfl rfl rfl rfl ?_ rfl ?_); focus (simp [scalarB, go_sem]; done)) | ((with_reducible refine wpList_loadall_st 0 hS rfl rfl rfl rfl ?_ (by kernel_rfl) ?_); focus (simp [rowB, go_sem]; done)) | ((with_reducible refine wpList_store_st 0 hS rfl rfl rfl rfl (by kernel_rfl) rfl rfl ?_); intro w1 hS1; clear hS; replace hS := hS1; clear hS1; try simp only [List.set_cons_zero, List.set_cons_succ, List.setIfInBounds_toArray, List.take_succ_cons, List.take_zero, List.drop_succ_cons, List.drop_zero, List.nil_append, List.cons_append, List.append_nil, List.drop_nil, List.take_nil, List.length_cons, List.length_nil, Nat.zero_add, Nat.add_zero, Nat.reduceAdd] at hS) | ((with_reducible refine wpList_storerow_st 0 hS rfl rfl rfl rfl (by kernel_rfl) rfl rfl rfl rfl ?_); intro w1 hS1; clear hS; replace hS := hS1; clear hS1; try simp only [List.set_cons_zero, List.set_cons_succ, List.setIfInBounds_toArray, List.take_succ_cons, List.take_zero, List.drop_succ_cons, List.drop_zero, List.nil_append, List.cons_append, List.append_nil, List.drop_nil, List.take_nil, List.length_cons, List.length_nil, Nat.zero_add, Nat.add_zero, Nat.reduceAdd] at hS) | ((with_reducible refine wpList_load_st 1 hS rfl rfl rfl rfl ?_ rfl ?_); focus (simp [scalarB, go_sem]; done)) | ((with_reducible refine wpList_loadall_st 1 hS rfl rfl rfl rfl ?_ (by kernel_rfl) ?_); focus (simp [rowB, go_sem]; done)) | ((with_reducible refine wpList_store_st 1 hS rfl rfl rfl rfl (by kernel_rfl) rfl rfl ?_); intro w1 hS1; clear hS; replace hS := hS1; clear hS1; try simp only [List.set_cons_zero, List.set_cons_succ, List.setIfInBounds_toArray, List.take_succ_cons, List.take_zero, List.drop_succ_cons, List.drop_zero, List.nil_append, List.cons_append, List.append_nil, List.drop_nil, List.take_nil, List.length_cons, List.length_nil, Nat.zero_add, Nat.add_zero, Nat.reduceAdd] at hS) | ((with_reducible refine wpList_storerow_st 1 hS rfl rfl rfl rfl (by kernel_rfl) rfl rfl rfl rfl ?_); intro w1 hS1; clear hS; replace hS := hS1; clear hS1; try simp only [List.set_cons_zero, List.set_cons_succ, List.setIfInBounds_toArray, List.take_succ_cons, List.take_zero, List.drop_succ_cons, List.drop_zero, List.nil_append, List.cons_append, List.append_nil, List.drop_nil, List.take_nil, List.length_cons, List.length_nil, Nat.zero_add, Nat.add_zero, Nat.reduceAdd] at hS) | ((with_reducible refine wpList_load_st 2 hS rfl rfl rfl rfl ?_ rfl ?_); focus (simp [scalarB, go_sem]; done)) | ((with_reducible refine wpList_loadall_st 2 hS rfl rfl rfl rfl ?_ (by kernel_rfl) ?_); focus (simp [rowB, go_sem]; done)) | ((with_reducible refine wpList_store_st 2 hS rfl rfl rfl rfl (by kernel_rfl) rfl rfl ?_); intro w1 hS1; clear hS; replace hS := hS1; clear hS1; try simp only [List.set_cons_zero, List.set_cons_succ, List.setIfInBounds_toArray, List.take_succ_cons, List.take_zero, List.drop_succ_cons, List.drop_zero, List.nil_append, List.cons_append, List.append_nil, List.drop_nil, List.take_nil, List.length_cons, List.length_nil, Nat.zero_add, Nat.add_zero, Nat.reduceAdd] at hS) | ((with_reducible refine wpList_storerow_st 2 hS rfl rfl rfl rfl (by kernel_rfl) rfl rfl rfl rfl ?_); intro w1 hS1; clear hS; replace hS := hS1; clear hS1; try simp only [List.set_cons_zero, List.set_cons_succ, List.setIfInBounds_toArray, List.take_succ_cons, List.take_zero, List.drop_succ_cons, List.drop_zero, List.nil_append, List.cons_append, List.append_nil, List.drop_nil, List.take_nil, List.length_cons, List.length_nil, Nat.zero_add, Nat.add_zero, Nat.reduceAdd] at hS))
    all_goals
      go_ret
      exact ⟨rfl, g10, sv, wv1, rsv1, rwv1, d1, _, hrO.out _ _ hr10, hF2, by simpa [plays] using hS.drop.drop.drop⟩

/-- Any act. -/
theorem does37_any (bd g g2 : Nat) (sv wv rsv rwv : Value) (d : Dk) (r : Rg) (size k : Nat) (kind n : Int) (s : ByteArray) (a : Option Addr) (keep : List Int) (kc : Nat) (c : UInt8) (w : World) (hD : St w (feet (plays g bd g2 sv wv rsv rwv d r)) (plays g bd g2 sv wv rsv rwv d r) w) (hr : r.Ok size) (hfit : d.Fit size k) (hs2 : size ≤ 1000) (hk : k ≤ 90000)
    (hn : -9223372036854775808 ≤ n ∧ n ≤ 9223372036854775807) (hsz : s.size ≤ 500) (hks : Sl w a (keep.map vi)) (hkb : ∀ z ∈ keep, z ≤ 9223372036854775807) (hkm : keep.length ≤ maxLen) (hap : 0 < keep.length → ∀ b o, a = some ⟨b, o, none⟩ → b ∉ feet (plays g bd g2 sv wv rsv rwv d r)) :
    Calls Try.prog 50 #[.pointer (some ⟨g, 0, none⟩), .agg #[.int .i64 kind, .int .i64 n, .string s, .slice a keep.length kc, vb c]] w fun e w' => e = .returned (.bool true) ∧ PlayTo w (feet (plays g bd g2 sv wv rsv rwv d r)) g bd size (k + 10) w' := by
  by_cases h0 : kind = 0
  · subst h0
    exact does37_0 bd g g2 sv wv rsv rwv d r size k n s a keep.length kc c w hD hr hfit hs2 hk hsz
  by_cases h1 : kind = 1
  · subst h1
    exact does37_1 bd g g2 sv wv rsv rwv d r size k n s a keep.length kc c w hD hr hfit hs2 hk
  by_cases h2 : kind = 2
  · subst h2
    exact does37_2 bd g g2 sv wv rsv rwv d r size k n s a keep.length kc c w hD hr hfit hs2 hk hn
  by_cases h3 : kind = 3
  · subst h3
    exact does37_3 bd g g2 sv wv rsv rwv d r size k n s a keep.length kc c w hD hr hfit hs2 hk hn
  by_cases h4 : kind = 4
  · subst h4
    exact does37_4 bd g g2 sv wv rsv rwv d r size k n s a keep kc c w hD hr hfit hs2 hk hks hkb hkm hap
  exact does37_w bd g g2 sv wv rsv rwv d r size k n s a keep.length kc c kind w hD hr hfit hs2 hk hn h0 h1 h2 h3 h4
end Go.Proofs.Ytlhpibniecfofaa
end
