/- Roots: the chapter's example, walked; To and From. -/
import Derived.Test.YtlhpibniecfofaaRoot6
import Derived.Test.YtlhpibniecfofaaRoot7
import Derived.Test.YtlhpibniecfofaaRoot8
set_option linter.unusedSimpArgs false
set_option linter.unusedVariables false
namespace Go.Proofs.Ytlhpibniecfofaa
open Go.RowKit Go.Ofp
set_option linter.unusedVariables false
set_option maxRecDepth 100000
set_option maxHeartbeats 4000000

theorem awake38_any (w : World) : Calls Try.prog 26 #[] w fun e w' => e = .returned (.bool true) ∧ Below w.heap.size w w' := by
  obtain ⟨r1, hr1⟩ : ∃ x : Rt, ⟨1, 1, 0⟩ = x := ⟨_, rfl⟩
  obtain ⟨r2, hr2⟩ : ∃ x : Rt, ⟨2, 1, 7⟩ = x := ⟨_, rfl⟩
  have k1 : r1.ok = true := by rw [← hr1]; rfl
  have k2 : r2.ok = true := by rw [← hr2]; rfl
  have q1 : r1.seq % 2 = 1 := by rw [← hr1]; rfl
  have q2 : r2.seq % 2 = 0 := by rw [← hr2]; rfl
  obtain ⟨Z, hZ⟩ : ∃ z : Sc, ⟨List.replicate 64 0, false⟩ = z := ⟨_, rfl⟩
  have hrz : Dk.rootOf Z = (Rt.none, false) := by rw [← hZ]; exact Dk.rootOf_zero
  have hn : Dk.new 2 = Dk.two Z Z := by rw [← hZ]; rfl
  have f0 := Dk.Fit.new 2 (by omega)
  rw [hn] at f0
  have s1 := Dk.two_store1 Z Z r1 k1 q1
  have s2 := Dk.two_store0 Z ⟨r1.secB, false⟩ r2 k2 q2
  have f1 := f0.store r1
  rw [s1] at f1
  have f2 := f1.store r2
  rw [s2] at f2
  have l2 : (Dk.two ⟨r2.secB, false⟩ ⟨r1.secB, false⟩).load = (r2, 0) := by
    rw [Dk.two_load, Dk.rootOf_sec _ k1, Dk.rootOf_sec _ k2, ← hr1, ← hr2]
    rfl
  obtain ⟨zs, hzs⟩ : ∃ z : List UInt8, List.replicate 64 0 = z := ⟨_, rfl⟩
  have hzl : zs.length = 64 := by rw [← hzs]; simp
  have w3 := Dk.two_write0 ⟨r2.secB, false⟩ ⟨r1.secB, false⟩ zs hzl
  have f3 := f2.write 0 zs
  rw [w3] at f3
  simp only at f1 f2 f3
  obtain ⟨d3, hd3⟩ : ∃ d : Dk, ⟨[⟨r2.secB, false⟩, ⟨r1.secB, false⟩], [⟨0, zs⟩], -1, false⟩ = d := ⟨_, rfl⟩
  rw [hd3] at w3 f3
  have f4 := f3.crash [2]
  have c4 : d3.crash [2] = Dk.two ⟨r2.secB, true⟩ ⟨r1.secB, false⟩ := by rw [← hd3]; rfl
  rw [c4] at f4
  have l4 : (Dk.two ⟨r2.secB, true⟩ ⟨r1.secB, false⟩).load = (r1, 0) := by
    rw [Dk.two_load, Dk.rootOf_sec _ k1, Dk.rootOf_bad, ← hr1]
    rfl
  have cN : Calls Try.prog 11 #[.int .i64 2] w fun e w' => ∃ bd sv wv, e = .returned (.pointer (some ⟨bd, 0, none⟩)) ∧ St w [] (dks bd sv wv (Dk.two Z Z)) w' := hn ▸ new_any 2 w (by omega) (by omega)
  have cA := fun bd sv wv W h => tstore_any bd sv wv (Dk.two Z Z) 2 _ r1 W h f0 (by omega) (by omega)
  have cB := fun bd sv wv W h => tstore_any bd sv wv (Dk.two Z ⟨r1.secB, false⟩) 2 _ r2 W h f1 (by omega) (by omega)
  have cL := fun bd sv wv W h => tload_any bd sv wv (Dk.two ⟨r2.secB, false⟩ ⟨r1.secB, false⟩) 2 _ W h f2 (by omega) (by omega)
  have cW := fun bd sv wv W h => write_any bd sv wv (Dk.two ⟨r2.secB, false⟩ ⟨r1.secB, false⟩) 0 (str zs) W h (by rw [str_size, hzl]; unfold maxLen; omega) (by have := f2.wait; omega) f2.fuse
  rw [str_data] at cW
  have cC := fun bd sv wv (ak : Option Addr) W h hks hap => crash_any bd sv wv d3 ak [2] 1 1 W h f3.ok (by have := f3.wait; omega) hks (by simp) rfl (by simp [maxLen]) hap
  rw [c4] at cC
  have cM := fun bd sv wv W h => tload_any bd sv wv (Dk.two ⟨r2.secB, true⟩ ⟨r1.secB, false⟩) 2 _ W h f4 (by omega) (by omega)
  rw [s1] at cA
  rw [s2] at cB
  rw [l2] at cL
  rw [w3] at cW
  rw [l4] at cM
  simp only at cA cB cL cW cM
  generalize Dk.two ⟨r2.secB, true⟩ ⟨r1.secB, false⟩ = d4 at *
  generalize Dk.two ⟨r2.secB, false⟩ ⟨r1.secB, false⟩ = d2 at *
  generalize Dk.two Z ⟨r1.secB, false⟩ = d1 at *
  generalize Dk.two Z Z = d0 at *
  rw [← hr1] at cA cM
  rw [← hr2] at cB cL
  simp only at cA cB cL cM
  clear hr1 hr2 k1 k2 q1 q2 hZ hrz hn f0 f1 f2 f3 f4 s1 s2 l2 l4 w3 hd3 c4
  have em : Elem Try.prog 5 (.int .u8 0) 1 1 := elem_byte
  have ez := elem_root
  have hmz : (madeCells (Value.int .u8 0).cells (64 * 1)).toList = zs.map vb := by
    rw [← hzs]
    have := made_rows [Value.int .u8 0] 64 (by decide)
    refine this.trans ?_
    simp [vb]
  clear hzs
  replace cN := Lib.hid cN
  replace cA := Lib.hid cA
  replace cB := Lib.hid cB
  replace cL := Lib.hid cL
  replace cW := Lib.hid cW
  replace cC := Lib.hid cC
  replace cM := Lib.hid cM
  replace hmz := Lib.hid hmz
  replace hzl := Lib.hid hzl
  go_enter Try.func26, Try.ntmps26
  go_wp2_with (first
    | (go_at_call 11; (with_reducible refine cN.out.mono ?_); rintro _ w2 ⟨bd, sv, wv, rfl, hS⟩)
    | (go_at_call 35; (with_reducible refine (cA.out _ _ _ _ hS.pre0).mono ?_); rintro _ w3 ⟨rfl, wv3, hk⟩; have hS1 := hS.call0 hk; clear hS hk; have hS := hS1; clear hS1)
    | (go_at_call 35; (with_reducible refine (cB.out _ _ _ _ hS.pre0).mono ?_); rintro _ w3 ⟨rfl, wv3, hk⟩; have hS1 := hS.call0 hk; clear hS hk; have hS := hS1; clear hS1; have hS1 : St w [] (dks bd sv wv3 d2 ++ []) w3 := by { rw [List.append_nil]; exact hS }; clear hS; have hS := hS1; clear hS1)
    | (go_at_call 39; have hP := hS.pre _ [] rfl; (with_reducible refine (cL.out _ _ _ _ hP).mono ?_); clear hP; rintro _ w4 ⟨rfl, hk⟩; have hS1 := hS.call _ [] rfl hk; clear hS hk; have hS := hS1; clear hS1)
    | ((with_reducible refine wpList_alloc_st hS rfl rfl ez ?_); intro g4 w5 hS1; clear hS; have hS := hS1; clear hS1)
    | ((with_reducible refine wpList_storerow_st 0 hS rfl rfl rfl rfl (by kernel_rfl) rfl rfl rfl rfl ?_); intro w1 hS1; clear hS; have hS := hS1; clear hS1; try simp only [List.set_cons_zero, List.set_cons_succ, List.setIfInBounds_toArray, List.take_succ_cons, List.take_zero, List.drop_succ_cons, List.drop_zero, List.nil_append, List.cons_append, List.append_nil, List.drop_nil, List.take_nil, List.length_cons, List.length_nil, Nat.zero_add, Nat.add_zero, Nat.reduceAdd] at hS; have hcl := hS.cell 0 rfl; have hcm := hS.cell 1 rfl)
    | (at_make; refine wpList_mkfull_st hS rfl rfl Try.underlying127 em rfl rfl 64 rfl rfl (by omega) (by unfold maxLen; omega) ?_; intro g7 w7 hS1; clear hS; rw [hmz.out] at hS1; have hS := hS1; clear hS1)
    | ((with_reducible refine wpList_bts (l := zs) rfl rfl Try.underlying127 Try.underlying5 Try.underlying9 rfl (hS.rowsl 0 rfl) hzl.out.symm ?_); have hS1 := hS.drop; clear hS; have hS := hS1; clear hS1)
    | (go_at_call 17; (with_reducible refine (cW.out _ _ _ _ hS.pre1).mono ?_); rintro _ w8 ⟨rfl, wv8, hk⟩; have hS1 := hS.call1 hk; clear hS hk; have hS := hS1; clear hS1)
    | (go_at_call 21; have hA := hS.alloc #[.int .i64 2] 3; have hkb := hA.blksl 0 rfl; have hko : w8.heap.size ∉ feet (dks bd sv wv8 d3 ++ []) := (feet_off (A := [Ch.blk g4 _ _]) (hA.off0 w8.heap.size (by simp [Ch.blk]))).2; have hko2 := (feet_off hko).1; clear hS hko; have hS := hA.drop; clear hA; (refine (cC.out _ _ _ _ _ hS.pre1 hkb (by rintro _ b o e; cases e; exact hko2)).mono ?_); rintro _ w9 ⟨rfl, wv9, hk⟩; have hS1 := hS.call1 hk; clear hS hk hkb hko2; have hS := hS1; clear hS1)
    | (go_at_call 39; (with_reducible refine (cM.out _ _ _ _ hS.pre1).mono ?_); rintro _ w4 ⟨rfl, hk⟩; have hS1 := hS.call1 hk; clear hS hk; have hS := hS1; clear hS1))
  go_ret
  exact ⟨rfl, hS.below⟩
end Go.Proofs.Ytlhpibniecfofaa
