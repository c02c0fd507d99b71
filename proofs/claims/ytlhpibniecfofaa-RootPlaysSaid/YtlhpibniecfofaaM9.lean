/- Texts laid together: RootFalls DiskRef. -/
import Derived.Test.YtlhpibniecfofaaM2
import Derived.Test.YtlhpibniecfofaaM4
import Derived.Test.YtlhpibniecfofaaM8
section
/- The law RootFalls: the walk of it. -/
set_option linter.unusedSimpArgs false
set_option linter.unusedVariables false
namespace Go.Ofp
open Go.RowKit
/-- An operation that only reads. -/
theorem op_pure_st {P : Program} {w : World} {ops : Array Oper} {o : Oper} {a : Act} {Q : Exit → Act → World → Prop} {K : Act → World → Prop} (hw : Region.wanted o (yielded ops a.tmps) = true) {u : Value} (hr : (execOp a.eval o).run P w = .ok (.value u) w) (h : K (a.put o.dst u) w) :
    if Region.wanted o (yielded ops a.tmps) = true then Oper.wp P o a w K Q else K (a.put o.dst undef) w := by
  rw [if_pos hw]
  unfold Oper.wp
  rw [hr]
  exact h
namespace Dk
theorem Fit.zero {d : Dk} {n k : Nat} (h : d.Fit n k) (hw : d.wait = []) : d.Fit n 0 := ⟨h.ok, h.sec, by rw [hw]; simp, h.fuse⟩
theorem first_store (s : Nat) (hs : s ≤ 65535) : ∃ a b, (new 2).store ⟨1 + s, 1, 0⟩ = (two a b, 0) ∧ Holds a b ⟨1 + s, 1, 0⟩ ∧ (two a b).Fit 2 0 := by
  have hx : (⟨1 + (s : Int), 1, 0⟩ : Rt).ok = true := by rw [Rt.ok_iff]; simp; omega
  have hn : new 2 = two ⟨List.replicate 64 0, false⟩ ⟨List.replicate 64 0, false⟩ := rfl
  have hz : Less ⟨List.replicate 64 0, false⟩ ⟨1 + (s : Int), 1, 0⟩ := by
    intro k
    rw [rootOf_zero] at k
    cases k
  have hf := (Fit.new 2 (by omega)).store ⟨1 + (s : Int), 1, 0⟩
  rw [hn] at hf ⊢
  by_cases hp : (1 + (s : Int)) % 2 = 1
  · have e := two_store1 ⟨List.replicate 64 0, false⟩ ⟨List.replicate 64 0, false⟩ ⟨1 + (s : Int), 1, 0⟩ hx hp
    rw [e] at hf ⊢
    exact ⟨_, _, rfl, ⟨hx, .inr ⟨hp, rfl, hz⟩⟩, hf.zero rfl⟩
  · have hp0 : (1 + (s : Int)) % 2 = 0 := by omega
    have e := two_store0 ⟨List.replicate 64 0, false⟩ ⟨List.replicate 64 0, false⟩ ⟨1 + (s : Int), 1, 0⟩ hx hp0
    rw [e] at hf ⊢
    exact ⟨_, _, rfl, ⟨hx, .inl ⟨hp0, rfl, hz⟩⟩, hf.zero rfl⟩
end Dk
end Go.Ofp
namespace Go.Proofs.Ytlhpibniecfofaa
open Go.RowKit Go.Ofp
set_option linter.unusedVariables false
set_option maxRecDepth 100000
set_option maxHeartbeats 4000000

theorem fall_nums (now x : Rt) (s1 s2 s3 n z : Int) (hn : now.ok = true) (hm : now.seq ≤ 80000) (h1 : IntKind.i64.wrap (now.seq + 1) = s1) (h2 : IntKind.i64.wrap (1 + (if x.life < 0 then 0 else x.life).tmod 1000) = s2) (h3 : (if x.head < 0 then 0 else x.head).tmod 1000 = s3) (hz : (if n < 0 then 0 else n).tmod 4 = z) :
    (⟨s1, s2, s3⟩ : Rt).ok = true ∧ s1 = now.seq + 1 ∧ (0 ≤ z ∧ z < 4) := by
  have k := now.ok_iff.1 hn
  have b1 : 0 ≤ (if x.life < 0 then 0 else x.life) := by split <;> omega
  have b2 : 0 ≤ (if x.head < 0 then 0 else x.head) := by split <;> omega
  have b3 : 0 ≤ (if n < 0 then 0 else n) := by split <;> omega
  rw [Int.tmod_eq_emod_of_nonneg b1, IntWalk.i64_in _ (by omega)] at h2
  rw [Int.tmod_eq_emod_of_nonneg b2] at h3
  rw [Int.tmod_eq_emod_of_nonneg b3] at hz
  rw [IntWalk.i64_in _ (by omega)] at h1
  rw [Rt.ok_iff]
  simp only
  omega

theorem falls38_any (sq : Nat) (a : Option Addr) (n c : Nat) (l : List Ra) (w : World) (h1 : Ras w a n c l) (hq : sq ≤ 65535) :
    Calls Try.prog 6 #[.int .u16 sq, .slice a n c] w fun e w' => e = .returned (.bool true) ∧ Below w.heap.size w w' := by
  have cN : Calls Try.prog 11 #[.int .i64 2] w fun e w' => ∃ bd sv wv, e = .returned (.pointer (some ⟨bd, 0, none⟩)) ∧ St w [] (dks bd sv wv (Dk.new 2)) w' := new_any 2 w (by omega) (by omega)
  obtain ⟨A0, B0, hst, hh0, hf0⟩ := Dk.first_store sq hq
  have cS := fun bd sv wv W hh => tstore_any bd sv wv (Dk.new 2) 2 0 ⟨1 + (sq : Int), 1, 0⟩ W hh (Dk.Fit.new 2 (by omega)) (by omega) (by omega)
  rw [hst] at cS
  simp only at cS
  have cA := awake38_any
  have ez := elem_root
  generalize Dk.new 2 = D0 at *
  have hnm : n ≤ 9223372036854775807 := by have := h1.le; have := h1.cm; unfold maxLen at this; omega
  clear hst
  replace cN := Lib.hid cN
  replace cS := Lib.hid cS
  replace cA := Lib.hid cA
  replace h1 := Lib.hid h1
  have hw64 : wrap64 (sq : Int) = sq := by rw [← IntWalk.i64_left, IntWalk.i64_in _ (by omega)]
  have hw65 : wrap64 (1 + (sq : Int)) = 1 + sq := by rw [← IntWalk.i64_left, IntWalk.i64_in _ (by omega)]
  go_enter Try.func6, Try.ntmps6
  go_wp2_with (first
    | (go_at_call 11; (with_reducible refine cN.out.mono ?_); rintro _ w2 ⟨bd, sv, wv, rfl, hS⟩; have hS1 : St w [] (dks bd sv wv D0 ++ []) w2 := by { rw [List.append_nil]; exact hS }; clear hS; have hS := hS1; clear hS1)
    | (go_at_call 35; (with_reducible refine (cS.out _ _ _ _ hS.pre1).mono ?_); rintro _ w3 ⟨rfl, wv3, hk⟩; have hS1 := hS.call1 hk; clear hS hk; have hS := hS1; clear hS1)
    | (with_reducible refine wpList_box_st hS rfl rfl rfl ?_; intro g1 w1 hS1; clear hS; replace hS := hS1; clear hS1) | (with_reducible refine wpList_box1_st hS rfl rfl rfl ?_; intro g1 w1 hS1; clear hS; replace hS := hS1; clear hS1) | (with_reducible refine wpList_alloc_st hS rfl rfl (by assumption) ?_; intro g1 w1 hS1; clear hS; replace hS := hS1; clear hS1) | (with_reducible refine wpList_alloc1_st hS rfl rfl (by assumption) rfl ?_; intro g1 w1 hS1; clear hS; replace hS := hS1; clear hS1) | ((with_reducible refine wpList_load_st 0 hS rfl rfl rfl rfl ?_ rfl ?_); focus (simp [scalarB, go_sem]; done)) | ((with_reducible refine wpList_loadall_st 0 hS rfl rfl rfl rfl ?_ (by kernel_rfl) ?_); focus (simp [rowB, go_sem]; done)) | ((with_reducible refine wpList_store_st 0 hS rfl rfl rfl rfl (by kernel_rfl) rfl rfl ?_); intro w1 hS1; clear hS; replace hS := hS1; clear hS1; try simp only [List.set_cons_zero, List.set_cons_succ, List.setIfInBounds_toArray, List.take_succ_cons, List.take_zero, List.drop_succ_cons, List.drop_zero, List.nil_append, List.cons_append, List.append_nil, List.drop_nil, List.take_nil, List.length_cons, List.length_nil, Nat.zero_add, Nat.add_zero, Nat.reduceAdd] at hS) | ((with_reducible refine wpList_storerow_st 0 hS rfl rfl rfl rfl (by kernel_rfl) rfl rfl rfl rfl ?_); intro w1 hS1; clear hS; replace hS := hS1; clear hS1; try simp only [List.set_cons_zero, List.set_cons_succ, List.setIfInBounds_toArray, List.take_succ_cons, List.take_zero, List.drop_succ_cons, List.drop_zero, List.nil_append, List.cons_append, List.append_nil, List.drop_nil, List.take_nil, List.length_cons, List.length_nil, Nat.zero_add, Nat.add_zero, Nat.reduceAdd] at hS))
  clear cN cS hw64 hw65
  go_loopg [7] n (fun gk vx wr => ∃ (j : Nat) (A B : Sc) (now : Rt) (wv' : Value), j + gk = n ∧ j ≤ 40 ∧ vx = .int .i64 j ∧ Hid (Dk.Holds A B now ∧ now.seq ≤ 70000 + j ∧ (Dk.two A B).Fit 2 0) ∧ St w [] (Ch.blk g1 50 #[.int .i64 now.seq, .int .i64 now.life, .int .i64 now.head] :: (dks bd sv wv' (Dk.two A B) ++ [])) wr)
  case atStart => exact ⟨0, A0, B0, ⟨1 + sq, 1, 0⟩, wv3, Nat.zero_add _, by omega, rfl, Lib.hid ⟨hh0, by simp; omega, hf0⟩, hS⟩
  case round =>
    clear hS hh0 hf0
    obtain ⟨j, A, B, now, wv', hj, hj40, rfl, hI, hS⟩ := hrel
    have hend : (j < n ∧ j < 40) ∨ ¬ (j < n ∧ j < 40) := Classical.em _
    rcases hend with ⟨hlt, hl1⟩ | hend
    · have hjl : j < l.length := by rw [h1.out.len]; exact hlt
      obtain ⟨b, off, rfl, hc⟩ := h1.out.get j hjl
      have hxm := h1.out.mem l[j] (List.getElem_mem hjl)
      generalize l[j] = x at *
      have p1 : w.cell? ⟨b, off + j * 7 + 1, none⟩ = some (.int .i64 x.n) := hc 1 _ rfl
      have p3 : w.cell? ⟨b, off + j * 7 + 2 + 1, none⟩ = some (.int .i64 x.x.life) := hc 3 _ rfl
      have p4 : w.cell? ⟨b, off + j * 7 + 2 + 2, none⟩ = some (.int .i64 x.x.head) := hc 4 _ rfl
      have p5 : w.cell? ⟨b, off + j * 7 + 5, none⟩ = some (.slice x.a x.keep.length x.kc) := hc 5 _ rfl
      clear hc
      have q5 := hS.old p5 (by simp)
      by_cases hk60 : x.keep.length ≤ 60
      · clear cA
        go_wp2_with (first
          | (with_reducible refine wpList_box_st hS rfl rfl rfl ?_; intro g1 w1 hS1; clear hS; replace hS := hS1; clear hS1) | (with_reducible refine wpList_box1_st hS rfl rfl rfl ?_; intro g1 w1 hS1; clear hS; replace hS := hS1; clear hS1) | (with_reducible refine wpList_alloc_st hS rfl rfl (by assumption) ?_; intro g1 w1 hS1; clear hS; replace hS := hS1; clear hS1) | (with_reducible refine wpList_alloc1_st hS rfl rfl (by assumption) rfl ?_; intro g1 w1 hS1; clear hS; replace hS := hS1; clear hS1) | ((with_reducible refine wpList_load_st 0 hS rfl rfl rfl rfl ?_ rfl ?_); focus (simp [scalarB, go_sem]; done)) | ((with_reducible refine wpList_loadall_st 0 hS rfl rfl rfl rfl ?_ (by kernel_rfl) ?_); focus (simp [rowB, go_sem]; done)) | ((with_reducible refine wpList_store_st 0 hS rfl rfl rfl rfl (by kernel_rfl) rfl rfl ?_); intro w1 hS1; clear hS; replace hS := hS1; clear hS1; try simp only [List.set_cons_zero, List.set_cons_succ, List.setIfInBounds_toArray, List.take_succ_cons, List.take_zero, List.drop_succ_cons, List.drop_zero, List.nil_append, List.cons_append, List.append_nil, List.drop_nil, List.take_nil, List.length_cons, List.length_nil, Nat.zero_add, Nat.add_zero, Nat.reduceAdd] at hS) | ((with_reducible refine wpList_storerow_st 0 hS rfl rfl rfl rfl (by kernel_rfl) rfl rfl rfl rfl ?_); intro w1 hS1; clear hS; replace hS := hS1; clear hS1; try simp only [List.set_cons_zero, List.set_cons_succ, List.setIfInBounds_toArray, List.take_succ_cons, List.take_zero, List.drop_succ_cons, List.drop_zero, List.nil_append, List.cons_append, List.append_nil, List.drop_nil, List.take_nil, List.length_cons, List.length_nil, Nat.zero_add, Nat.add_zero, Nat.reduceAdd] at hS))
        revert hS
        apply wp_cut1
        · intro hS
          refine mixs_beginC 0 (by kernel_rfl) hS rfl ?_
          clear hS
          intro w6 hS hC
          have kC := hC.kblk 0 rfl
          have k3 := hC.kold0 p3
          have k4 := hC.kold0 p4
          refine mixs_take 0 (v := ?_) rfl (by kernel_rfl) (fun _ _ _ h => h) (by kernel_rfl) (by assumption) (fun s => ?hy) ?_; case hy => (go_simp <;> with_reducible rfl)
          try simp only [List.getElem_toArray, List.getElem_cons_succ, List.getElem_cons_zero, Act.put, List.setIfInBounds_toArray, List.set_cons_zero, List.set_cons_succ]
          refine mixs_take 1 (v := ?_) rfl (by kernel_rfl) (fun _ _ _ h => h) (by kernel_rfl) (by assumption) (fun s => ?hy) ?_; case hy => (go_simp <;> with_reducible rfl)
          try simp only [List.getElem_toArray, List.getElem_cons_succ, List.getElem_cons_zero, Act.put, List.setIfInBounds_toArray, List.set_cons_zero, List.set_cons_succ]
          refine mixs_take 2 (v := ?_) rfl (by kernel_rfl) (fun _ _ _ h => h) (by kernel_rfl) (by assumption) (fun s => ?hy) ?_; case hy => (go_simp <;> with_reducible rfl)
          try simp only [List.getElem_toArray, List.getElem_cons_succ, List.getElem_cons_zero, Act.put, List.setIfInBounds_toArray, List.set_cons_zero, List.set_cons_succ]
          refine mixs_take 3 (v := ?_) rfl (by kernel_rfl) (fun _ _ _ h => h) (by kernel_rfl) (by assumption) (fun s => ?hy) ?_; case hy => (go_simp <;> with_reducible rfl)
          try simp only [List.getElem_toArray, List.getElem_cons_succ, List.getElem_cons_zero, Act.put, List.setIfInBounds_toArray, List.set_cons_zero, List.set_cons_succ]
          refine mixs_take 4 (v := ?_) rfl (by kernel_rfl) (fun _ _ _ h => h) (by kernel_rfl) (by assumption) (fun s => ?hy) ?_; case hy => (go_simp <;> with_reducible rfl)
          try simp only [List.getElem_toArray, List.getElem_cons_succ, List.getElem_cons_zero, Act.put, List.setIfInBounds_toArray, List.set_cons_zero, List.set_cons_succ]
          refine mixs_take 5 (v := ?_) rfl (by kernel_rfl) (fun _ _ _ h => h) (by kernel_rfl) (by assumption) (fun s => ?hy) ?_; case hy => (go_simp <;> with_reducible rfl)
          try simp only [List.getElem_toArray, List.getElem_cons_succ, List.getElem_cons_zero, Act.put, List.setIfInBounds_toArray, List.set_cons_zero, List.set_cons_succ]
          refine mixs_take 6 (v := ?_) rfl (by kernel_rfl) (fun _ _ _ h => h) (by kernel_rfl) (by assumption) (fun s => ?hy) ?_; case hy => (go_simp <;> with_reducible rfl)
          try simp only [List.getElem_toArray, List.getElem_cons_succ, List.getElem_cons_zero, Act.put, List.setIfInBounds_toArray, List.set_cons_zero, List.set_cons_succ]
          refine mixs_take 7 (v := ?_) rfl (by kernel_rfl) (fun _ _ _ h => h) (by kernel_rfl) (by assumption) (fun s => ?hy) ?_; case hy => (go_simp <;> with_reducible rfl)
          try simp only [List.getElem_toArray, List.getElem_cons_succ, List.getElem_cons_zero, Act.put, List.setIfInBounds_toArray, List.set_cons_zero, List.set_cons_succ]
          refine mixs_take 8 (v := ?_) rfl (by kernel_rfl) (fun _ _ _ h => h) (by kernel_rfl) (by assumption) (fun s => ?hy) ?_; case hy => (go_simp <;> with_reducible rfl)
          try simp only [List.getElem_toArray, List.getElem_cons_succ, List.getElem_cons_zero, Act.put, List.setIfInBounds_toArray, List.set_cons_zero, List.set_cons_succ]
          refine mixs_take 12 (v := ?_) rfl (by kernel_rfl) (fun _ _ _ h => h) (by kernel_rfl) (by assumption) (fun s => ?hy) ?_; case hy => (go_simp <;> with_reducible rfl)
          try simp only [List.getElem_toArray, List.getElem_cons_succ, List.getElem_cons_zero, Act.put, List.setIfInBounds_toArray, List.set_cons_zero, List.set_cons_succ]
          refine mixs_take 13 (v := ?_) rfl (by kernel_rfl) (fun _ _ _ h => h) (by kernel_rfl) (by assumption) (fun s => ?hy) ?_; case hy => (go_simp <;> with_reducible rfl)
          try simp only [List.getElem_toArray, List.getElem_cons_succ, List.getElem_cons_zero, Act.put, List.setIfInBounds_toArray, List.set_cons_zero, List.set_cons_succ]
          refine mixs_take 14 (v := ?_) rfl (by kernel_rfl) (fun _ _ _ h => h) (by kernel_rfl) (by assumption) (fun s => ?hy) ?_; case hy => (go_simp <;> with_reducible rfl)
          try simp only [List.getElem_toArray, List.getElem_cons_succ, List.getElem_cons_zero, Act.put, List.setIfInBounds_toArray, List.set_cons_zero, List.set_cons_succ]
          refine mixs_take 15 (v := ?_) rfl (by kernel_rfl) (fun _ _ _ h => h) (by kernel_rfl) (by assumption) (fun s => ?hy) ?_; case hy => (go_simp <;> with_reducible rfl)
          try simp only [List.getElem_toArray, List.getElem_cons_succ, List.getElem_cons_zero, Act.put, List.setIfInBounds_toArray, List.set_cons_zero, List.set_cons_succ]
          refine mixs_take 16 (v := ?_) rfl (by kernel_rfl) (fun _ _ _ h => h) (by kernel_rfl) (by assumption) (fun s => ?hy) ?_; case hy => (go_simp <;> with_reducible rfl)
          try simp only [List.getElem_toArray, List.getElem_cons_succ, List.getElem_cons_zero, Act.put, List.setIfInBounds_toArray, List.set_cons_zero, List.set_cons_succ]
          refine mixs_take 17 (v := ?_) rfl (by kernel_rfl) (fun _ _ _ h => h) (by kernel_rfl) (by assumption) (fun s => ?hy) ?_; case hy => (go_simp <;> with_reducible rfl)
          try simp only [List.getElem_toArray, List.getElem_cons_succ, List.getElem_cons_zero, Act.put, List.setIfInBounds_toArray, List.set_cons_zero, List.set_cons_succ]
          refine mixs_three 9 18 21 (by kernel_rfl) rfl rfl rfl (fun K hK => ?_) (fun K hK => ?_) (fun K hK => ?_)
          ·
            ( (refine op_pure_st (by kernel_rfl) (u := ?_) ?_ ?_; rotate_left 1; focus (go_simp <;> with_reducible rfl)) )
            try clear hC
            refine hK.out _ _ _ (fun _ h => h) (by first | exact hS | exact hS.drop | exact hS.drop.drop | exact hS.drop.drop.drop | exact hS.drop.drop.drop.drop | exact hS.empty | exact hS.one 0 rfl | exact hS.one 1 rfl | exact hS.one 2 rfl | exact hS.one 3 rfl | exact hS.one 4 rfl | exact hS.one 5 rfl | exact hS.one 6 rfl | exact hS.one 7 rfl | exact hS.one 8 rfl | exact hS.one 9 rfl | exact hS.one 10 rfl | exact hS.one 11 rfl) (fun hC => ?_)
            clear hK K
            try simp only [List.getElem_toArray, List.getElem_cons_succ, List.getElem_cons_zero, Act.put, List.setIfInBounds_toArray, List.set_cons_zero, List.set_cons_succ]
            refine mixs_take 10 (v := ?_) rfl (by kernel_rfl) (fun _ _ _ h => h) (by kernel_rfl) (by assumption) (fun s => ?hy) ?_; case hy => (go_simp <;> with_reducible rfl)
            try simp only [List.getElem_toArray, List.getElem_cons_succ, List.getElem_cons_zero, Act.put, List.setIfInBounds_toArray, List.set_cons_zero, List.set_cons_succ]
            refine mixs_take 11 (v := ?_) rfl (by kernel_rfl) (fun _ _ _ h => h) (by kernel_rfl) (by assumption) (fun s => ?hy) ?_; case hy => (go_simp <;> with_reducible rfl)
            try simp only [List.getElem_toArray, List.getElem_cons_succ, List.getElem_cons_zero, Act.put, List.setIfInBounds_toArray, List.set_cons_zero, List.set_cons_succ]
            refine mixs_two 18 21 (by kernel_rfl) rfl rfl (fun K hK => ?_) (fun K hK => ?_)
            ·
              ( (refine op_pure_st (by kernel_rfl) (u := ?_) ?_ ?_; rotate_left 1; focus (go_simp <;> with_reducible rfl)) )
              try clear hC
              refine hK.out _ _ _ (fun _ h => h) (by first | exact hS | exact hS.drop | exact hS.drop.drop | exact hS.drop.drop.drop | exact hS.drop.drop.drop.drop | exact hS.empty | exact hS.one 0 rfl | exact hS.one 1 rfl | exact hS.one 2 rfl | exact hS.one 3 rfl | exact hS.one 4 rfl | exact hS.one 5 rfl | exact hS.one 6 rfl | exact hS.one 7 rfl | exact hS.one 8 rfl | exact hS.one 9 rfl | exact hS.one 10 rfl | exact hS.one 11 rfl) (fun hC => ?_)
              clear hK K
              try simp only [List.getElem_toArray, List.getElem_cons_succ, List.getElem_cons_zero, Act.put, List.setIfInBounds_toArray, List.set_cons_zero, List.set_cons_succ]
              refine mixs_take 19 (v := ?_) rfl (by kernel_rfl) (fun _ _ _ h => h) (by kernel_rfl) (by assumption) (fun s => ?hy) ?_; case hy => (go_simp <;> with_reducible rfl)
              try simp only [List.getElem_toArray, List.getElem_cons_succ, List.getElem_cons_zero, Act.put, List.setIfInBounds_toArray, List.set_cons_zero, List.set_cons_succ]
              refine mixs_take 20 (v := ?_) rfl (by kernel_rfl) (fun _ _ _ h => h) (by kernel_rfl) (by assumption) (fun s => ?hy) ?_; case hy => (go_simp <;> with_reducible rfl)
              try simp only [List.getElem_toArray, List.getElem_cons_succ, List.getElem_cons_zero, Act.put, List.setIfInBounds_toArray, List.set_cons_zero, List.set_cons_succ]
              refine mixs_one 21 (by kernel_rfl) rfl (fun K hK => ?_)
              refine op_alloc_st (by kernel_rfl) rfl (by assumption) hS ?_
              intro g1 w1 hS1; clear hS; have hS := hS1; clear hS1
              try clear hC
              refine hK.out _ _ _ (fun _ h => h) (by first | exact hS | exact hS.drop | exact hS.drop.drop | exact hS.drop.drop.drop | exact hS.drop.drop.drop.drop | exact hS.empty | exact hS.one 0 rfl | exact hS.one 1 rfl | exact hS.one 2 rfl | exact hS.one 3 rfl | exact hS.one 4 rfl | exact hS.one 5 rfl | exact hS.one 6 rfl | exact hS.one 7 rfl | exact hS.one 8 rfl | exact hS.one 9 rfl | exact hS.one 10 rfl | exact hS.one 11 rfl) (fun hC => ?_)
              clear hK K
              try simp only [List.getElem_toArray, List.getElem_cons_succ, List.getElem_cons_zero, Act.put, List.setIfInBounds_toArray, List.set_cons_zero, List.set_cons_succ]
              refine mixs_one 22 (by kernel_rfl) rfl (fun K hK => ?_)
              refine op_storerow_st (by kernel_rfl) 0 hS rfl rfl rfl (by kernel_rfl) rfl rfl rfl rfl ?_
              intro w1 hS1; clear hS; have hS := hS1; clear hS1; try simp only [List.set_cons_zero, List.set_cons_succ, List.setIfInBounds_toArray, List.take_succ_cons, List.take_zero, List.drop_succ_cons, List.drop_zero, List.nil_append, List.cons_append, List.append_nil, List.drop_nil, List.take_nil, List.length_cons, List.length_nil, Nat.zero_add, Nat.add_zero, Nat.reduceAdd] at hS
              try clear hC
              refine hK.out _ _ _ (fun _ h => h) (by first | exact hS | exact hS.drop | exact hS.drop.drop | exact hS.drop.drop.drop | exact hS.drop.drop.drop.drop | exact hS.empty | exact hS.one 0 rfl | exact hS.one 1 rfl | exact hS.one 2 rfl | exact hS.one 3 rfl | exact hS.one 4 rfl | exact hS.one 5 rfl | exact hS.one 6 rfl | exact hS.one 7 rfl | exact hS.one 8 rfl | exact hS.one 9 rfl | exact hS.one 10 rfl | exact hS.one 11 rfl) (fun hC => ?_)
              clear hK K
              try simp only [List.getElem_toArray, List.getElem_cons_succ, List.getElem_cons_zero, Act.put, List.setIfInBounds_toArray, List.set_cons_zero, List.set_cons_succ]
              refine wpAnyH_done (by kernel_rfl) ?_ _
              exact ⟨g1, rfl, hS⟩
            ·
              refine op_alloc_st (by kernel_rfl) rfl (by assumption) hS ?_
              intro g1 w1 hS1; clear hS; have hS := hS1; clear hS1
              try clear hC
              refine hK.out _ _ _ (fun _ h => h) (by first | exact hS | exact hS.drop | exact hS.drop.drop | exact hS.drop.drop.drop | exact hS.drop.drop.drop.drop | exact hS.empty | exact hS.one 0 rfl | exact hS.one 1 rfl | exact hS.one 2 rfl | exact hS.one 3 rfl | exact hS.one 4 rfl | exact hS.one 5 rfl | exact hS.one 6 rfl | exact hS.one 7 rfl | exact hS.one 8 rfl | exact hS.one 9 rfl | exact hS.one 10 rfl | exact hS.one 11 rfl) (fun hC => ?_)
              clear hK K
              try simp only [List.getElem_toArray, List.getElem_cons_succ, List.getElem_cons_zero, Act.put, List.setIfInBounds_toArray, List.set_cons_zero, List.set_cons_succ]
              refine mixs_one 18 (by kernel_rfl) rfl (fun K hK => ?_)
              ( (refine op_pure_st (by kernel_rfl) (u := ?_) ?_ ?_; rotate_left 1; focus (go_simp <;> with_reducible rfl)) )
              try clear hC
              refine hK.out _ _ _ (fun _ h => h) (by first | exact hS | exact hS.drop | exact hS.drop.drop | exact hS.drop.drop.drop | exact hS.drop.drop.drop.drop | exact hS.empty | exact hS.one 0 rfl | exact hS.one 1 rfl | exact hS.one 2 rfl | exact hS.one 3 rfl | exact hS.one 4 rfl | exact hS.one 5 rfl | exact hS.one 6 rfl | exact hS.one 7 rfl | exact hS.one 8 rfl | exact hS.one 9 rfl | exact hS.one 10 rfl | exact hS.one 11 rfl) (fun hC => ?_)
              clear hK K
              try simp only [List.getElem_toArray, List.getElem_cons_succ, List.getElem_cons_zero, Act.put, List.setIfInBounds_toArray, List.set_cons_zero, List.set_cons_succ]
              refine mixs_take 19 (v := ?_) rfl (by kernel_rfl) (fun _ _ _ h => h) (by kernel_rfl) (by assumption) (fun s => ?hy) ?_; case hy => (go_simp <;> with_reducible rfl)
              try simp only [List.getElem_toArray, List.getElem_cons_succ, List.getElem_cons_zero, Act.put, List.setIfInBounds_toArray, List.set_cons_zero, List.set_cons_succ]
              refine mixs_take 20 (v := ?_) rfl (by kernel_rfl) (fun _ _ _ h => h) (by kernel_rfl) (by assumption) (fun s => ?hy) ?_; case hy => (go_simp <;> with_reducible rfl)
              try simp only [List.getElem_toArray, List.getElem_cons_succ, List.getElem_cons_zero, Act.put, List.setIfInBounds_toArray, List.set_cons_zero, List.set_cons_succ]
              refine mixs_one 22 (by kernel_rfl) rfl (fun K hK => ?_)
              refine op_storerow_st (by kernel_rfl) 0 hS rfl rfl rfl (by kernel_rfl) rfl rfl rfl rfl ?_
              intro w1 hS1; clear hS; have hS := hS1; clear hS1; try simp only [List.set_cons_zero, List.set_cons_succ, List.setIfInBounds_toArray, List.take_succ_cons, List.take_zero, List.drop_succ_cons, List.drop_zero, List.nil_append, List.cons_append, List.append_nil, List.drop_nil, List.take_nil, List.length_cons, List.length_nil, Nat.zero_add, Nat.add_zero, Nat.reduceAdd] at hS
              try clear hC
              refine hK.out _ _ _ (fun _ h => h) (by first | exact hS | exact hS.drop | exact hS.drop.drop | exact hS.drop.drop.drop | exact hS.drop.drop.drop.drop | exact hS.empty | exact hS.one 0 rfl | exact hS.one 1 rfl | exact hS.one 2 rfl | exact hS.one 3 rfl | exact hS.one 4 rfl | exact hS.one 5 rfl | exact hS.one 6 rfl | exact hS.one 7 rfl | exact hS.one 8 rfl | exact hS.one 9 rfl | exact hS.one 10 rfl | exact hS.one 11 rfl) (fun hC => ?_)
              clear hK K
              try simp only [List.getElem_toArray, List.getElem_cons_succ, List.getElem_cons_zero, Act.put, List.setIfInBounds_toArray, List.set_cons_zero, List.set_cons_succ]
              refine wpAnyH_done (by kernel_rfl) ?_ _
              exact ⟨g1, rfl, hS⟩
          ·
            ( (refine op_pure_st (by kernel_rfl) (u := ?_) ?_ ?_; rotate_left 1; focus (go_simp <;> with_reducible rfl)) )
            try clear hC
            refine hK.out _ _ _ (fun _ h => h) (by first | exact hS | exact hS.drop | exact hS.drop.drop | exact hS.drop.drop.drop | exact hS.drop.drop.drop.drop | exact hS.empty | exact hS.one 0 rfl | exact hS.one 1 rfl | exact hS.one 2 rfl | exact hS.one 3 rfl | exact hS.one 4 rfl | exact hS.one 5 rfl | exact hS.one 6 rfl | exact hS.one 7 rfl | exact hS.one 8 rfl | exact hS.one 9 rfl | exact hS.one 10 rfl | exact hS.one 11 rfl) (fun hC => ?_)
            clear hK K
            try simp only [List.getElem_toArray, List.getElem_cons_succ, List.getElem_cons_zero, Act.put, List.setIfInBounds_toArray, List.set_cons_zero, List.set_cons_succ]
            refine mixs_take 19 (v := ?_) rfl (by kernel_rfl) (fun _ _ _ h => h) (by kernel_rfl) (by assumption) (fun s => ?hy) ?_; case hy => (go_simp <;> with_reducible rfl)
            try simp only [List.getElem_toArray, List.getElem_cons_succ, List.getElem_cons_zero, Act.put, List.setIfInBounds_toArray, List.set_cons_zero, List.set_cons_succ]
            refine mixs_two 9 21 (by kernel_rfl) rfl rfl (fun K hK => ?_) (fun K hK => ?_)
            ·
              ( (refine op_pure_st (by kernel_rfl) (u := ?_) ?_ ?_; rotate_left 1; focus (go_simp <;> with_reducible rfl)) )
              try clear hC
              refine hK.out _ _ _ (fun _ h => h) (by first | exact hS | exact hS.drop | exact hS.drop.drop | exact hS.drop.drop.drop | exact hS.drop.drop.drop.drop | exact hS.empty | exact hS.one 0 rfl | exact hS.one 1 rfl | exact hS.one 2 rfl | exact hS.one 3 rfl | exact hS.one 4 rfl | exact hS.one 5 rfl | exact hS.one 6 rfl | exact hS.one 7 rfl | exact hS.one 8 rfl | exact hS.one 9 rfl | exact hS.one 10 rfl | exact hS.one 11 rfl) (fun hC => ?_)
              clear hK K
              try simp only [List.getElem_toArray, List.getElem_cons_succ, List.getElem_cons_zero, Act.put, List.setIfInBounds_toArray, List.set_cons_zero, List.set_cons_succ]
              refine mixs_take 10 (v := ?_) rfl (by kernel_rfl) (fun _ _ _ h => h) (by kernel_rfl) (by assumption) (fun s => ?hy) ?_; case hy => (go_simp <;> with_reducible rfl)
              try simp only [List.getElem_toArray, List.getElem_cons_succ, List.getElem_cons_zero, Act.put, List.setIfInBounds_toArray, List.set_cons_zero, List.set_cons_succ]
              refine mixs_take 11 (v := ?_) rfl (by kernel_rfl) (fun _ _ _ h => h) (by kernel_rfl) (by assumption) (fun s => ?hy) ?_; case hy => (go_simp <;> with_reducible rfl)
              try simp only [List.getElem_toArray, List.getElem_cons_succ, List.getElem_cons_zero, Act.put, List.setIfInBounds_toArray, List.set_cons_zero, List.set_cons_succ]
              refine mixs_take 20 (v := ?_) rfl (by kernel_rfl) (fun _ _ _ h => h) (by kernel_rfl) (by assumption) (fun s => ?hy) ?_; case hy => (go_simp <;> with_reducible rfl)
              try simp only [List.getElem_toArray, List.getElem_cons_succ, List.getElem_cons_zero, Act.put, List.setIfInBounds_toArray, List.set_cons_zero, List.set_cons_succ]
              refine mixs_one 21 (by kernel_rfl) rfl (fun K hK => ?_)
              refine op_alloc_st (by kernel_rfl) rfl (by assumption) hS ?_
              intro g1 w1 hS1; clear hS; have hS := hS1; clear hS1
              try clear hC
              refine hK.out _ _ _ (fun _ h => h) (by first | exact hS | exact hS.drop | exact hS.drop.drop | exact hS.drop.drop.drop | exact hS.drop.drop.drop.drop | exact hS.empty | exact hS.one 0 rfl | exact hS.one 1 rfl | exact hS.one 2 rfl | exact hS.one 3 rfl | exact hS.one 4 rfl | exact hS.one 5 rfl | exact hS.one 6 rfl | exact hS.one 7 rfl | exact hS.one 8 rfl | exact hS.one 9 rfl | exact hS.one 10 rfl | exact hS.one 11 rfl) (fun hC => ?_)
              clear hK K
              try simp only [List.getElem_toArray, List.getElem_cons_succ, List.getElem_cons_zero, Act.put, List.setIfInBounds_toArray, List.set_cons_zero, List.set_cons_succ]
              refine mixs_one 22 (by kernel_rfl) rfl (fun K hK => ?_)
              refine op_storerow_st (by kernel_rfl) 0 hS rfl rfl rfl (by kernel_rfl) rfl rfl rfl rfl ?_
              intro w1 hS1; clear hS; have hS := hS1; clear hS1; try simp only [List.set_cons_zero, List.set_cons_succ, List.setIfInBounds_toArray, List.take_succ_cons, List.take_zero, List.drop_succ_cons, List.drop_zero, List.nil_append, List.cons_append, List.append_nil, List.drop_nil, List.take_nil, List.length_cons, List.length_nil, Nat.zero_add, Nat.add_zero, Nat.reduceAdd] at hS
              try clear hC
              refine hK.out _ _ _ (fun _ h => h) (by first | exact hS | exact hS.drop | exact hS.drop.drop | exact hS.drop.drop.drop | exact hS.drop.drop.drop.drop | exact hS.empty | exact hS.one 0 rfl | exact hS.one 1 rfl | exact hS.one 2 rfl | exact hS.one 3 rfl | exact hS.one 4 rfl | exact hS.one 5 rfl | exact hS.one 6 rfl | exact hS.one 7 rfl | exact hS.one 8 rfl | exact hS.one 9 rfl | exact hS.one 10 rfl | exact hS.one 11 rfl) (fun hC => ?_)
              clear hK K
              try simp only [List.getElem_toArray, List.getElem_cons_succ, List.getElem_cons_zero, Act.put, List.setIfInBounds_toArray, List.set_cons_zero, List.set_cons_succ]
              refine wpAnyH_done (by kernel_rfl) ?_ _
              exact ⟨g1, rfl, hS⟩
            ·
              refine op_alloc_st (by kernel_rfl) rfl (by assumption) hS ?_
              intro g1 w1 hS1; clear hS; have hS := hS1; clear hS1
              try clear hC
              refine hK.out _ _ _ (fun _ h => h) (by first | exact hS | exact hS.drop | exact hS.drop.drop | exact hS.drop.drop.drop | exact hS.drop.drop.drop.drop | exact hS.empty | exact hS.one 0 rfl | exact hS.one 1 rfl | exact hS.one 2 rfl | exact hS.one 3 rfl | exact hS.one 4 rfl | exact hS.one 5 rfl | exact hS.one 6 rfl | exact hS.one 7 rfl | exact hS.one 8 rfl | exact hS.one 9 rfl | exact hS.one 10 rfl | exact hS.one 11 rfl) (fun hC => ?_)
              clear hK K
              try simp only [List.getElem_toArray, List.getElem_cons_succ, List.getElem_cons_zero, Act.put, List.setIfInBounds_toArray, List.set_cons_zero, List.set_cons_succ]
              refine mixs_one 9 (by kernel_rfl) rfl (fun K hK => ?_)
              ( (refine op_pure_st (by kernel_rfl) (u := ?_) ?_ ?_; rotate_left 1; focus (go_simp <;> with_reducible rfl)) )
              try clear hC
              refine hK.out _ _ _ (fun _ h => h) (by first | exact hS | exact hS.drop | exact hS.drop.drop | exact hS.drop.drop.drop | exact hS.drop.drop.drop.drop | exact hS.empty | exact hS.one 0 rfl | exact hS.one 1 rfl | exact hS.one 2 rfl | exact hS.one 3 rfl | exact hS.one 4 rfl | exact hS.one 5 rfl | exact hS.one 6 rfl | exact hS.one 7 rfl | exact hS.one 8 rfl | exact hS.one 9 rfl | exact hS.one 10 rfl | exact hS.one 11 rfl) (fun hC => ?_)
              clear hK K
              try simp only [List.getElem_toArray, List.getElem_cons_succ, List.getElem_cons_zero, Act.put, List.setIfInBounds_toArray, List.set_cons_zero, List.set_cons_succ]
              refine mixs_take 10 (v := ?_) rfl (by kernel_rfl) (fun _ _ _ h => h) (by kernel_rfl) (by assumption) (fun s => ?hy) ?_; case hy => (go_simp <;> with_reducible rfl)
              try simp only [List.getElem_toArray, List.getElem_cons_succ, List.getElem_cons_zero, Act.put, List.setIfInBounds_toArray, List.set_cons_zero, List.set_cons_succ]
              refine mixs_take 11 (v := ?_) rfl (by kernel_rfl) (fun _ _ _ h => h) (by kernel_rfl) (by assumption) (fun s => ?hy) ?_; case hy => (go_simp <;> with_reducible rfl)
              try simp only [List.getElem_toArray, List.getElem_cons_succ, List.getElem_cons_zero, Act.put, List.setIfInBounds_toArray, List.set_cons_zero, List.set_cons_succ]
              refine mixs_take 20 (v := ?_) rfl (by kernel_rfl) (fun _ _ _ h => h) (by kernel_rfl) (by assumption) (fun s => ?hy) ?_; case hy => (go_simp <;> with_reducible rfl)
              try simp only [List.getElem_toArray, List.getElem_cons_succ, List.getElem_cons_zero, Act.put, List.setIfInBounds_toArray, List.set_cons_zero, List.set_cons_succ]
              refine mixs_one 22 (by kernel_rfl) rfl (fun K hK => ?_)
              refine op_storerow_st (by kernel_rfl) 0 hS rfl rfl rfl (by kernel_rfl) rfl rfl rfl rfl ?_
              intro w1 hS1; clear hS; have hS := hS1; clear hS1; try simp only [List.set_cons_zero, List.set_cons_succ, List.setIfInBounds_toArray, List.take_succ_cons, List.take_zero, List.drop_succ_cons, List.drop_zero, List.nil_append, List.cons_append, List.append_nil, List.drop_nil, List.take_nil, List.length_cons, List.length_nil, Nat.zero_add, Nat.add_zero, Nat.reduceAdd] at hS
              try clear hC
              refine hK.out _ _ _ (fun _ h => h) (by first | exact hS | exact hS.drop | exact hS.drop.drop | exact hS.drop.drop.drop | exact hS.drop.drop.drop.drop | exact hS.empty | exact hS.one 0 rfl | exact hS.one 1 rfl | exact hS.one 2 rfl | exact hS.one 3 rfl | exact hS.one 4 rfl | exact hS.one 5 rfl | exact hS.one 6 rfl | exact hS.one 7 rfl | exact hS.one 8 rfl | exact hS.one 9 rfl | exact hS.one 10 rfl | exact hS.one 11 rfl) (fun hC => ?_)
              clear hK K
              try simp only [List.getElem_toArray, List.getElem_cons_succ, List.getElem_cons_zero, Act.put, List.setIfInBounds_toArray, List.set_cons_zero, List.set_cons_succ]
              refine wpAnyH_done (by kernel_rfl) ?_ _
              exact ⟨g1, rfl, hS⟩
          ·
            refine op_alloc_st (by kernel_rfl) rfl (by assumption) hS ?_
            intro g1 w1 hS1; clear hS; have hS := hS1; clear hS1
            try clear hC
            refine hK.out _ _ _ (fun _ h => h) (by first | exact hS | exact hS.drop | exact hS.drop.drop | exact hS.drop.drop.drop | exact hS.drop.drop.drop.drop | exact hS.empty | exact hS.one 0 rfl | exact hS.one 1 rfl | exact hS.one 2 rfl | exact hS.one 3 rfl | exact hS.one 4 rfl | exact hS.one 5 rfl | exact hS.one 6 rfl | exact hS.one 7 rfl | exact hS.one 8 rfl | exact hS.one 9 rfl | exact hS.one 10 rfl | exact hS.one 11 rfl) (fun hC => ?_)
            clear hK K
            try simp only [List.getElem_toArray, List.getElem_cons_succ, List.getElem_cons_zero, Act.put, List.setIfInBounds_toArray, List.set_cons_zero, List.set_cons_succ]
            refine mixs_two 9 18 (by kernel_rfl) rfl rfl (fun K hK => ?_) (fun K hK => ?_)
            ·
              ( (refine op_pure_st (by kernel_rfl) (u := ?_) ?_ ?_; rotate_left 1; focus (go_simp <;> with_reducible rfl)) )
              try clear hC
              refine hK.out _ _ _ (fun _ h => h) (by first | exact hS | exact hS.drop | exact hS.drop.drop | exact hS.drop.drop.drop | exact hS.drop.drop.drop.drop | exact hS.empty | exact hS.one 0 rfl | exact hS.one 1 rfl | exact hS.one 2 rfl | exact hS.one 3 rfl | exact hS.one 4 rfl | exact hS.one 5 rfl | exact hS.one 6 rfl | exact hS.one 7 rfl | exact hS.one 8 rfl | exact hS.one 9 rfl | exact hS.one 10 rfl | exact hS.one 11 rfl) (fun hC => ?_)
              clear hK K
              try simp only [List.getElem_toArray, List.getElem_cons_succ, List.getElem_cons_zero, Act.put, List.setIfInBounds_toArray, List.set_cons_zero, List.set_cons_succ]
              refine mixs_take 10 (v := ?_) rfl (by kernel_rfl) (fun _ _ _ h => h) (by kernel_rfl) (by assumption) (fun s => ?hy) ?_; case hy => (go_simp <;> with_reducible rfl)
              try simp only [List.getElem_toArray, List.getElem_cons_succ, List.getElem_cons_zero, Act.put, List.setIfInBounds_toArray, List.set_cons_zero, List.set_cons_succ]
              refine mixs_take 11 (v := ?_) rfl (by kernel_rfl) (fun _ _ _ h => h) (by kernel_rfl) (by assumption) (fun s => ?hy) ?_; case hy => (go_simp <;> with_reducible rfl)
              try simp only [List.getElem_toArray, List.getElem_cons_succ, List.getElem_cons_zero, Act.put, List.setIfInBounds_toArray, List.set_cons_zero, List.set_cons_succ]
              refine mixs_one 18 (by kernel_rfl) rfl (fun K hK => ?_)
              ( (refine op_pure_st (by kernel_rfl) (u := ?_) ?_ ?_; rotate_left 1; focus (go_simp <;> with_reducible rfl)) )
              try clear hC
              refine hK.out _ _ _ (fun _ h => h) (by first | exact hS | exact hS.drop | exact hS.drop.drop | exact hS.drop.drop.drop | exact hS.drop.drop.drop.drop | exact hS.empty | exact hS.one 0 rfl | exact hS.one 1 rfl | exact hS.one 2 rfl | exact hS.one 3 rfl | exact hS.one 4 rfl | exact hS.one 5 rfl | exact hS.one 6 rfl | exact hS.one 7 rfl | exact hS.one 8 rfl | exact hS.one 9 rfl | exact hS.one 10 rfl | exact hS.one 11 rfl) (fun hC => ?_)
              clear hK K
              try simp only [List.getElem_toArray, List.getElem_cons_succ, List.getElem_cons_zero, Act.put, List.setIfInBounds_toArray, List.set_cons_zero, List.set_cons_succ]
              refine mixs_take 19 (v := ?_) rfl (by kernel_rfl) (fun _ _ _ h => h) (by kernel_rfl) (by assumption) (fun s => ?hy) ?_; case hy => (go_simp <;> with_reducible rfl)
              try simp only [List.getElem_toArray, List.getElem_cons_succ, List.getElem_cons_zero, Act.put, List.setIfInBounds_toArray, List.set_cons_zero, List.set_cons_succ]
              refine mixs_take 20 (v := ?_) rfl (by kernel_rfl) (fun _ _ _ h => h) (by kernel_rfl) (by assumption) (fun s => ?hy) ?_; case hy => (go_simp <;> with_reducible rfl)
              try simp only [List.getElem_toArray, List.getElem_cons_succ, List.getElem_cons_zero, Act.put, List.setIfInBounds_toArray, List.set_cons_zero, List.set_cons_succ]
              refine mixs_one 22 (by kernel_rfl) rfl (fun K hK => ?_)
              refine op_storerow_st (by kernel_rfl) 0 hS rfl rfl rfl (by kernel_rfl) rfl rfl rfl rfl ?_
              intro w1 hS1; clear hS; have hS := hS1; clear hS1; try simp only [List.set_cons_zero, List.set_cons_succ, List.setIfInBounds_toArray, List.take_succ_cons, List.take_zero, List.drop_succ_cons, List.drop_zero, List.nil_append, List.cons_append, List.append_nil, List.drop_nil, List.take_nil, List.length_cons, List.length_nil, Nat.zero_add, Nat.add_zero, Nat.reduceAdd] at hS
              try clear hC
              refine hK.out _ _ _ (fun _ h => h) (by first | exact hS | exact hS.drop | exact hS.drop.drop | exact hS.drop.drop.drop | exact hS.drop.drop.drop.drop | exact hS.empty | exact hS.one 0 rfl | exact hS.one 1 rfl | exact hS.one 2 rfl | exact hS.one 3 rfl | exact hS.one 4 rfl | exact hS.one 5 rfl | exact hS.one 6 rfl | exact hS.one 7 rfl | exact hS.one 8 rfl | exact hS.one 9 rfl | exact hS.one 10 rfl | exact hS.one 11 rfl) (fun hC => ?_)
              clear hK K
              try simp only [List.getElem_toArray, List.getElem_cons_succ, List.getElem_cons_zero, Act.put, List.setIfInBounds_toArray, List.set_cons_zero, List.set_cons_succ]
              refine wpAnyH_done (by kernel_rfl) ?_ _
              exact ⟨g1, rfl, hS⟩
            ·
              ( (refine op_pure_st (by kernel_rfl) (u := ?_) ?_ ?_; rotate_left 1; focus (go_simp <;> with_reducible rfl)) )
              try clear hC
              refine hK.out _ _ _ (fun _ h => h) (by first | exact hS | exact hS.drop | exact hS.drop.drop | exact hS.drop.drop.drop | exact hS.drop.drop.drop.drop | exact hS.empty | exact hS.one 0 rfl | exact hS.one 1 rfl | exact hS.one 2 rfl | exact hS.one 3 rfl | exact hS.one 4 rfl | exact hS.one 5 rfl | exact hS.one 6 rfl | exact hS.one 7 rfl | exact hS.one 8 rfl | exact hS.one 9 rfl | exact hS.one 10 rfl | exact hS.one 11 rfl) (fun hC => ?_)
              clear hK K
              try simp only [List.getElem_toArray, List.getElem_cons_succ, List.getElem_cons_zero, Act.put, List.setIfInBounds_toArray, List.set_cons_zero, List.set_cons_succ]
              refine mixs_take 19 (v := ?_) rfl (by kernel_rfl) (fun _ _ _ h => h) (by kernel_rfl) (by assumption) (fun s => ?hy) ?_; case hy => (go_simp <;> with_reducible rfl)
              try simp only [List.getElem_toArray, List.getElem_cons_succ, List.getElem_cons_zero, Act.put, List.setIfInBounds_toArray, List.set_cons_zero, List.set_cons_succ]
              refine mixs_one 9 (by kernel_rfl) rfl (fun K hK => ?_)
              ( (refine op_pure_st (by kernel_rfl) (u := ?_) ?_ ?_; rotate_left 1; focus (go_simp <;> with_reducible rfl)) )
              try clear hC
              refine hK.out _ _ _ (fun _ h => h) (by first | exact hS | exact hS.drop | exact hS.drop.drop | exact hS.drop.drop.drop | exact hS.drop.drop.drop.drop | exact hS.empty | exact hS.one 0 rfl | exact hS.one 1 rfl | exact hS.one 2 rfl | exact hS.one 3 rfl | exact hS.one 4 rfl | exact hS.one 5 rfl | exact hS.one 6 rfl | exact hS.one 7 rfl | exact hS.one 8 rfl | exact hS.one 9 rfl | exact hS.one 10 rfl | exact hS.one 11 rfl) (fun hC => ?_)
              clear hK K
              try simp only [List.getElem_toArray, List.getElem_cons_succ, List.getElem_cons_zero, Act.put, List.setIfInBounds_toArray, List.set_cons_zero, List.set_cons_succ]
              refine mixs_take 10 (v := ?_) rfl (by kernel_rfl) (fun _ _ _ h => h) (by kernel_rfl) (by assumption) (fun s => ?hy) ?_; case hy => (go_simp <;> with_reducible rfl)
              try simp only [List.getElem_toArray, List.getElem_cons_succ, List.getElem_cons_zero, Act.put, List.setIfInBounds_toArray, List.set_cons_zero, List.set_cons_succ]
              refine mixs_take 11 (v := ?_) rfl (by kernel_rfl) (fun _ _ _ h => h) (by kernel_rfl) (by assumption) (fun s => ?hy) ?_; case hy => (go_simp <;> with_reducible rfl)
              try simp only [List.getElem_toArray, List.getElem_cons_succ, List.getElem_cons_zero, Act.put, List.setIfInBounds_toArray, List.set_cons_zero, List.set_cons_succ]
              refine mixs_take 20 (v := ?_) rfl (by kernel_rfl) (fun _ _ _ h => h) (by kernel_rfl) (by assumption) (fun s => ?hy) ?_; case hy => (go_simp <;> with_reducible rfl)
              try simp only [List.getElem_toArray, List.getElem_cons_succ, List.getElem_cons_zero, Act.put, List.setIfInBounds_toArray, List.set_cons_zero, List.set_cons_succ]
              refine mixs_one 22 (by kernel_rfl) rfl (fun K hK => ?_)
              refine op_storerow_st (by kernel_rfl) 0 hS rfl rfl rfl (by kernel_rfl) rfl rfl rfl rfl ?_
              intro w1 hS1; clear hS; have hS := hS1; clear hS1; try simp only [List.set_cons_zero, List.set_cons_succ, List.setIfInBounds_toArray, List.take_succ_cons, List.take_zero, List.drop_succ_cons, List.drop_zero, List.nil_append, List.cons_append, List.append_nil, List.drop_nil, List.take_nil, List.length_cons, List.length_nil, Nat.zero_add, Nat.add_zero, Nat.reduceAdd] at hS
              try clear hC
              refine hK.out _ _ _ (fun _ h => h) (by first | exact hS | exact hS.drop | exact hS.drop.drop | exact hS.drop.drop.drop | exact hS.drop.drop.drop.drop | exact hS.empty | exact hS.one 0 rfl | exact hS.one 1 rfl | exact hS.one 2 rfl | exact hS.one 3 rfl | exact hS.one 4 rfl | exact hS.one 5 rfl | exact hS.one 6 rfl | exact hS.one 7 rfl | exact hS.one 8 rfl | exact hS.one 9 rfl | exact hS.one 10 rfl | exact hS.one 11 rfl) (fun hC => ?_)
              clear hK K
              try simp only [List.getElem_toArray, List.getElem_cons_succ, List.getElem_cons_zero, Act.put, List.setIfInBounds_toArray, List.set_cons_zero, List.set_cons_succ]
              refine wpAnyH_done (by kernel_rfl) ?_ _
              exact ⟨g1, rfl, hS⟩
        intro g8 w8 hS
        obtain ⟨s1, hs1⟩ : ∃ z, IntKind.i64.wrap (now.seq + 1) = z := ⟨_, rfl⟩
        obtain ⟨s2, hs2⟩ : ∃ z, IntKind.i64.wrap (1 + (if x.x.life < 0 then 0 else x.x.life).tmod 1000) = z := ⟨_, rfl⟩
        obtain ⟨s3, hs3⟩ : ∃ z, (if x.x.head < 0 then 0 else x.x.head).tmod 1000 = z := ⟨_, rfl⟩
        obtain ⟨zf, hzf⟩ : ∃ z, (if x.n < 0 then 0 else x.n).tmod 4 = z := ⟨_, rfl⟩
        simp only [hs1, hs2, hs3] at hS ⊢
        obtain ⟨hok, hsq, hzr⟩ : (⟨s1, s2, s3⟩ : Rt).ok = true ∧ s1 = now.seq + 1 ∧ (0 ≤ zf ∧ zf < 4) := fall_nums now x.x s1 s2 s3 x.n zf hI.out.1.1 (by have := hI.out.2.1; omega) hs1 hs2 hs3 hzf
        obtain ⟨A', B', now', hcr, hh', hnw, hans⟩ := Dk.falls A B now ⟨s1, s2, s3⟩ zf x.keep hI.out.1 hok hsq hzr
        have hfit := hI.out.2.2
        have hff := hfit.fused zf (by omega)
        have hfs := hff.store ⟨s1, s2, s3⟩
        have hfc := hfs.crash x.keep
        have cF := fun W hh => fuse_any bd sv wv' (Dk.two A B) zf W hh
        have cS := fun W hh => tstore_any bd sv wv' { Dk.two A B with fuse := zf } 2 0 ⟨s1, s2, s3⟩ W hh hff (by omega) (by omega)
        simp only at cS
        generalize hD2 : ({ Dk.two A B with fuse := zf } : Dk).store ⟨s1, s2, s3⟩ = D2 at *
        obtain ⟨D2, e2⟩ := D2
        simp only at cS hfs hfc hcr hans
        have hsl : ∀ (L : List Ch) (W : World), St w [] L W → Sl W x.a (x.keep.map vi) := fun L W hh => hxm.sl.old hh (by simp)
        have hapc : ∀ (wv : Value) (A R : List Ch) (W : World), St w [] (A ++ (dks bd sv wv D2 ++ R)) W → 0 < x.keep.length → ∀ b o, x.a = some ⟨b, o, none⟩ → b ∉ feet (dks bd sv wv D2) := by
          intro wv A R W hh h0 b o e k
          obtain ⟨b', o', e', hcc⟩ := hxm.sl 0 (by simpa using h0)
          rw [e] at e'
          cases e'
          exact hh.oldoff (World.block_lt_of_cell? _ _ hcc) (by rw [feet_append, feet_append]; exact List.mem_append_right _ (List.mem_append_left _ k))
        have cC := fun wv W hh hs hap => crash_any bd sv wv D2 x.a x.keep x.keep.length x.kc W hh hfs.ok (by have := hfs.wait; omega) hs (fun z hz => (hxm.keep z hz).2) rfl (Nat.le_trans hxm.le hxm.cm) hap
        rw [hcr] at cC hfc
        have hfc0 : (Dk.two A' B').Fit 2 0 := hfc.zero rfl
        have cL := fun wv W hh => tload_any bd sv wv (Dk.two A' B') 2 0 W hh hfc0 (by omega) (by omega)
        rw [hh'.load] at cL
        simp only at cL
        have hgu := guard_root
        have hS1 : St w [] ([Ch.blk g8 50 #[.int .i64 s1, .int .i64 s2, .int .i64 s3], Ch.blk g1 50 #[.int .i64 now.seq, .int .i64 now.life, .int .i64 now.head]] ++ (dks bd sv wv' (Dk.two A B) ++ [])) w8 := by rw [List.append_nil]; exact hS
        clear hS
        have hS := hS1
        clear hS1 hcr hfit hff hfs hfc hD2
        have hns : s1 ≠ now.seq := by omega
        have n1 : ∀ W, (binOp .neq 50 (.agg #[.int .i64 s1, .int .i64 s2, .int .i64 s3]) (.agg #[.int .i64 now.seq, .int .i64 now.life, .int .i64 now.head])).run Try.prog W = .ok (.bool true) W := fun W => by
          have := neq_root ⟨s1, s2, s3⟩ now W
          rwa [show rtBeq ⟨s1, s2, s3⟩ now = false by rw [← Bool.not_eq_true, rtBeq_iff]; rintro rfl; exact hns rfl] at this
        have n2 : ∀ W, (binOp .neq 50 (.agg #[.int .i64 s1, .int .i64 s2, .int .i64 s3]) (.agg #[.int .i64 s1, .int .i64 s2, .int .i64 s3])).run Try.prog W = .ok (.bool false) W := fun W => by
          have := neq_root ⟨s1, s2, s3⟩ ⟨s1, s2, s3⟩ W
          rwa [show rtBeq ⟨s1, s2, s3⟩ ⟨s1, s2, s3⟩ = true from (rtBeq_iff _ _).2 rfl] at this
        have n3 : ∀ W, (binOp .neq 50 (.agg #[.int .i64 now.seq, .int .i64 now.life, .int .i64 now.head]) (.agg #[.int .i64 now.seq, .int .i64 now.life, .int .i64 now.head])).run Try.prog W = .ok (.bool false) W := fun W => by
          have := neq_root now now W
          rwa [show rtBeq now now = true from (rtBeq_iff _ _).2 rfl] at this
        have hse : now.seq ≤ 70000 + j := hI.out.2.1
        replace hsl := Lib.hid hsl
        replace hapc := Lib.hid hapc
        replace cF := Lib.hid cF
        replace cS := Lib.hid cS
        replace cC := Lib.hid cC
        replace cL := Lib.hid cL
        replace hsq := Lib.hid hsq
        replace hns := Lib.hid hns
        replace hse := Lib.hid hse
        replace hok := Lib.hid hok
        clear q5
        have q1 := hS.old p1 (by simp)
        clear hI hxm p1 p3 p4 hs1 hs2 hs3
        rcases hans with ⟨rfl, rfl⟩ | rfl
        · clear hnw
          go_wp2_with (first
            | (go_at_call 20; (with_reducible refine (cF.out _ hS.preM).mono ?_); rintro _ w9 ⟨rfl, hk⟩; have hS1 := hS.callM hk; clear hS hk q1; have hS := hS1; clear hS1)
            | (go_at_call 35; (with_reducible refine (cS.out _ hS.preM).mono ?_); rintro _ w10 ⟨rfl, wv10, hk⟩; have hS1 := hS.callM hk; clear hS hk; have hS := hS1; clear hS1; have q5 := hS.old p5 (by simp))
            | (go_at_call 21; (with_reducible refine (cC.out _ _ hS.preM (hsl.out _ _ hS) (hapc.out _ _ _ _ hS)).mono ?_); rintro _ w11 ⟨rfl, wv11, hk⟩; have hS1 := hS.callM hk; clear hS hk q5; have hS := hS1; clear hS1)
            | (go_at_call 39; (with_reducible refine (cL.out _ _ hS.preM).mono ?_); rintro _ w12 ⟨rfl, hk⟩; have hS1 := hS.callM hk; clear hS hk; have hS := hS1; clear hS1)
            | ((with_reducible refine wpList_alloc_st hS rfl rfl ez ?_); intro gx w1 hS1; clear hS; have hS := hS1; clear hS1)
            | ((with_reducible refine wpList_storerow_st 0 hS rfl rfl rfl rfl (by kernel_rfl) rfl rfl rfl rfl ?_); intro w1 hS1; clear hS; have hS := hS1; clear hS1; try simp only [List.set_cons_zero, List.set_cons_succ, List.setIfInBounds_toArray, List.take_succ_cons, List.take_zero, List.drop_succ_cons, List.drop_zero, List.nil_append, List.cons_append, List.append_nil, List.drop_nil, List.take_nil, List.length_cons, List.length_nil, Nat.zero_add, Nat.add_zero, Nat.reduceAdd] at hS; have hcl := hS.cell 0 rfl; have hcm := hS.cell 1 rfl; have hcn := hS.cell 2 rfl)
            | (with_reducible refine wpList_box_st hS rfl rfl rfl ?_; intro g1 w1 hS1; clear hS; replace hS := hS1; clear hS1) | (with_reducible refine wpList_box1_st hS rfl rfl rfl ?_; intro g1 w1 hS1; clear hS; replace hS := hS1; clear hS1) | (with_reducible refine wpList_alloc_st hS rfl rfl (by assumption) ?_; intro g1 w1 hS1; clear hS; replace hS := hS1; clear hS1) | (with_reducible refine wpList_alloc1_st hS rfl rfl (by assumption) rfl ?_; intro g1 w1 hS1; clear hS; replace hS := hS1; clear hS1) | ((with_reducible refine wpList_load_st 0 hS rfl rfl rfl rfl ?_ rfl ?_); focus (simp [scalarB, go_sem]; done)) | ((with_reducible refine wpList_loadall_st 0 hS rfl rfl rfl rfl ?_ (by kernel_rfl) ?_); focus (simp [rowB, go_sem]; done)) | ((with_reducible refine wpList_store_st 0 hS rfl rfl rfl rfl (by kernel_rfl) rfl rfl ?_); intro w1 hS1; clear hS; replace hS := hS1; clear hS1; try simp only [List.set_cons_zero, List.set_cons_succ, List.setIfInBounds_toArray, List.take_succ_cons, List.take_zero, List.drop_succ_cons, List.drop_zero, List.nil_append, List.cons_append, List.append_nil, List.drop_nil, List.take_nil, List.length_cons, List.length_nil, Nat.zero_add, Nat.add_zero, Nat.reduceAdd] at hS) | ((with_reducible refine wpList_storerow_st 0 hS rfl rfl rfl rfl (by kernel_rfl) rfl rfl rfl rfl ?_); intro w1 hS1; clear hS; replace hS := hS1; clear hS1; try simp only [List.set_cons_zero, List.set_cons_succ, List.setIfInBounds_toArray, List.take_succ_cons, List.take_zero, List.drop_succ_cons, List.drop_zero, List.nil_append, List.cons_append, List.append_nil, List.drop_nil, List.take_nil, List.length_cons, List.length_nil, Nat.zero_add, Nat.add_zero, Nat.reduceAdd] at hS) | ((with_reducible refine wpList_load_st 1 hS rfl rfl rfl rfl ?_ rfl ?_); focus (simp [scalarB, go_sem]; done)) | ((with_reducible refine wpList_loadall_st 1 hS rfl rfl rfl rfl ?_ (by kernel_rfl) ?_); focus (simp [rowB, go_sem]; done)) | ((with_reducible refine wpList_store_st 1 hS rfl rfl rfl rfl (by kernel_rfl) rfl rfl ?_); intro w1 hS1; clear hS; replace hS := hS1; clear hS1; try simp only [List.set_cons_zero, List.set_cons_succ, List.setIfInBounds_toArray, List.take_succ_cons, List.take_zero, List.drop_succ_cons, List.drop_zero, List.nil_append, List.cons_append, List.append_nil, List.drop_nil, List.take_nil, List.length_cons, List.length_nil, Nat.zero_add, Nat.add_zero, Nat.reduceAdd] at hS) | ((with_reducible refine wpList_storerow_st 1 hS rfl rfl rfl rfl (by kernel_rfl) rfl rfl rfl rfl ?_); intro w1 hS1; clear hS; replace hS := hS1; clear hS1; try simp only [List.set_cons_zero, List.set_cons_succ, List.setIfInBounds_toArray, List.take_succ_cons, List.take_zero, List.drop_succ_cons, List.drop_zero, List.nil_append, List.cons_append, List.append_nil, List.drop_nil, List.take_nil, List.length_cons, List.length_nil, Nat.zero_add, Nat.add_zero, Nat.reduceAdd] at hS) | ((with_reducible refine wpList_load_st 2 hS rfl rfl rfl rfl ?_ rfl ?_); focus (simp [scalarB, go_sem]; done)) | ((with_reducible refine wpList_loadall_st 2 hS rfl rfl rfl rfl ?_ (by kernel_rfl) ?_); focus (simp [rowB, go_sem]; done)) | ((with_reducible refine wpList_store_st 2 hS rfl rfl rfl rfl (by kernel_rfl) rfl rfl ?_); intro w1 hS1; clear hS; replace hS := hS1; clear hS1; try simp only [List.set_cons_zero, List.set_cons_succ, List.setIfInBounds_toArray, List.take_succ_cons, List.take_zero, List.drop_succ_cons, List.drop_zero, List.nil_append, List.cons_append, List.append_nil, List.drop_nil, List.take_nil, List.length_cons, List.length_nil, Nat.zero_add, Nat.add_zero, Nat.reduceAdd] at hS) | ((with_reducible refine wpList_storerow_st 2 hS rfl rfl rfl rfl (by kernel_rfl) rfl rfl rfl rfl ?_); intro w1 hS1; clear hS; replace hS := hS1; clear hS1; try simp only [List.set_cons_zero, List.set_cons_succ, List.setIfInBounds_toArray, List.take_succ_cons, List.take_zero, List.drop_succ_cons, List.drop_zero, List.nil_append, List.cons_append, List.append_nil, List.drop_nil, List.take_nil, List.length_cons, List.length_nil, Nat.zero_add, Nat.add_zero, Nat.reduceAdd] at hS))
          all_goals
            go_roundg (n - (j + 1))
            case measure => omega
            case rel => exact ⟨j + 1, A', B', _, _, by omega, by omega, by go_num, Lib.hid ⟨hh', by (have := hsq.out; have := hse.out; simp only; omega), hfc0⟩, by simpa using hS.drop.drop⟩
        · rcases hnw with rfl | rfl
          · skip
            go_wp2_with (first
              | (go_at_call 20; (with_reducible refine (cF.out _ hS.preM).mono ?_); rintro _ w9 ⟨rfl, hk⟩; have hS1 := hS.callM hk; clear hS hk q1; have hS := hS1; clear hS1)
              | (go_at_call 35; (with_reducible refine (cS.out _ hS.preM).mono ?_); rintro _ w10 ⟨rfl, wv10, hk⟩; have hS1 := hS.callM hk; clear hS hk; have hS := hS1; clear hS1; have q5 := hS.old p5 (by simp))
              | (go_at_call 21; (with_reducible refine (cC.out _ _ hS.preM (hsl.out _ _ hS) (hapc.out _ _ _ _ hS)).mono ?_); rintro _ w11 ⟨rfl, wv11, hk⟩; have hS1 := hS.callM hk; clear hS hk q5; have hS := hS1; clear hS1)
              | (go_at_call 39; (with_reducible refine (cL.out _ _ hS.preM).mono ?_); rintro _ w12 ⟨rfl, hk⟩; have hS1 := hS.callM hk; clear hS hk; have hS := hS1; clear hS1)
              | ((with_reducible refine wpList_alloc_st hS rfl rfl ez ?_); intro gx w1 hS1; clear hS; have hS := hS1; clear hS1)
              | ((with_reducible refine wpList_storerow_st 0 hS rfl rfl rfl rfl (by kernel_rfl) rfl rfl rfl rfl ?_); intro w1 hS1; clear hS; have hS := hS1; clear hS1; try simp only [List.set_cons_zero, List.set_cons_succ, List.setIfInBounds_toArray, List.take_succ_cons, List.take_zero, List.drop_succ_cons, List.drop_zero, List.nil_append, List.cons_append, List.append_nil, List.drop_nil, List.take_nil, List.length_cons, List.length_nil, Nat.zero_add, Nat.add_zero, Nat.reduceAdd] at hS; have hcl := hS.cell 0 rfl; have hcm := hS.cell 1 rfl; have hcn := hS.cell 2 rfl)
              | (with_reducible refine wpList_box_st hS rfl rfl rfl ?_; intro g1 w1 hS1; clear hS; replace hS := hS1; clear hS1) | (with_reducible refine wpList_box1_st hS rfl rfl rfl ?_; intro g1 w1 hS1; clear hS; replace hS := hS1; clear hS1) | (with_reducible refine wpList_alloc_st hS rfl rfl (by assumption) ?_; intro g1 w1 hS1; clear hS; replace hS := hS1; clear hS1) | (with_reducible refine wpList_alloc1_st hS rfl rfl (by assumption) rfl ?_; intro g1 w1 hS1; clear hS; replace hS := hS1; clear hS1) | ((with_reducible refine wpList_load_st 0 hS rfl rfl rfl rfl ?_ rfl ?_); focus (simp [scalarB, go_sem]; done)) | ((with_reducible refine wpList_loadall_st 0 hS rfl rfl rfl rfl ?_ (by kernel_rfl) ?_); focus (simp [rowB, go_sem]; done)) | ((with_reducible refine wpList_store_st 0 hS rfl rfl rfl rfl (by kernel_rfl) rfl rfl ?_); intro w1 hS1; clear hS; replace hS := hS1; clear hS1; try simp only [List.set_cons_zero, List.set_cons_succ, List.setIfInBounds_toArray, List.take_succ_cons, List.take_zero, List.drop_succ_cons, List.drop_zero, List.nil_append, List.cons_append, List.append_nil, List.drop_nil, List.take_nil, List.length_cons, List.length_nil, Nat.zero_add, Nat.add_zero, Nat.reduceAdd] at hS) | ((with_reducible refine wpList_storerow_st 0 hS rfl rfl rfl rfl (by kernel_rfl) rfl rfl rfl rfl ?_); intro w1 hS1; clear hS; replace hS := hS1; clear hS1; try simp only [List.set_cons_zero, List.set_cons_succ, List.setIfInBounds_toArray, List.take_succ_cons, List.take_zero, List.drop_succ_cons, List.drop_zero, List.nil_append, List.cons_append, List.append_nil, List.drop_nil, List.take_nil, List.length_cons, List.length_nil, Nat.zero_add, Nat.add_zero, Nat.reduceAdd] at hS) | ((with_reducible refine wpList_load_st 1 hS rfl rfl rfl rfl ?_ rfl ?_); focus (simp [scalarB, go_sem]; done)) | ((with_reducible refine wpList_loadall_st 1 hS rfl rfl rfl rfl ?_ (by kernel_rfl) ?_); focus (simp [rowB, go_sem]; done)) | ((with_reducible refine wpList_store_st 1 hS rfl rfl rfl rfl (by kernel_rfl) rfl rfl ?_); intro w1 hS1; clear hS; replace hS := hS1; clear hS1; try simp only [List.set_cons_zero, List.set_cons_succ, List.setIfInBounds_toArray, List.take_succ_cons, List.take_zero, List.drop_succ_cons, List.drop_zero, List.nil_append, List.cons_append, List.append_nil, List.drop_nil, List.take_nil, List.length_cons, List.length_nil, Nat.zero_add, Nat.add_zero, Nat.reduceAdd] at hS) | ((with_reducible refine wpList_storerow_st 1 hS rfl rfl rfl rfl (by kernel_rfl) rfl rfl rfl rfl ?_); intro w1 hS1; clear hS; replace hS := hS1; clear hS1; try simp only [List.set_cons_zero, List.set_cons_succ, List.setIfInBounds_toArray, List.take_succ_cons, List.take_zero, List.drop_succ_cons, List.drop_zero, List.nil_append, List.cons_append, List.append_nil, List.drop_nil, List.take_nil, List.length_cons, List.length_nil, Nat.zero_add, Nat.add_zero, Nat.reduceAdd] at hS) | ((with_reducible refine wpList_load_st 2 hS rfl rfl rfl rfl ?_ rfl ?_); focus (simp [scalarB, go_sem]; done)) | ((with_reducible refine wpList_loadall_st 2 hS rfl rfl rfl rfl ?_ (by kernel_rfl) ?_); focus (simp [rowB, go_sem]; done)) | ((with_reducible refine wpList_store_st 2 hS rfl rfl rfl rfl (by kernel_rfl) rfl rfl ?_); intro w1 hS1; clear hS; replace hS := hS1; clear hS1; try simp only [List.set_cons_zero, List.set_cons_succ, List.setIfInBounds_toArray, List.take_succ_cons, List.take_zero, List.drop_succ_cons, List.drop_zero, List.nil_append, List.cons_append, List.append_nil, List.drop_nil, List.take_nil, List.length_cons, List.length_nil, Nat.zero_add, Nat.add_zero, Nat.reduceAdd] at hS) | ((with_reducible refine wpList_storerow_st 2 hS rfl rfl rfl rfl (by kernel_rfl) rfl rfl rfl rfl ?_); intro w1 hS1; clear hS; replace hS := hS1; clear hS1; try simp only [List.set_cons_zero, List.set_cons_succ, List.setIfInBounds_toArray, List.take_succ_cons, List.take_zero, List.drop_succ_cons, List.drop_zero, List.nil_append, List.cons_append, List.append_nil, List.drop_nil, List.take_nil, List.length_cons, List.length_nil, Nat.zero_add, Nat.add_zero, Nat.reduceAdd] at hS))
            all_goals
              go_roundg (n - (j + 1))
              case measure => omega
              case rel => exact ⟨j + 1, A', B', _, _, by omega, by omega, by go_num, Lib.hid ⟨hh', by (have := hse.out; omega), hfc0⟩, by simpa using hS.drop.drop⟩
          · skip
            go_wp2_with (first
              | (go_at_call 20; (with_reducible refine (cF.out _ hS.preM).mono ?_); rintro _ w9 ⟨rfl, hk⟩; have hS1 := hS.callM hk; clear hS hk q1; have hS := hS1; clear hS1)
              | (go_at_call 35; (with_reducible refine (cS.out _ hS.preM).mono ?_); rintro _ w10 ⟨rfl, wv10, hk⟩; have hS1 := hS.callM hk; clear hS hk; have hS := hS1; clear hS1; have q5 := hS.old p5 (by simp))
              | (go_at_call 21; (with_reducible refine (cC.out _ _ hS.preM (hsl.out _ _ hS) (hapc.out _ _ _ _ hS)).mono ?_); rintro _ w11 ⟨rfl, wv11, hk⟩; have hS1 := hS.callM hk; clear hS hk q5; have hS := hS1; clear hS1)
              | (go_at_call 39; (with_reducible refine (cL.out _ _ hS.preM).mono ?_); rintro _ w12 ⟨rfl, hk⟩; have hS1 := hS.callM hk; clear hS hk; have hS := hS1; clear hS1)
              | ((with_reducible refine wpList_alloc_st hS rfl rfl ez ?_); intro gx w1 hS1; clear hS; have hS := hS1; clear hS1)
              | ((with_reducible refine wpList_storerow_st 0 hS rfl rfl rfl rfl (by kernel_rfl) rfl rfl rfl rfl ?_); intro w1 hS1; clear hS; have hS := hS1; clear hS1; try simp only [List.set_cons_zero, List.set_cons_succ, List.setIfInBounds_toArray, List.take_succ_cons, List.take_zero, List.drop_succ_cons, List.drop_zero, List.nil_append, List.cons_append, List.append_nil, List.drop_nil, List.take_nil, List.length_cons, List.length_nil, Nat.zero_add, Nat.add_zero, Nat.reduceAdd] at hS; have hcl := hS.cell 0 rfl; have hcm := hS.cell 1 rfl; have hcn := hS.cell 2 rfl)
              | (with_reducible refine wpList_box_st hS rfl rfl rfl ?_; intro g1 w1 hS1; clear hS; replace hS := hS1; clear hS1) | (with_reducible refine wpList_box1_st hS rfl rfl rfl ?_; intro g1 w1 hS1; clear hS; replace hS := hS1; clear hS1) | (with_reducible refine wpList_alloc_st hS rfl rfl (by assumption) ?_; intro g1 w1 hS1; clear hS; replace hS := hS1; clear hS1) | (with_reducible refine wpList_alloc1_st hS rfl rfl (by assumption) rfl ?_; intro g1 w1 hS1; clear hS; replace hS := hS1; clear hS1) | ((with_reducible refine wpList_load_st 0 hS rfl rfl rfl rfl ?_ rfl ?_); focus (simp [scalarB, go_sem]; done)) | ((with_reducible refine wpList_loadall_st 0 hS rfl rfl rfl rfl ?_ (by kernel_rfl) ?_); focus (simp [rowB, go_sem]; done)) | ((with_reducible refine wpList_store_st 0 hS rfl rfl rfl rfl (by kernel_rfl) rfl rfl ?_); intro w1 hS1; clear hS; replace hS := hS1; clear hS1; try simp only [List.set_cons_zero, List.set_cons_succ, List.setIfInBounds_toArray, List.take_succ_cons, List.take_zero, List.drop_succ_cons, List.drop_zero, List.nil_append, List.cons_append, List.append_nil, List.drop_nil, List.take_nil, List.length_cons, List.length_nil, Nat.zero_add, Nat.add_zero, Nat.reduceAdd] at hS) | ((with_reducible refine wpList_storerow_st 0 hS rfl rfl rfl rfl (by kernel_rfl) rfl rfl rfl rfl ?_); intro w1 hS1; clear hS; replace hS := hS1; clear hS1; try simp only [List.set_cons_zero, List.set_cons_succ, List.setIfInBounds_toArray, List.take_succ_cons, List.take_zero, List.drop_succ_cons, List.drop_zero, List.nil_append, List.cons_append, List.append_nil, List.drop_nil, List.take_nil, List.length_cons, List.length_nil, Nat.zero_add, Nat.add_zero, Nat.reduceAdd] at hS) | ((with_reducible refine wpList_load_st 1 hS rfl rfl rfl rfl ?_ rfl ?_); focus (simp [scalarB, go_sem]; done)) | ((with_reducible refine wpList_loadall_st 1 hS rfl rfl rfl rfl ?_ (by kernel_rfl) ?_); focus (simp [rowB, go_sem]; done)) | ((with_reducible refine wpList_store_st 1 hS rfl rfl rfl rfl (by kernel_rfl) rfl rfl ?_); intro w1 hS1; clear hS; replace hS := hS1; clear hS1; try simp only [List.set_cons_zero, List.set_cons_succ, List.setIfInBounds_toArray, List.take_succ_cons, List.take_zero, List.drop_succ_cons, List.drop_zero, List.nil_append, List.cons_append, List.append_nil, List.drop_nil, List.take_nil, List.length_cons, List.length_nil, Nat.zero_add, Nat.add_zero, Nat.reduceAdd] at hS) | ((with_reducible refine wpList_storerow_st 1 hS rfl rfl rfl rfl (by kernel_rfl) rfl rfl rfl rfl ?_); intro w1 hS1; clear hS; replace hS := hS1; clear hS1; try simp only [List.set_cons_zero, List.set_cons_succ, List.setIfInBounds_toArray, List.take_succ_cons, List.take_zero, List.drop_succ_cons, List.drop_zero, List.nil_append, List.cons_append, List.append_nil, List.drop_nil, List.take_nil, List.length_cons, List.length_nil, Nat.zero_add, Nat.add_zero, Nat.reduceAdd] at hS) | ((with_reducible refine wpList_load_st 2 hS rfl rfl rfl rfl ?_ rfl ?_); focus (simp [scalarB, go_sem]; done)) | ((with_reducible refine wpList_loadall_st 2 hS rfl rfl rfl rfl ?_ (by kernel_rfl) ?_); focus (simp [rowB, go_sem]; done)) | ((with_reducible refine wpList_store_st 2 hS rfl rfl rfl rfl (by kernel_rfl) rfl rfl ?_); intro w1 hS1; clear hS; replace hS := hS1; clear hS1; try simp only [List.set_cons_zero, List.set_cons_succ, List.setIfInBounds_toArray, List.take_succ_cons, List.take_zero, List.drop_succ_cons, List.drop_zero, List.nil_append, List.cons_append, List.append_nil, List.drop_nil, List.take_nil, List.length_cons, List.length_nil, Nat.zero_add, Nat.add_zero, Nat.reduceAdd] at hS) | ((with_reducible refine wpList_storerow_st 2 hS rfl rfl rfl rfl (by kernel_rfl) rfl rfl rfl rfl ?_); intro w1 hS1; clear hS; replace hS := hS1; clear hS1; try simp only [List.set_cons_zero, List.set_cons_succ, List.setIfInBounds_toArray, List.take_succ_cons, List.take_zero, List.drop_succ_cons, List.drop_zero, List.nil_append, List.cons_append, List.append_nil, List.drop_nil, List.take_nil, List.length_cons, List.length_nil, Nat.zero_add, Nat.add_zero, Nat.reduceAdd] at hS))
            all_goals
              go_roundg (n - (j + 1))
              case measure => omega
              case rel => exact ⟨j + 1, A', B', _, _, by omega, by omega, by go_num, Lib.hid ⟨hh', by (have := hsq.out; have := hse.out; simp only; omega), hfc0⟩, by simpa using hS.drop.drop⟩
      · have hk61 : 60 < x.keep.length := by omega
        clear hk60
        go_wp2_with (first
          | (with_reducible refine wpList_box_st hS rfl rfl rfl ?_; intro g1 w1 hS1; clear hS; replace hS := hS1; clear hS1) | (with_reducible refine wpList_box1_st hS rfl rfl rfl ?_; intro g1 w1 hS1; clear hS; replace hS := hS1; clear hS1) | (with_reducible refine wpList_alloc_st hS rfl rfl (by assumption) ?_; intro g1 w1 hS1; clear hS; replace hS := hS1; clear hS1) | (with_reducible refine wpList_alloc1_st hS rfl rfl (by assumption) rfl ?_; intro g1 w1 hS1; clear hS; replace hS := hS1; clear hS1) | ((with_reducible refine wpList_load_st 0 hS rfl rfl rfl rfl ?_ rfl ?_); focus (simp [scalarB, go_sem]; done)) | ((with_reducible refine wpList_loadall_st 0 hS rfl rfl rfl rfl ?_ (by kernel_rfl) ?_); focus (simp [rowB, go_sem]; done)) | ((with_reducible refine wpList_store_st 0 hS rfl rfl rfl rfl (by kernel_rfl) rfl rfl ?_); intro w1 hS1; clear hS; replace hS := hS1; clear hS1; try simp only [List.set_cons_zero, List.set_cons_succ, List.setIfInBounds_toArray, List.take_succ_cons, List.take_zero, List.drop_succ_cons, List.drop_zero, List.nil_append, List.cons_append, List.append_nil, List.drop_nil, List.take_nil, List.length_cons, List.length_nil, Nat.zero_add, Nat.add_zero, Nat.reduceAdd] at hS) | ((with_reducible refine wpList_storerow_st 0 hS rfl rfl rfl rfl (by kernel_rfl) rfl rfl rfl rfl ?_); intro w1 hS1; clear hS; replace hS := hS1; clear hS1; try simp only [List.set_cons_zero, List.set_cons_succ, List.setIfInBounds_toArray, List.take_succ_cons, List.take_zero, List.drop_succ_cons, List.drop_zero, List.nil_append, List.cons_append, List.append_nil, List.drop_nil, List.take_nil, List.length_cons, List.length_nil, Nat.zero_add, Nat.add_zero, Nat.reduceAdd] at hS)
          | (go_at_call 26; (with_reducible refine (cA.out _).mono ?_); rintro _ w3 ⟨rfl, hb3⟩; have hS1 := hS.keepB hb3; clear hb3 hS; have hS := hS1; clear hS1))
        go_ret
        exact ⟨rfl, hS.below⟩
    · by_cases hlt : j < n
      · have hl1 : 40 ≤ j := by omega
        clear hend
        go_wp2_with (first
          | (with_reducible refine wpList_box_st hS rfl rfl rfl ?_; intro g1 w1 hS1; clear hS; replace hS := hS1; clear hS1) | (with_reducible refine wpList_box1_st hS rfl rfl rfl ?_; intro g1 w1 hS1; clear hS; replace hS := hS1; clear hS1) | (with_reducible refine wpList_alloc_st hS rfl rfl (by assumption) ?_; intro g1 w1 hS1; clear hS; replace hS := hS1; clear hS1) | (with_reducible refine wpList_alloc1_st hS rfl rfl (by assumption) rfl ?_; intro g1 w1 hS1; clear hS; replace hS := hS1; clear hS1) | ((with_reducible refine wpList_load_st 0 hS rfl rfl rfl rfl ?_ rfl ?_); focus (simp [scalarB, go_sem]; done)) | ((with_reducible refine wpList_loadall_st 0 hS rfl rfl rfl rfl ?_ (by kernel_rfl) ?_); focus (simp [rowB, go_sem]; done)) | ((with_reducible refine wpList_store_st 0 hS rfl rfl rfl rfl (by kernel_rfl) rfl rfl ?_); intro w1 hS1; clear hS; replace hS := hS1; clear hS1; try simp only [List.set_cons_zero, List.set_cons_succ, List.setIfInBounds_toArray, List.take_succ_cons, List.take_zero, List.drop_succ_cons, List.drop_zero, List.nil_append, List.cons_append, List.append_nil, List.drop_nil, List.take_nil, List.length_cons, List.length_nil, Nat.zero_add, Nat.add_zero, Nat.reduceAdd] at hS) | ((with_reducible refine wpList_storerow_st 0 hS rfl rfl rfl rfl (by kernel_rfl) rfl rfl rfl rfl ?_); intro w1 hS1; clear hS; replace hS := hS1; clear hS1; try simp only [List.set_cons_zero, List.set_cons_succ, List.setIfInBounds_toArray, List.take_succ_cons, List.take_zero, List.drop_succ_cons, List.drop_zero, List.nil_append, List.cons_append, List.append_nil, List.drop_nil, List.take_nil, List.length_cons, List.length_nil, Nat.zero_add, Nat.add_zero, Nat.reduceAdd] at hS)
          | (go_at_call 26; (with_reducible refine (cA.out _).mono ?_); rintro _ w3 ⟨rfl, hb3⟩; have hS1 := hS.keepB hb3; clear hb3 hS; have hS := hS1; clear hS1))
        go_ret
        exact ⟨rfl, hS.below⟩
      · clear hend
        go_wp2_with (first
          | (with_reducible refine wpList_box_st hS rfl rfl rfl ?_; intro g1 w1 hS1; clear hS; replace hS := hS1; clear hS1) | (with_reducible refine wpList_box1_st hS rfl rfl rfl ?_; intro g1 w1 hS1; clear hS; replace hS := hS1; clear hS1) | (with_reducible refine wpList_alloc_st hS rfl rfl (by assumption) ?_; intro g1 w1 hS1; clear hS; replace hS := hS1; clear hS1) | (with_reducible refine wpList_alloc1_st hS rfl rfl (by assumption) rfl ?_; intro g1 w1 hS1; clear hS; replace hS := hS1; clear hS1) | ((with_reducible refine wpList_load_st 0 hS rfl rfl rfl rfl ?_ rfl ?_); focus (simp [scalarB, go_sem]; done)) | ((with_reducible refine wpList_loadall_st 0 hS rfl rfl rfl rfl ?_ (by kernel_rfl) ?_); focus (simp [rowB, go_sem]; done)) | ((with_reducible refine wpList_store_st 0 hS rfl rfl rfl rfl (by kernel_rfl) rfl rfl ?_); intro w1 hS1; clear hS; replace hS := hS1; clear hS1; try simp only [List.set_cons_zero, List.set_cons_succ, List.setIfInBounds_toArray, List.take_succ_cons, List.take_zero, List.drop_succ_cons, List.drop_zero, List.nil_append, List.cons_append, List.append_nil, List.drop_nil, List.take_nil, List.length_cons, List.length_nil, Nat.zero_add, Nat.add_zero, Nat.reduceAdd] at hS) | ((with_reducible refine wpList_storerow_st 0 hS rfl rfl rfl rfl (by kernel_rfl) rfl rfl rfl rfl ?_); intro w1 hS1; clear hS; replace hS := hS1; clear hS1; try simp only [List.set_cons_zero, List.set_cons_succ, List.setIfInBounds_toArray, List.take_succ_cons, List.take_zero, List.drop_succ_cons, List.drop_zero, List.nil_append, List.cons_append, List.append_nil, List.drop_nil, List.take_nil, List.length_cons, List.length_nil, Nat.zero_add, Nat.add_zero, Nat.reduceAdd] at hS)
          | (go_at_call 26; (with_reducible refine (cA.out _).mono ?_); rintro _ w3 ⟨rfl, hb3⟩; have hS1 := hS.keepB hb3; clear hb3 hS; have hS := hS1; clear hS1))
        go_ret
        exact ⟨rfl, hS.below⟩
end Go.Proofs.Ytlhpibniecfofaa
end

section
/- The reference's disks in memory; its step, put, Write, Read, Sync, Crash, New. -/
set_option linter.unusedSimpArgs false
set_option linter.unusedVariables false
namespace Go.Ofp
open Go.RowKit
section
variable {P : Program} {w w0 : World} {F : List Nat} {L : List Ch} {ops : Array Oper} {rest : List Oper} {o : Oper} {a : Act} {Q : Exit → Act → World → Prop} {K : Act → World → Prop}
/-- A cell of a slice of the call's own is read. -/
theorem wpList_loadcell_st (i : Nat) {e size n c g k m : Nat} {xs : List Value} (hS : St w0 F L w) (hi : L[i]? = some (Ch.row e size (.slice (some ⟨g, 0, none⟩) n c) m xs)) (hgd : o.guard = none) {t : TypeId} {x : Operand} (ho : o.op = .load t x) (hx : a.eval x = .pointer (some ⟨g, k, none⟩))
    (hu : scalarB P t = true) {v : Value} (hv : xs[k]? = some v) (h : wpList P ops Q rest (a.put o.dst v) w) : wpList P ops Q (o :: rest) a w := by
  refine wpList_plain hgd fun K hK => ?_
  have hc : w.cell? ⟨g, k, none⟩ = some v := by
    have := (hS.rowsl i hi).add k v hv
    rwa [Addr.add_lit, Nat.zero_add] at this
  have hr := run_load1 hu hc
  unfold Oper.wp execOp
  simp only [ho, hx, Sem.run_bind, hr, Result.andThen_ok, Sem.run_pure]
  exact hK _ _ h
theorem op_loadcell_st (hw : Region.wanted o (yielded ops a.tmps) = true) (i : Nat) {e size n c g k m : Nat} {xs : List Value} (hS : St w0 F L w) (hi : L[i]? = some (Ch.row e size (.slice (some ⟨g, 0, none⟩) n c) m xs)) {t : TypeId} {x : Operand} (ho : o.op = .load t x) (hx : a.eval x = .pointer (some ⟨g, k, none⟩))
    (hu : scalarB P t = true) {v : Value} (hv : xs[k]? = some v) (h : K (a.put o.dst v) w) : if Region.wanted o (yielded ops a.tmps) = true then Oper.wp P o a w K Q else K (a.put o.dst undef) w := by
  rw [if_pos hw]
  have hc : w.cell? ⟨g, k, none⟩ = some v := by
    have := (hS.rowsl i hi).add k v hv
    rwa [Addr.add_lit, Nat.zero_add] at this
  have hr := run_load1 hu hc
  unfold Oper.wp execOp
  simp only [ho, hx, Sem.run_bind, hr, Result.andThen_ok, Sem.run_pure]
  exact h
/-- []T{x}, x a struct. -/
theorem wpList_build1a_st (hS : St w0 F L w) (hgd : o.guard = none) {t : TypeId} {x : Operand} (ho : o.op = .buildSlice t 1 #[(0, x)]) {e : TypeId} (ht : P.underlying t = some (.slice e)) {z : Value} {size bytes : Nat} (he : Elem P e z size bytes)
    {cs : Array Value} (hx : a.eval x = .agg cs) (hv : cs.size = size) (hs : size ≤ 16777216)
    (h : ∀ g w', St w0 F (Ch.blk g e cs :: L) w' → wpList P ops Q rest (a.put o.dst (.slice (some ⟨g, 0, none⟩) 1 1)) w') : wpList P ops Q (o :: rest) a w := by
  refine wpList_plain hgd fun K hK => ?_
  have hr := run_build1 w t e ht he (v := .agg cs) hv hs
  unfold Oper.wp execOp
  simp only [ho, List.map_toArray, List.map_cons, List.map_nil, hx, Sem.run_bind, hr, Result.andThen_ok, Sem.run_pure]
  exact hK _ _ (h _ _ (hS.alloc cs e))
/-- Pieces number i, j, k. -/
theorem St.pick3 (i j k : Nat) {A B C : Ch} (h : St w0 F L w) (hi : L[i]? = some A) (hj : L[j]? = some B) (hk : L[k]? = some C) (hd : i ≠ j ∧ i ≠ k ∧ j ≠ k) : St w0 F [A, B, C] w := by
  refine h.pick (fun q => if q = 0 then i else if q = 1 then j else k) ?_ ?_
  · intro q c hc
    match q with
    | 0 => simp at hc; subst hc; exact hi
    | 1 => simp at hc; subst hc; exact hj
    | 2 => simp at hc; subst hc; exact hk
    | q + 3 => simp at hc
  · intro p q hp hq hpq
    simp at hp hq
    obtain ⟨h1, h2, h3⟩ := hd
    match p, q with
    | 0, 0 => omega
    | 0, 1 => simpa using h1
    | 0, 2 => simpa using h2
    | 1, 0 => simpa using fun e => h1 e.symm
    | 1, 1 => omega
    | 1, 2 => simpa using h3
    | 2, 0 => simpa using fun e => h2 e.symm
    | 2, 1 => simpa using fun e => h3 e.symm
    | 2, 2 => omega
    | p + 3, _ => omega
    | _, q + 3 => omega
end
namespace Dk
theorem over_none (i : Int) (l : List Wt) (s : Sc) (h : ∀ x ∈ l, x.place ≠ i) : l.foldl (over i) s = s := by
  induction l generalizing s with
  | nil => rfl
  | cons x l ih => rw [List.foldl_cons, over, if_neg (h x (by simp)), ih _ fun y hy => h y (by simp [hy])]
/-- The last write that waits for a sector is what is seen. -/
theorem see_last (d : Dk) (i : Int) (j : Nat) (hj : j < d.wait.length) (hx : d.wait[j].place = i) (h : ∀ x ∈ d.wait.drop (j + 1), x.place ≠ i) : d.see i = ⟨d.wait[j].b, false⟩ := by
  have e : d.see i = d.wait.foldl (over i) (d.sec.getD i.toNat ⟨[], true⟩) := rfl
  have e2 : d.wait.foldl (over i) (d.sec.getD i.toNat ⟨[], true⟩) = (d.wait.take (j + 1) ++ d.wait.drop (j + 1)).foldl (over i) (d.sec.getD i.toNat ⟨[], true⟩) := by rw [List.take_append_drop]
  rw [e, e2, List.foldl_append, List.take_succ_eq_append_getElem hj, List.foldl_append, over_none _ _ _ h]
  simp only [List.foldl_cons, List.foldl_nil]
  rw [over, if_pos hx]
theorem see_none (d : Dk) (i : Int) (h : ∀ x ∈ d.wait, x.place ≠ i) : d.see i = d.sec.getD i.toNat ⟨[], true⟩ := over_none _ _ _ h
end Dk
end Go.Ofp
namespace Go.Proofs.Ytlhpibniecfofaa
open Go.RowKit Go.Ofp
set_option linter.unusedVariables false
set_option maxRecDepth 100000
set_option maxHeartbeats 4000000

/-- A sector as the reference has it: no bytes where it is bad. -/
def rsc (s : Sc) : Value := .string (str (if s.bad then [] else s.b))
def rwt (x : Wt) : List Value := [.int .i64 x.place, .string (str x.b)]
/-- The reference's disk in memory. -/
def rdk (g : Nat) (sv wv : Value) (d : Dk) : List Ch :=
  [Ch.blk g 29 #[sv, wv, .int .i64 d.fuse, .bool d.dead], Ch.row 9 1 sv d.sec.length (d.sec.map rsc), Ch.row 141 2 wv d.wait.length (d.wait.map rwt).flatten]

theorem elem_str : Elem Try.prog 9 (.string ⟨#[]⟩) 1 16 := Elem.mk (by kernel_rfl) (by rfl) (by decide)
theorem elem_rwt : Elem Try.prog 141 (.agg #[.int .i64 0, .string ⟨#[]⟩]) 2 24 := Elem.mk (by kernel_rfl) (by rfl) (by decide)
theorem elem_rdk : Elem Try.prog 29 (.agg #[.slice none 0 0, .slice none 0 0, .int .i64 0, .bool false]) 4 64 := Elem.mk (by kernel_rfl) (by rfl) (by decide)
theorem rsc_all (l : List Sc) : ∀ u ∈ l.map rsc, u.oneCell' = true := by
  intro u hu
  obtain ⟨x, -, rfl⟩ := List.mem_map.1 hu
  rfl
theorem rwt_all (l : List Wt) : ∀ u ∈ (l.map rwt).flatten, u.oneCell' = true := by
  intro u hu
  obtain ⟨r, hr, hu⟩ := List.mem_flatten.1 hu
  obtain ⟨x, -, rfl⟩ := List.mem_map.1 hr
  simp [rwt] at hu
  rcases hu with rfl | rfl <;> rfl
theorem rwt_len (l : List Wt) : (l.map rwt).flatten.length = l.length * 2 := by
  rw [flat_len2 2 _ (by intro r hr; obtain ⟨x, -, rfl⟩ := List.mem_map.1 hr; rfl), List.length_map]
theorem rwt_cell (l : List Wt) (j : Nat) (hj : j < l.length) : (l.map rwt).flatten[j * 2]? = some (.int .i64 l[j].place) ∧ (l.map rwt).flatten[j * 2 + 1]? = some (.string (str l[j].b)) := by
  have h : ∀ r ∈ l.map rwt, r.length = 2 := by intro r hr; obtain ⟨x, -, rfl⟩ := List.mem_map.1 hr; rfl
  have h0 := flatten_get 2 _ h j 0 (by simpa using hj) (by omega)
  have h1 := flatten_get 2 _ h j 1 (by simpa using hj) (by omega)
  simp [rwt] at h0 h1
  exact ⟨h0, h1⟩

theorem rstep_any (g : Nat) (sv wv : Value) (d : Dk) (w : World) (h : St w (feet (rdk g sv wv d)) (rdk g sv wv d) w) (hf : -9223372036854775808 ≤ d.fuse ∧ d.fuse ≤ 9223372036854775807) (hd : d.dead = false) :
    Calls Try.prog 81 #[.pointer (some ⟨g, 0, none⟩)] w fun e w' => e = .returned (.bool d.step.dead) ∧ St w (feet (rdk g sv wv d)) (rdk g sv wv d.step) w' := by
  generalize feet (rdk g sv wv d) = F at h ⊢
  have hS := h
  clear h
  unfold rdk at hS ⊢
  rw [Dk.step_sec, Dk.step_wait]
  unfold Dk.step
  obtain ⟨sec, wait, fuse, dead⟩ := d
  simp only at hS hf hd ⊢
  subst hd
  generalize List.map rsc sec = R1 at hS ⊢
  generalize (List.map rwt wait).flatten = R2 at hS ⊢
  by_cases h0 : fuse = 0
  · subst h0
    go_enter Try.func81, Try.ntmps81
    go_wp2_with (first | (with_reducible refine wpList_box_st hS rfl rfl rfl ?_; intro g1 w1 hS1; clear hS; replace hS := hS1; clear hS1) | (with_reducible refine wpList_box1_st hS rfl rfl rfl ?_; intro g1 w1 hS1; clear hS; replace hS := hS1; clear hS1) | (with_reducible refine wpList_alloc_st hS rfl rfl (by assumption) ?_; intro g1 w1 hS1; clear hS; replace hS := hS1; clear hS1) | (with_reducible refine wpList_alloc1_st hS rfl rfl (by assumption) rfl ?_; intro g1 w1 hS1; clear hS; replace hS := hS1; clear hS1) | ((with_reducible refine wpList_load_st 0 hS rfl rfl rfl rfl ?_ rfl ?_); focus (simp [scalarB, go_sem]; done)) | ((with_reducible refine wpList_loadall_st 0 hS rfl rfl rfl rfl ?_ (by kernel_rfl) ?_); focus (simp [rowB, go_sem]; done)) | ((with_reducible refine wpList_store_st 0 hS rfl rfl rfl rfl (by kernel_rfl) rfl rfl ?_); intro w1 hS1; clear hS; replace hS := hS1; clear hS1; try simp only [List.set_cons_zero, List.set_cons_succ, List.setIfInBounds_toArray, List.take_succ_cons, List.take_zero, List.drop_succ_cons, List.drop_zero, List.nil_append, List.cons_append, List.append_nil, List.drop_nil, List.take_nil, List.length_cons, List.length_nil, Nat.zero_add, Nat.add_zero, Nat.reduceAdd] at hS) | ((with_reducible refine wpList_storerow_st 0 hS rfl rfl rfl rfl (by kernel_rfl) rfl rfl rfl rfl ?_); intro w1 hS1; clear hS; replace hS := hS1; clear hS1; try simp only [List.set_cons_zero, List.set_cons_succ, List.setIfInBounds_toArray, List.take_succ_cons, List.take_zero, List.drop_succ_cons, List.drop_zero, List.nil_append, List.cons_append, List.append_nil, List.drop_nil, List.take_nil, List.length_cons, List.length_nil, Nat.zero_add, Nat.add_zero, Nat.reduceAdd] at hS))
    go_ret
    exact ⟨rfl, hS⟩
  · rw [if_neg h0]
    have b0 : (fuse == 0) = false := by rw [beq_eq_false_iff_ne]; exact h0
    by_cases h1 : 0 < fuse
    · rw [if_pos h1]
      have hw : IntKind.i64.wrap (fuse - 1) = fuse - 1 := IntWalk.i64_in _ (by omega)
      clear h0
      go_enter Try.func81, Try.ntmps81
      go_wp2_with (first | (with_reducible refine wpList_box_st hS rfl rfl rfl ?_; intro g1 w1 hS1; clear hS; replace hS := hS1; clear hS1) | (with_reducible refine wpList_box1_st hS rfl rfl rfl ?_; intro g1 w1 hS1; clear hS; replace hS := hS1; clear hS1) | (with_reducible refine wpList_alloc_st hS rfl rfl (by assumption) ?_; intro g1 w1 hS1; clear hS; replace hS := hS1; clear hS1) | (with_reducible refine wpList_alloc1_st hS rfl rfl (by assumption) rfl ?_; intro g1 w1 hS1; clear hS; replace hS := hS1; clear hS1) | ((with_reducible refine wpList_load_st 0 hS rfl rfl rfl rfl ?_ rfl ?_); focus (simp [scalarB, go_sem]; done)) | ((with_reducible refine wpList_loadall_st 0 hS rfl rfl rfl rfl ?_ (by kernel_rfl) ?_); focus (simp [rowB, go_sem]; done)) | ((with_reducible refine wpList_store_st 0 hS rfl rfl rfl rfl (by kernel_rfl) rfl rfl ?_); intro w1 hS1; clear hS; replace hS := hS1; clear hS1; try simp only [List.set_cons_zero, List.set_cons_succ, List.setIfInBounds_toArray, List.take_succ_cons, List.take_zero, List.drop_succ_cons, List.drop_zero, List.nil_append, List.cons_append, List.append_nil, List.drop_nil, List.take_nil, List.length_cons, List.length_nil, Nat.zero_add, Nat.add_zero, Nat.reduceAdd] at hS) | ((with_reducible refine wpList_storerow_st 0 hS rfl rfl rfl rfl (by kernel_rfl) rfl rfl rfl rfl ?_); intro w1 hS1; clear hS; replace hS := hS1; clear hS1; try simp only [List.set_cons_zero, List.set_cons_succ, List.setIfInBounds_toArray, List.take_succ_cons, List.take_zero, List.drop_succ_cons, List.drop_zero, List.nil_append, List.cons_append, List.append_nil, List.drop_nil, List.take_nil, List.length_cons, List.length_nil, Nat.zero_add, Nat.add_zero, Nat.reduceAdd] at hS))
      go_ret
      exact ⟨rfl, hS⟩
    · rw [if_neg h1]
      clear h0
      have h2 : fuse ≤ 0 := by omega
      clear h1
      go_enter Try.func81, Try.ntmps81
      go_wp2_with (first | (with_reducible refine wpList_box_st hS rfl rfl rfl ?_; intro g1 w1 hS1; clear hS; replace hS := hS1; clear hS1) | (with_reducible refine wpList_box1_st hS rfl rfl rfl ?_; intro g1 w1 hS1; clear hS; replace hS := hS1; clear hS1) | (with_reducible refine wpList_alloc_st hS rfl rfl (by assumption) ?_; intro g1 w1 hS1; clear hS; replace hS := hS1; clear hS1) | (with_reducible refine wpList_alloc1_st hS rfl rfl (by assumption) rfl ?_; intro g1 w1 hS1; clear hS; replace hS := hS1; clear hS1) | ((with_reducible refine wpList_load_st 0 hS rfl rfl rfl rfl ?_ rfl ?_); focus (simp [scalarB, go_sem]; done)) | ((with_reducible refine wpList_loadall_st 0 hS rfl rfl rfl rfl ?_ (by kernel_rfl) ?_); focus (simp [rowB, go_sem]; done)) | ((with_reducible refine wpList_store_st 0 hS rfl rfl rfl rfl (by kernel_rfl) rfl rfl ?_); intro w1 hS1; clear hS; replace hS := hS1; clear hS1; try simp only [List.set_cons_zero, List.set_cons_succ, List.setIfInBounds_toArray, List.take_succ_cons, List.take_zero, List.drop_succ_cons, List.drop_zero, List.nil_append, List.cons_append, List.append_nil, List.drop_nil, List.take_nil, List.length_cons, List.length_nil, Nat.zero_add, Nat.add_zero, Nat.reduceAdd] at hS) | ((with_reducible refine wpList_storerow_st 0 hS rfl rfl rfl rfl (by kernel_rfl) rfl rfl rfl rfl ?_); intro w1 hS1; clear hS; replace hS := hS1; clear hS1; try simp only [List.set_cons_zero, List.set_cons_succ, List.setIfInBounds_toArray, List.take_succ_cons, List.take_zero, List.drop_succ_cons, List.drop_zero, List.nil_append, List.cons_append, List.append_nil, List.drop_nil, List.take_nil, List.length_cons, List.length_nil, Nat.zero_add, Nat.add_zero, Nat.reduceAdd] at hS))
      go_ret
      exact ⟨rfl, hS⟩

theorem rput_d (g : Nat) (sv wv : Value) (d : Dk) (i : Nat) (b : ByteArray) (s : Sc) (w : World) (h : St w (feet (rdk g sv wv d)) (rdk g sv wv d) w) (hi : i < d.sec.length) (hl : d.sec.length ≤ 100000) (hb : rsc s = .string b) :
    Calls Try.prog 80 #[.pointer (some ⟨g, 0, none⟩), .int .i64 i, .string b] w fun e w' => e = .returned (.tuple #[]) ∧ ∃ sv', St w (feet (rdk g sv wv d)) (rdk g sv' wv { d with sec := d.sec.set i s }) w' := by
  have hset : (d.sec.set i s).map rsc = (d.sec.map rsc).take i ++ .string b :: (d.sec.map rsc).drop (i + 1) := by
    rw [List.map_set, hb, List.set_eq_take_append_cons_drop, if_pos (by simpa using hi)]
  have hlen : (d.sec.map rsc).length = d.sec.length := List.length_map _
  have hone := rsc_all d.sec
  have hS := h
  generalize feet (rdk g sv wv d) = F at hS ⊢
  clear h hb
  unfold rdk at hS ⊢
  simp only [List.length_set]
  rw [hset]
  clear hset
  generalize d.sec.map rsc = R1 at *
  generalize (d.wait.map rwt).flatten = R2 at *
  generalize d.sec.length = n at *
  generalize d.wait.length = m at *
  generalize d.fuse = fu at *
  generalize d.dead = de at *
  obtain ⟨av, cs, rfl, -⟩ := hS.row 1 rfl
  replace hlen := Lib.hid hlen
  have ez := elem_str
  go_enter Try.func80, Try.ntmps80
  go_wp2_with (first
    | ((with_reducible refine wpList_build0_st hS rfl rfl Try.underlying26 elem_str ?_); intro g1 w3 hS1; clear hS; have hS := hS1; clear hS1)
    | ((with_reducible refine wpList_load_st 1 hS rfl rfl rfl rfl ?_ rfl ?_); focus (simp [scalarB, go_sem]; done))
    | (at_builtin; (with_reducible refine wpList_app_st 0 hS rfl rfl rfl Try.underlying26 elem_str rfl (Src.slice Try.underlying26 (hS.rowsl 2 rfl) (by rw [hlen.out, Nat.mul_one])) rfl hone (by omega) (by unfold maxLen; omega) ?_); intro v5 w3 hS1; clear hS; simp only [List.set_cons_zero, Nat.zero_add, List.nil_append] at hS1; have hS := hS1; clear hS1; obtain ⟨g5, c5, rfl, -⟩ := hS.rowat 0 rfl (by omega))
    | ((with_reducible refine wpList_storeelem1_st 0 i hS rfl rfl rfl rfl (by omega) (by kernel_rfl) rfl hi ?_); intro w6 hS1; clear hS; simp only [List.set_cons_zero] at hS1; have hS := hS1; clear hS1)
    | ((with_reducible refine wpList_store_st 1 hS rfl rfl rfl rfl (by kernel_rfl) rfl rfl ?_); intro w6 hS1; clear hS; have hS := hS1; clear hS1; try simp only [List.set_cons_zero, List.set_cons_succ, List.setIfInBounds_toArray, List.take_succ_cons, List.take_zero, List.drop_succ_cons, List.drop_zero, List.nil_append, List.cons_append, List.append_nil, List.drop_nil, List.take_nil, List.length_cons, List.length_nil, Nat.zero_add, Nat.add_zero, Nat.reduceAdd] at hS))
  simp only [List.append_assoc, List.singleton_append, List.cons_append, List.nil_append] at hS
  exact bodyPost_end (results_none rfl _ _ _) rfl ⟨rfl, _, hS.pick3 1 0 3 rfl rfl rfl (by omega)⟩

theorem rwrite_any (g : Nat) (sv wv : Value) (d : Dk) (i : Int) (b : ByteArray) (w : World) (h : St w (feet (rdk g sv wv d)) (rdk g sv wv d) w) (hbm : b.size ≤ maxLen) (hl : d.sec.length ≤ 100000) (hw : d.wait.length ≤ 100000) (hf : -9223372036854775808 ≤ d.fuse ∧ d.fuse ≤ 9223372036854775807) :
    Calls Try.prog 38 #[.pointer (some ⟨g, 0, none⟩), .int .i64 i, .string b] w fun e w' => e = .returned (.int .i64 (d.write i b.data.toList).2) ∧ ∃ wv', St w (feet (rdk g sv wv d)) (rdk g sv wv' (d.write i b.data.toList).1) w' := by
  unfold maxLen at hbm
  by_cases hr : d.ready i = 0
  · by_cases hb : b.size = 64
    · have hbl : b.data.toList.length = 64 := by rw [← ba_size]; exact hb
      have hd : d.write i b.data.toList = (Dk.step { d with wait := d.wait ++ [⟨i, b.data.toList⟩] }, if (Dk.step { d with wait := d.wait ++ [⟨i, b.data.toList⟩] }).dead then 15 else 0) := by rw [Dk.write, if_pos hr, if_pos hbl]
      rw [hd]
      obtain ⟨hdd, h0, h1⟩ := Dk.ready_zero hr
      have cS := fun (wv' : Value) (W : World) k => rstep_any g sv wv' { d with wait := d.wait ++ [⟨i, b.data.toList⟩] } W k hf hdd
      generalize Dk.step { d with wait := d.wait ++ [⟨i, b.data.toList⟩] } = d2 at cS ⊢
      obtain ⟨sd, hsd⟩ : ∃ x, d2.dead = x := ⟨_, rfl⟩
      simp only [hsd] at cS ⊢
      replace hsd := Lib.hid hsd
      have hlen := rwt_len d.wait
      have hone := rwt_all d.wait
      have e1 : (d.wait.map rwt).flatten ++ rwt ⟨i, b.data.toList⟩ = ((d.wait ++ [(⟨i, b.data.toList⟩ : Wt)]).map rwt).flatten := by simp
      have e2 : d.wait.length + 1 = (d.wait ++ [(⟨i, b.data.toList⟩ : Wt)]).length := by simp
      have hstr : str b.data.toList = b := by apply ba_ext; simp [str]
      generalize feet (rdk g sv wv d) = F at h ⊢
      have hS := h
      clear h hr hd hf hbl
      unfold rdk at hS
      rw [hdd] at hS
      obtain ⟨av, cs, rfl, -⟩ := hS.row 1 rfl
      obtain ⟨aw, cw, rfl, -⟩ := hS.row 2 rfl
      replace cS := Lib.hid cS
      replace hlen := Lib.hid hlen
      have hn64 : ((b.size : Int) != 64) = false := by simp [hb]
      replace e1 := Lib.hid e1
      replace e2 := Lib.hid e2
      replace hstr := Lib.hid hstr
      go_enter Try.func38, Try.ntmps38
      have hcl := hS.cell 0 rfl
      go_wp2_with (first
        | ((with_reducible refine wpList_build0_st hS rfl rfl Try.underlying27 elem_rwt ?_); intro g1 w3 hS1; clear hS; have hS := hS1; clear hS1)
        | ((with_reducible refine wpList_load_st 0 hS rfl rfl rfl rfl ?_ rfl ?_); focus (simp [scalarB, go_sem]; done))
        | ((with_reducible refine wpList_load_st 1 hS rfl rfl rfl rfl ?_ rfl ?_); focus (simp [scalarB, go_sem]; done))
        | (at_builtin; (with_reducible refine wpList_app_st 0 hS rfl rfl rfl Try.underlying27 elem_rwt rfl (Src.slice Try.underlying27 (hS.rowsl 3 rfl) hlen.out) rfl hone (by omega) (by unfold maxLen; omega) ?_); intro v5 w3 hS1; clear hS; simp only [List.set_cons_zero, Nat.zero_add, List.nil_append] at hS1; have hS := hS1; clear hS1; obtain ⟨a5, c5, rfl, -⟩ := hS.row 0 rfl)
        | (at_builtin; have hA := hS.alloc #[.int .i64 i, .string b] 141; clear hS; have hS := hA; clear hA; (with_reducible refine wpList_app_st 1 (news := [.int .i64 i, .string b]) hS rfl rfl rfl Try.underlying27 elem_rwt rfl (Src.slice Try.underlying27 (hS.blksl2 0 rfl) rfl) rfl (by simp [Value.oneCell']) (by omega) (by unfold maxLen; omega) ?_); intro v6 w5 hS1; clear hS; simp only [List.set_cons_zero, List.set_cons_succ] at hS1; have hS := hS1; clear hS1; obtain ⟨a6, c6, rfl, -⟩ := hS.row 1 rfl)
        | ((with_reducible refine wpList_store_st 2 hS rfl rfl rfl rfl (by kernel_rfl) rfl rfl ?_); intro w6 hS1; clear hS; have hS := hS1; clear hS1; try simp only [List.set_cons_zero, List.set_cons_succ, List.setIfInBounds_toArray, List.take_succ_cons, List.take_zero, List.drop_succ_cons, List.drop_zero, List.nil_append, List.cons_append, List.append_nil, List.drop_nil, List.take_nil, List.length_cons, List.length_nil, Nat.zero_add, Nat.add_zero, Nat.reduceAdd] at hS))
      have hS1 : St w F (rdk g (.slice av d.sec.length cs) (.slice a6 (d.wait.length + 1) c6) { d with wait := d.wait ++ [⟨i, b.data.toList⟩] }) w6 := by
        unfold rdk
        simp only []
        rw [← e1.out, ← e2.out, hdd, rwt, hstr.out]
        exact hS.pick3 2 3 1 rfl rfl rfl (by omega)
      clear hS
      have cT := cS.out _ _ hS1.pre0
      have hfr := fun (A' : List Ch) (W : World) k => hS1.call0 (A' := A') (w' := W) k
      replace cT := Lib.hid cT
      replace hfr := Lib.hid hfr
      clear hS1 cS e1 e2 hlen hone hstr
      cases sd
      all_goals
        go_wp2_with (go_at_call 81; (refine cT.out.mono ?_); rintro _ w4 ⟨rfl, hb3⟩; replace hb3 := hfr.out _ _ hb3; replace hb3 := Lib.hid hb3)
        go_ret
        exact ⟨rfl, _, hb3.out⟩
    · have hd : d.write i b.data.toList = (d, 1) := by rw [Dk.write, if_pos hr, if_neg (by rw [← ba_size]; exact hb)]
      rw [hd]
      obtain ⟨hdd, h0, h1⟩ := Dk.ready_zero hr
      have hS := h.pre0
      unfold rdk at hS
      rw [hdd] at hS
      obtain ⟨av, cs, rfl, -⟩ := hS.row 1 rfl
      obtain ⟨aw, cw, rfl, -⟩ := hS.row 2 rfl
      have c := hS.cell 0 rfl
      replace h := Lib.hid h
      clear hr hd hf hS
      have hb2 : ((b.size : Int) != 64) = true := by simp; omega
      go_enter Try.func38, Try.ntmps38
      go_wp2_with fail
      go_ret
      exact ⟨rfl, _, h.out⟩
  · have hd : d.write i b.data.toList = (d, d.ready i) := by rw [Dk.write, if_neg hr]
    rw [hd]
    have hS := h.pre0
    unfold rdk at hS
    obtain ⟨av, cs, rfl, -⟩ := hS.row 1 rfl
    obtain ⟨aw, cw, rfl, -⟩ := hS.row 2 rfl
    have c := hS.cell 0 rfl
    have hkeep := Lib.hid h
    clear h
    clear hd hf hS
    unfold Dk.ready at hr ⊢
    obtain ⟨n, hn⟩ : ∃ n, d.sec.length = n := ⟨_, rfl⟩
    rw [hn] at c hl hr ⊢
    obtain ⟨dd, hdd⟩ : ∃ n, d.dead = n := ⟨_, rfl⟩
    rw [hdd] at c hr ⊢
    replace hn := Lib.hid hn
    replace hdd := Lib.hid hdd
    cases dd with
    | true =>
      clear hr
      go_enter Try.func38, Try.ntmps38
      go_wp2_with fail
      go_ret
      exact ⟨rfl, _, by rw [← hn.out]; exact hkeep.out⟩
    | false =>
      rw [if_neg (by simp)] at hr ⊢
      by_cases h1 : i < 0
      · rw [if_pos (.inl h1)]
        clear hr
        go_enter Try.func38, Try.ntmps38
        go_wp2_with fail
        go_ret
        exact ⟨rfl, _, by rw [← hn.out]; exact hkeep.out⟩
      · by_cases h2 : (n : Int) ≤ i
        · rw [if_pos (.inr h2)]
          clear hr
          go_enter Try.func38, Try.ntmps38
          go_wp2_with fail
          go_ret
          exact ⟨rfl, _, by rw [← hn.out]; exact hkeep.out⟩
        · exact absurd (if_neg (by omega)) hr
end Go.Proofs.Ytlhpibniecfofaa
end
