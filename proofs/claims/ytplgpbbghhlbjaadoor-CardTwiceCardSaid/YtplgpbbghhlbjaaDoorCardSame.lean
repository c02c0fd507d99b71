/- Lists of cards that are the same. -/
import Derived.Test.YtplgpbbghhlbjaaDoorCardDiffR
import Derived.Test.YtplgpbbghhlbjaaDoorFlat
import Derived.Test.YtplgpbbghhlbjaaDoorSt6
set_option linter.unusedSimpArgs false
set_option linter.unusedVariables false
namespace Go.Ofp
open Go.RowKit
theorem sl_range {w : World} {g off j n : Nat} {l vs : List Value} (h : Sl w (some ⟨g, off, none⟩) l) (hv : (l.drop j).take n = vs) : w.rangeAt g (off + j) vs := by
  intro k v hk
  rw [← hv, List.getElem?_take] at hk
  split at hk
  · rw [List.getElem?_drop] at hk
    have := h.add (j + k) v hk
    rwa [Addr.add_lit, ← Nat.add_assoc] at this
  · cases hk
theorem sl_range0 {w : World} {g j n : Nat} {l vs : List Value} (h : Sl w (some ⟨g, 0, none⟩) l) (hv : (l.drop j).take n = vs) : w.rangeAt g j vs := by
  have := sl_range h hv
  rwa [Nat.zero_add] at this
/-- A struct or an array out of old memory. -/
theorem wpList_rangerow {P : Program} {w : World} {ops : Array Oper} {rest : List Oper} {o : Oper} {a : Act} {Q : Exit → Act → World → Prop} {g j n : Nat} {vs : List Value} (hc : w.rangeAt g j vs) (hgd : o.guard = none) {t : TypeId} {x : Operand} (ho : o.op = .load t x) (hx : a.eval x = .pointer (some ⟨g, j, none⟩))
    (hu : rowB P t = true) (hsz : sizeB P t n = true) (hl : vs.length = n) (h : wpList P ops Q rest (a.put o.dst (.agg vs.toArray)) w) : wpList P ops Q (o :: rest) a w := by
  refine wpList_plain hgd fun K hK => ?_
  have hr := run_loadrow (P := P) hu hsz hl hc
  unfold Oper.wp execOp
  simp only [ho, hx, Sem.run_bind, hr, Result.andThen_ok, Sem.run_pure]
  exact hK _ _ h
/-- A slice of two structs. -/
theorem run_build2 {P : Program} (w : World) (t e : TypeId) (ht : P.underlying t = some (.slice e)) {z : Value} {size bytes : Nat} (he : Elem P e z size bytes) {u v : List Value} (hu : u.length = size) (hv : v.length = size) (hs : size ≤ 1000) :
    (Instr.buildSlice t 2 #[(0, .agg u.toArray), (1, .agg v.toArray)]).run P w = .ok (.slice (some ⟨w.heap.size, 0, none⟩) 2 2) (w.alloc (.cells (u ++ v).toArray e)) := by
  obtain ⟨i, hi, hz, hsz, hby, hzs, hpos⟩ := he
  have h0 : ¬ (16777216 < 2 * i.size) := by omega
  have h1 : ¬ (2 * i.size = 0) := by omega
  have key : ∀ A : Array Value, A.size = 2 * i.size → Instr.fill (fun j => some (j * i.size, i.size)) A [(0, .agg u.toArray), (1, .agg v.toArray)] = some (u ++ v).toArray := by
    intro A hA
    have e1 := Go.Proofs.YtplgpbbghhlbjaaDoor.foldl_put 0 u 0 A (by omega)
    simp only [Nat.zero_add, List.take_zero, List.nil_append] at e1
    have hAl : A.toList.length = 2 * i.size := by simpa using hA
    have hA2 : (u ++ A.toList.drop u.length).toArray.size = 2 * i.size := by simp; omega
    have e2 := Go.Proofs.YtplgpbbghhlbjaaDoor.foldl_put i.size v 0 (u ++ A.toList.drop u.length).toArray (by omega)
    simp only [Nat.add_zero] at e2
    have t1 : (u ++ A.toList.drop u.length).take i.size = u := by rw [List.take_append_of_le_length (by omega), List.take_of_length_le (by omega)]
    have t2 : (u ++ A.toList.drop u.length).drop (i.size + v.length) = [] := List.drop_of_length_le (by simp; omega)
    rw [List.toList_toArray, t1, t2, List.append_nil] at e2
    have br : ∀ (xs : List Value) (F : Array Value → Value × Nat → Array Value) (A : Array Value), xs.toArray.zipIdx.foldl F A = xs.zipIdx.foldl F A := by
      intro xs F A
      rw [← Array.foldl_toList]
      simp
    have e1' : u.toArray.zipIdx.foldl (fun cs x => cs.setIfInBounds (0 + x.2) x.1) A = (u ++ A.toList.drop u.length).toArray := by
      rw [br]
      simpa using e1
    have e2' : v.toArray.zipIdx.foldl (fun cs x => cs.setIfInBounds (i.size + x.2) x.1) (u ++ A.toList.drop u.length).toArray = (u ++ v).toArray := by
      rw [br]
      exact e2
    have n1 : ¬ (u.toArray.size ≠ i.size ∨ 0 + u.toArray.size > A.size) := by simp; omega
    have n2 : ¬ (v.toArray.size ≠ i.size ∨ i.size + v.toArray.size > (u ++ A.toList.drop u.length).toArray.size) := by rw [hA2]; simp; omega
    simp only [Instr.fill, Value.cells, Nat.zero_mul, Nat.one_mul]
    simp only [e1', e2']
    rw [if_neg (by simpa using n1), if_neg (by simpa using n2)]
  have hf := key ((Array.range (2 * i.size)).map (z.cells[· % z.cells.size]!)) (by simp)
  simp [Instr.buildSlice, run_underlying ht, sizeOf, typeInfo, zeroValue, hi, hz, h0, h1]
  rw [hf]
  rfl
end Go.Ofp
namespace Go.Proofs.YtplgpbbghhlbjaaDoor
open Go.RowKit Go.Ofp
set_option linter.unusedVariables false
set_option maxRecDepth 100000
set_option maxHeartbeats 4000000

theorem same1_any (a b : Cd) (ha : a.f.length = 8) (hb : b.f.length = 8) (w : World) :
    Calls Tryd.prog 54 #[.agg (cdRow a).toArray, .agg (cdRow b).toArray] w fun e w' => e = .returned (.bool (decide (a = b))) ∧ Below w.heap.size w w' := by
  have hS := St.start w
  have hE := fun W : World => eql_cd a b ha hb W
  have hG := guard_cd
  have hca : sizeB Tryd.prog 27 (cdRow a).toArray.size = true := by rw [List.size_toArray, show (cdRow a).length = 27 by simp [cdRow, flRow_length, ha]]; kernel_rfl
  have hcb : sizeB Tryd.prog 27 (cdRow b).toArray.size = true := by rw [List.size_toArray, show (cdRow b).length = 27 by simp [cdRow, flRow_length, hb]]; kernel_rfl
  generalize decide (a = b) = r at hE ⊢
  generalize cdRow a = RA at *
  generalize cdRow b = RB at *
  go_enter Tryd.func54, Tryd.ntmps54
  go_wp2_with (first
    | ((with_reducible refine wpList_loadall_st 0 hS rfl rfl rfl rfl ?_ hcb ?_); focus (simp [rowB, go_sem]; done))
    | ((with_reducible refine wpList_loadall_st 1 hS rfl rfl rfl rfl ?_ hca ?_); focus (simp [rowB, go_sem]; done))
    | (with_reducible refine wpList_box_st hS rfl rfl rfl ?_; intro g1 w1 hS1; clear hS; replace hS := hS1; clear hS1) | (with_reducible refine wpList_box1_st hS rfl rfl rfl ?_; intro g1 w1 hS1; clear hS; replace hS := hS1; clear hS1) | (with_reducible refine wpList_alloc_st hS rfl rfl (by assumption) ?_; intro g1 w1 hS1; clear hS; replace hS := hS1; clear hS1) | (with_reducible refine wpList_alloc1_st hS rfl rfl (by assumption) rfl ?_; intro g1 w1 hS1; clear hS; replace hS := hS1; clear hS1) | ((with_reducible refine wpList_load_st 0 hS rfl rfl rfl rfl ?_ rfl ?_); focus (simp [scalarB, go_sem]; done)) | ((with_reducible refine wpList_loadall_st 0 hS rfl rfl rfl rfl ?_ (by kernel_rfl) ?_); focus (simp [rowB, go_sem]; done)) | ((with_reducible refine wpList_store_st 0 hS rfl rfl rfl rfl (by kernel_rfl) rfl rfl ?_); intro w1 hS1; clear hS; replace hS := hS1; clear hS1; try simp only [List.set_cons_zero, List.set_cons_succ, List.setIfInBounds_toArray, List.take_succ_cons, List.take_zero, List.drop_succ_cons, List.drop_zero, List.nil_append, List.cons_append, List.append_nil, List.drop_nil, List.take_nil, List.length_cons, List.length_nil, Nat.zero_add, Nat.add_zero, Nat.reduceAdd] at hS) | ((with_reducible refine wpList_storerow_st 0 hS rfl rfl rfl rfl (by kernel_rfl) rfl rfl rfl rfl ?_); intro w1 hS1; clear hS; replace hS := hS1; clear hS1; try simp only [List.set_cons_zero, List.set_cons_succ, List.setIfInBounds_toArray, List.take_succ_cons, List.take_zero, List.drop_succ_cons, List.drop_zero, List.nil_append, List.cons_append, List.append_nil, List.drop_nil, List.take_nil, List.length_cons, List.length_nil, Nat.zero_add, Nat.add_zero, Nat.reduceAdd] at hS) | ((with_reducible refine wpList_load_st 1 hS rfl rfl rfl rfl ?_ rfl ?_); focus (simp [scalarB, go_sem]; done)) | ((with_reducible refine wpList_loadall_st 1 hS rfl rfl rfl rfl ?_ (by kernel_rfl) ?_); focus (simp [rowB, go_sem]; done)) | ((with_reducible refine wpList_store_st 1 hS rfl rfl rfl rfl (by kernel_rfl) rfl rfl ?_); intro w1 hS1; clear hS; replace hS := hS1; clear hS1; try simp only [List.set_cons_zero, List.set_cons_succ, List.setIfInBounds_toArray, List.take_succ_cons, List.take_zero, List.drop_succ_cons, List.drop_zero, List.nil_append, List.cons_append, List.append_nil, List.drop_nil, List.take_nil, List.length_cons, List.length_nil, Nat.zero_add, Nat.add_zero, Nat.reduceAdd] at hS) | ((with_reducible refine wpList_storerow_st 1 hS rfl rfl rfl rfl (by kernel_rfl) rfl rfl rfl rfl ?_); intro w1 hS1; clear hS; replace hS := hS1; clear hS1; try simp only [List.set_cons_zero, List.set_cons_succ, List.setIfInBounds_toArray, List.take_succ_cons, List.take_zero, List.drop_succ_cons, List.drop_zero, List.nil_append, List.cons_append, List.append_nil, List.drop_nil, List.take_nil, List.length_cons, List.length_nil, Nat.zero_add, Nat.add_zero, Nat.reduceAdd] at hS))
  go_ret
  exact ⟨rfl, hS.below⟩

theorem vlRow_one (v : Vl) : (vlRow v).all Value.oneCell' = true := rfl
theorem flRow_one (f : List Vl) : (flRow f).all Value.oneCell' = true := by
  rw [List.all_eq_true]
  intro u hu
  obtain ⟨v, -, hv⟩ := List.mem_flatMap.1 hu
  exact List.all_eq_true.1 (vlRow_one v) u hv
theorem cdRow_one (c : Cd) : (cdRow c).all Value.oneCell' = true := by
  simp only [cdRow, List.all_cons]
  rw [flRow_one]
  rfl
theorem eqf_any (g h : Nat) (A B : List Cd) (n m ca cb : Nat) (hA : ∀ c ∈ A, c.f.length = 8) (hB : ∀ c ∈ B, c.f.length = 8) (hn : A.length = n) (hm : B.length = m) (hn1 : n ≤ 1000) (hm1 : m ≤ 1000) (w : World)
    (hs : Sl w (some ⟨g, 0, none⟩) (A.map cdRow).flatten) (ht : Sl w (some ⟨h, 0, none⟩) (B.map cdRow).flatten) :
    Calls Tryd.prog 53 #[.slice (some ⟨g, 0, none⟩) n ca, .slice (some ⟨h, 0, none⟩) m cb, .func (.func 54) #[] #[]] w fun e w' => e = .returned (.bool (decide (A = B))) ∧ Below w.heap.size w w' := by
  have hS := St.start w
  have ec := elem_card
  by_cases hnm : n = m
  · subst hnm
    have c1 := Lib.hid (fun (a b : Cd) (ha : a.f.length = 8) (hb : b.f.length = 8) (W : World) => same1_any a b ha hb W)
    have hl1 : ∀ r ∈ A.map cdRow, r.length = 27 := by
      intro r hr
      obtain ⟨c, hc, rfl⟩ := List.mem_map.1 hr
      simp [cdRow, flRow_length, hA c hc]
    have hl2 : ∀ r ∈ B.map cdRow, r.length = 27 := by
      intro r hr
      obtain ⟨c, hc, rfl⟩ := List.mem_map.1 hr
      simp [cdRow, flRow_length, hB c hc]
    generalize hR : decide (A = B) = R
    replace hR := Lib.hid hR
    replace hl1 := Lib.hid hl1
    replace hl2 := Lib.hid hl2
    replace hs := Lib.hid hs
    replace ht := Lib.hid ht
    replace hA := Lib.hid hA
    replace hB := Lib.hid hB
    replace hn := Lib.hid hn
    replace hm := Lib.hid hm
    go_enter Tryd.func53, Tryd.ntmps53
    go_wp2_with fail
    go_loopg [17] n (fun gk vx wr => ∃ k : Nat, k + gk = n ∧ vx = .int .i64 k ∧ Hid (A.take k = B.take k) ∧ St w [] [] wr)
    case atStart => exact ⟨0, Nat.zero_add _, rfl, Lib.hid rfl, hS⟩
    case round =>
      clear hS
      obtain ⟨k, hkn, rfl, hr, hS⟩ := hrel
      by_cases hlt : k < n
      · have hkA : k < A.length := by rw [hn.out]; exact hlt
        have hkB : k < B.length := by rw [hm.out]; exact hlt
        have q1 := flat_elem 27 _ hl1.out k (by simpa using hkA)
        have q2 := flat_elem 27 _ hl2.out k (by simpa using hkB)
        rw [List.getElem_map] at q1 q2
        have fa := hA.out _ (List.getElem_mem hkA)
        have fb := hB.out _ (List.getElem_mem hkB)
        have ra : (cdRow A[k]).length = 27 := hl1.out _ (List.mem_map.2 ⟨_, List.getElem_mem hkA, rfl⟩)
        have rb : (cdRow B[k]).length = 27 := hl2.out _ (List.mem_map.2 ⟨_, List.getElem_mem hkB, rfl⟩)
        have oa : (cdRow A[k]).all Value.oneCell' = true := cdRow_one _
        have ob : (cdRow B[k]).all Value.oneCell' = true := cdRow_one _
        have cX := c1.out A[k] B[k] fa fb
        have hnx : A[k] = B[k] → A.take (k + 1) = B.take (k + 1) := by
          intro e
          rw [List.take_succ_eq_append_getElem hkA, List.take_succ_eq_append_getElem hkB, hr.out, e]
        have hno : A[k] ≠ B[k] → decide (A = B) = false := by
          intro e
          refine decide_eq_false fun e2 => e ?_
          subst e2
          rfl
        have hca : sizeB Tryd.prog 27 (cdRow A[k]).toArray.size = true := by rw [List.size_toArray, ra]; kernel_rfl
        have hcb : sizeB Tryd.prog 27 (cdRow B[k]).toArray.size = true := by rw [List.size_toArray, rb]; kernel_rfl
        by_cases he : A[k] = B[k]
        · replace hnx := Lib.hid (hnx he)
          rw [decide_eq_true he] at cX
          clear hno he
          replace cX := Lib.hid cX
          replace q1 := Lib.hid q1
          replace q2 := Lib.hid q2
          generalize cdRow A[k] = RA at *
          generalize cdRow B[k] = RB at *
          go_wp2_with (first
            | (go_at_call 54; (with_reducible refine (cX.out _).mono ?_); rintro _ w9 ⟨rfl, hk9⟩; have hS1 := hS.keepB hk9; clear hk9 hS; have hS := hS1; clear hS1)
            | ((with_reducible refine wpList_rangerow (n := 27) (sl_range0 (hS.sl hs.out) q1.out) rfl rfl rfl (by kernel_rfl) (by kernel_rfl) ra ?_))
            | ((with_reducible refine wpList_rangerow (n := 27) (sl_range0 (hS.sl ht.out) q2.out) rfl rfl rfl (by kernel_rfl) (by kernel_rfl) rb ?_))
            | ((with_reducible refine wpList_storerow_st (n := 27) (vs := RA) 0 hS rfl rfl rfl rfl (by kernel_rfl) rfl ra oa (by kernel_rfl) ?_); intro w1 hS1; clear hS; have hS := hS1; clear hS1; simp only [List.take_zero, List.nil_append, List.drop_succ_cons, List.drop_zero, List.drop_nil, List.append_nil] at hS)
            | ((with_reducible refine wpList_storerow_st (n := 27) (vs := RB) 0 hS rfl rfl rfl rfl (by kernel_rfl) rfl rb ob (by kernel_rfl) ?_); intro w1 hS1; clear hS; have hS := hS1; clear hS1; simp only [List.take_zero, List.nil_append, List.drop_succ_cons, List.drop_zero, List.drop_nil, List.append_nil] at hS)
            | ((with_reducible refine wpList_loadall_st 0 hS rfl rfl rfl rfl ?_ hcb ?_); focus (simp [rowB, go_sem]; done))
            | ((with_reducible refine wpList_loadall_st 1 hS rfl rfl rfl rfl ?_ hca ?_); focus (simp [rowB, go_sem]; done))
            | (with_reducible refine wpList_box_st hS rfl rfl rfl ?_; intro g1 w1 hS1; clear hS; replace hS := hS1; clear hS1) | (with_reducible refine wpList_box1_st hS rfl rfl rfl ?_; intro g1 w1 hS1; clear hS; replace hS := hS1; clear hS1) | (with_reducible refine wpList_alloc_st hS rfl rfl (by assumption) ?_; intro g1 w1 hS1; clear hS; replace hS := hS1; clear hS1) | (with_reducible refine wpList_alloc1_st hS rfl rfl (by assumption) rfl ?_; intro g1 w1 hS1; clear hS; replace hS := hS1; clear hS1) | ((with_reducible refine wpList_load_st 0 hS rfl rfl rfl rfl ?_ rfl ?_); focus (simp [scalarB, go_sem]; done)) | ((with_reducible refine wpList_loadall_st 0 hS rfl rfl rfl rfl ?_ (by kernel_rfl) ?_); focus (simp [rowB, go_sem]; done)) | ((with_reducible refine wpList_store_st 0 hS rfl rfl rfl rfl (by kernel_rfl) rfl rfl ?_); intro w1 hS1; clear hS; replace hS := hS1; clear hS1; try simp only [List.set_cons_zero, List.set_cons_succ, List.setIfInBounds_toArray, List.take_succ_cons, List.take_zero, List.drop_succ_cons, List.drop_zero, List.nil_append, List.cons_append, List.append_nil, List.drop_nil, List.take_nil, List.length_cons, List.length_nil, Nat.zero_add, Nat.add_zero, Nat.reduceAdd] at hS) | ((with_reducible refine wpList_storerow_st 0 hS rfl rfl rfl rfl (by kernel_rfl) rfl rfl rfl rfl ?_); intro w1 hS1; clear hS; replace hS := hS1; clear hS1; try simp only [List.set_cons_zero, List.set_cons_succ, List.setIfInBounds_toArray, List.take_succ_cons, List.take_zero, List.drop_succ_cons, List.drop_zero, List.nil_append, List.cons_append, List.append_nil, List.drop_nil, List.take_nil, List.length_cons, List.length_nil, Nat.zero_add, Nat.add_zero, Nat.reduceAdd] at hS) | ((with_reducible refine wpList_load_st 1 hS rfl rfl rfl rfl ?_ rfl ?_); focus (simp [scalarB, go_sem]; done)) | ((with_reducible refine wpList_loadall_st 1 hS rfl rfl rfl rfl ?_ (by kernel_rfl) ?_); focus (simp [rowB, go_sem]; done)) | ((with_reducible refine wpList_store_st 1 hS rfl rfl rfl rfl (by kernel_rfl) rfl rfl ?_); intro w1 hS1; clear hS; replace hS := hS1; clear hS1; try simp only [List.set_cons_zero, List.set_cons_succ, List.setIfInBounds_toArray, List.take_succ_cons, List.take_zero, List.drop_succ_cons, List.drop_zero, List.nil_append, List.cons_append, List.append_nil, List.drop_nil, List.take_nil, List.length_cons, List.length_nil, Nat.zero_add, Nat.add_zero, Nat.reduceAdd] at hS) | ((with_reducible refine wpList_storerow_st 1 hS rfl rfl rfl rfl (by kernel_rfl) rfl rfl rfl rfl ?_); intro w1 hS1; clear hS; replace hS := hS1; clear hS1; try simp only [List.set_cons_zero, List.set_cons_succ, List.setIfInBounds_toArray, List.take_succ_cons, List.take_zero, List.drop_succ_cons, List.drop_zero, List.nil_append, List.cons_append, List.append_nil, List.drop_nil, List.take_nil, List.length_cons, List.length_nil, Nat.zero_add, Nat.add_zero, Nat.reduceAdd] at hS))
          go_roundg (n - (k + 1))
          case measure => omega
          case rel => exact ⟨k + 1, by omega, by go_num, hnx, hS.drop.drop⟩
        · obtain rfl : R = false := hR.out.symm.trans (hno he)
          rw [decide_eq_false he] at cX
          clear hnx he
          replace cX := Lib.hid cX
          replace q1 := Lib.hid q1
          replace q2 := Lib.hid q2
          generalize cdRow A[k] = RA at *
          generalize cdRow B[k] = RB at *
          go_wp2_with (first
            | (go_at_call 54; (with_reducible refine (cX.out _).mono ?_); rintro _ w9 ⟨rfl, hk9⟩; have hS1 := hS.keepB hk9; clear hk9 hS; have hS := hS1; clear hS1)
            | ((with_reducible refine wpList_rangerow (n := 27) (sl_range0 (hS.sl hs.out) q1.out) rfl rfl rfl (by kernel_rfl) (by kernel_rfl) ra ?_))
            | ((with_reducible refine wpList_rangerow (n := 27) (sl_range0 (hS.sl ht.out) q2.out) rfl rfl rfl (by kernel_rfl) (by kernel_rfl) rb ?_))
            | ((with_reducible refine wpList_storerow_st (n := 27) (vs := RA) 0 hS rfl rfl rfl rfl (by kernel_rfl) rfl ra oa (by kernel_rfl) ?_); intro w1 hS1; clear hS; have hS := hS1; clear hS1; simp only [List.take_zero, List.nil_append, List.drop_succ_cons, List.drop_zero, List.drop_nil, List.append_nil] at hS)
            | ((with_reducible refine wpList_storerow_st (n := 27) (vs := RB) 0 hS rfl rfl rfl rfl (by kernel_rfl) rfl rb ob (by kernel_rfl) ?_); intro w1 hS1; clear hS; have hS := hS1; clear hS1; simp only [List.take_zero, List.nil_append, List.drop_succ_cons, List.drop_zero, List.drop_nil, List.append_nil] at hS)
            | ((with_reducible refine wpList_loadall_st 0 hS rfl rfl rfl rfl ?_ hcb ?_); focus (simp [rowB, go_sem]; done))
            | ((with_reducible refine wpList_loadall_st 1 hS rfl rfl rfl rfl ?_ hca ?_); focus (simp [rowB, go_sem]; done))
            | (with_reducible refine wpList_box_st hS rfl rfl rfl ?_; intro g1 w1 hS1; clear hS; replace hS := hS1; clear hS1) | (with_reducible refine wpList_box1_st hS rfl rfl rfl ?_; intro g1 w1 hS1; clear hS; replace hS := hS1; clear hS1) | (with_reducible refine wpList_alloc_st hS rfl rfl (by assumption) ?_; intro g1 w1 hS1; clear hS; replace hS := hS1; clear hS1) | (with_reducible refine wpList_alloc1_st hS rfl rfl (by assumption) rfl ?_; intro g1 w1 hS1; clear hS; replace hS := hS1; clear hS1) | ((with_reducible refine wpList_load_st 0 hS rfl rfl rfl rfl ?_ rfl ?_); focus (simp [scalarB, go_sem]; done)) | ((with_reducible refine wpList_loadall_st 0 hS rfl rfl rfl rfl ?_ (by kernel_rfl) ?_); focus (simp [rowB, go_sem]; done)) | ((with_reducible refine wpList_store_st 0 hS rfl rfl rfl rfl (by kernel_rfl) rfl rfl ?_); intro w1 hS1; clear hS; replace hS := hS1; clear hS1; try simp only [List.set_cons_zero, List.set_cons_succ, List.setIfInBounds_toArray, List.take_succ_cons, List.take_zero, List.drop_succ_cons, List.drop_zero, List.nil_append, List.cons_append, List.append_nil, List.drop_nil, List.take_nil, List.length_cons, List.length_nil, Nat.zero_add, Nat.add_zero, Nat.reduceAdd] at hS) | ((with_reducible refine wpList_storerow_st 0 hS rfl rfl rfl rfl (by kernel_rfl) rfl rfl rfl rfl ?_); intro w1 hS1; clear hS; replace hS := hS1; clear hS1; try simp only [List.set_cons_zero, List.set_cons_succ, List.setIfInBounds_toArray, List.take_succ_cons, List.take_zero, List.drop_succ_cons, List.drop_zero, List.nil_append, List.cons_append, List.append_nil, List.drop_nil, List.take_nil, List.length_cons, List.length_nil, Nat.zero_add, Nat.add_zero, Nat.reduceAdd] at hS) | ((with_reducible refine wpList_load_st 1 hS rfl rfl rfl rfl ?_ rfl ?_); focus (simp [scalarB, go_sem]; done)) | ((with_reducible refine wpList_loadall_st 1 hS rfl rfl rfl rfl ?_ (by kernel_rfl) ?_); focus (simp [rowB, go_sem]; done)) | ((with_reducible refine wpList_store_st 1 hS rfl rfl rfl rfl (by kernel_rfl) rfl rfl ?_); intro w1 hS1; clear hS; replace hS := hS1; clear hS1; try simp only [List.set_cons_zero, List.set_cons_succ, List.setIfInBounds_toArray, List.take_succ_cons, List.take_zero, List.drop_succ_cons, List.drop_zero, List.nil_append, List.cons_append, List.append_nil, List.drop_nil, List.take_nil, List.length_cons, List.length_nil, Nat.zero_add, Nat.add_zero, Nat.reduceAdd] at hS) | ((with_reducible refine wpList_storerow_st 1 hS rfl rfl rfl rfl (by kernel_rfl) rfl rfl rfl rfl ?_); intro w1 hS1; clear hS; replace hS := hS1; clear hS1; try simp only [List.set_cons_zero, List.set_cons_succ, List.setIfInBounds_toArray, List.take_succ_cons, List.take_zero, List.drop_succ_cons, List.drop_zero, List.nil_append, List.cons_append, List.append_nil, List.drop_nil, List.take_nil, List.length_cons, List.length_nil, Nat.zero_add, Nat.add_zero, Nat.reduceAdd] at hS))
          go_ret
          exact ⟨rfl, hS.below⟩
      · obtain rfl : k = n := by omega
        have hr2 := hr.out
        rw [List.take_of_length_le (by rw [hn.out]; exact Nat.le_refl _), List.take_of_length_le (by rw [hm.out]; exact Nat.le_refl _)] at hr2
        obtain rfl : R = true := hR.out.symm.trans (decide_eq_true hr2)
        go_wp2_with fail
        go_ret
        exact ⟨rfl, hS.below⟩
  · have d1 : decide (A = B) = false := decide_eq_false fun e => hnm (by rw [← hn, ← hm, e])
    rw [d1]
    go_enter Tryd.func53, Tryd.ntmps53
    go_wp2_with fail
    go_ret
    exact ⟨rfl, hS.below⟩
theorem sm_any (g h : Nat) (A B : List Cd) (n m ca cb : Nat) (hA : ∀ c ∈ A, c.f.length = 8) (hB : ∀ c ∈ B, c.f.length = 8) (hn : A.length = n) (hm : B.length = m) (hn1 : n ≤ 1000) (hm1 : m ≤ 1000) (w : World)
    (hs : Sl w (some ⟨g, 0, none⟩) (A.map cdRow).flatten) (ht : Sl w (some ⟨h, 0, none⟩) (B.map cdRow).flatten) (r : Bool) (hr : decide (A = B) = r) :
    Calls Tryd.prog 29 #[.slice (some ⟨g, 0, none⟩) n ca, .slice (some ⟨h, 0, none⟩) m cb] w fun e w' => e = .returned (.bool r) ∧ Below w.heap.size w w' := by
  have hS := St.start w
  have cE := eqf_any g h A B n m ca cb hA hB hn hm hn1 hm1 w hs ht
  rw [hr] at cE
  replace cE := Lib.hid cE
  clear hr hs ht hA hB hn hm
  go_enter Tryd.func29, Tryd.ntmps29
  go_wp2_with (go_at_call 53; (with_reducible refine cE.out.mono ?_); rintro _ w9 ⟨rfl, hk9⟩; have hS1 := hS.keepB hk9; clear hk9 hS; have hS := hS1; clear hS1)
  go_ret
  exact ⟨rfl, hS.below⟩
end Go.Proofs.YtplgpbbghhlbjaaDoor
