/- Texts laid together: CardEq CardCheck. -/
import Derived.Laws.StructEq
import Derived.ChangeKeysEq
import Derived.Test.YtneolmnpebiifaaGreatDoorM13
import Derived.Test.YtneolmnpebiifaaGreatDoorM16
import Derived.Test.YtneolmnpebiifaaGreatDoorM3
import Derived.Test.YtneolmnpebiifaaGreatDoorM5
section
/- Values, fields, cards, patches compared. -/
set_option linter.unusedSimpArgs false
set_option linter.unusedVariables false
namespace Go.Ofp
open Go.RowKit
theorem run_part_row {P : Program} {t : TypeId} {n : Nat} (hu : rowB P t = true) (hsz : sizeB P t n = true) (xs : Array Value) (off : Nat) (w : World) : (part t xs off).run P w = .ok (.agg (xs.extract off (off + n))) w := by
  obtain ⟨d, h1, h2, h3⟩ := rowB_spec hu hsz
  obtain ⟨i, hi, hi2⟩ := Option.map_eq_some_iff.1 h3
  have hagg : (isAgg t).run P w = .ok true w := by
    unfold isAgg
    rw [Sem.run_bind, run_underlying h1 w]
    cases d <;> simp_all [TypeDesc.isRow]
  unfold part
  simp [hagg, sizeOf, typeInfo, hi, hi2]
theorem extract_list (l : List Value) (i n : Nat) : l.toArray.extract i (i + n) = ((l.drop i).take n).toArray := by
  apply Array.ext'
  simp
theorem fields_of {P : Program} {t : TypeId} {fs : Array Field} (h : P.underlying t = some (.struct fs)) : P.fieldsOf t = fs := by simp [Program.fieldsOf, h]
theorem ba_beq (a b : ByteArray) : (a.toList == b.toList) = decide (a = b) := by
  rw [ByteArray.toList_eq, ByteArray.toList_eq]
  by_cases h : a = b
  · subst h; simp
  · rw [decide_eq_false h, beq_eq_false_iff_ne]
    intro e
    apply h
    apply ByteArray.ext
    exact Array.ext' e
end Go.Ofp
namespace Go.Proofs.YtneolmnpebiifaaGreatDoor
open Go.RowKit Go.Ofp
set_option linter.unusedVariables false
set_option maxRecDepth 100000
set_option maxHeartbeats 4000000

theorem eq_vl (d : Nat) (p q : Vl) (w : World) : (Op.equalIn (d + 2) 39 (.agg (vlRow p).toArray) (.agg (vlRow q).toArray)).run Tryz.prog w = .ok (decide (p = q)) w := by
  have hp : Tryz.prog.stoodInHeld 39 = false := by kernel_rfl
  have hf := fields_of Tryz.underlying39
  have hu : Tryz.prog.underlying 39 = some (.struct (Tryz.prog.fieldsOf 39)) := by rw [hf, Tryz.underlying39]
  rw [run_equalIn_struct w (d + 1) _ _ _ hu hp, hf]
  obtain ⟨a, b, c⟩ := p
  obtain ⟨a', b', c'⟩ := q
  have h3 := Tryz.underlying3
  have h9 := Tryz.underlying9
  have hb := ba_beq c c'
  simp only [vlRow]
  go_simp
  by_cases h1 : a = a'
  · by_cases h2 : b = b'
    · by_cases h3 : c = c' <;> simp_all
    · simp_all
  · simp_all
theorem eq_items (d : Nat) (f g : List Vl) (hl : f.length = g.length) (w : World) : ∀ m k, k + m = f.length → (Op.eqItems (d + 2) 39 3 (flRow f).toArray (flRow g).toArray (List.range' k m)).run Tryz.prog w = .ok (decide (f.drop k = g.drop k)) w := by
  intro m
  induction m with
  | zero =>
    intro k hk
    rw [List.drop_of_length_le (by omega), List.drop_of_length_le (by omega)]
    simp [Op.eqItems]
  | succ m ih =>
    intro k hk
    rw [List.range'_succ]
    have p1 := run_part_row (P := Tryz.prog) (t := 39) (n := 3) (by kernel_rfl) (by kernel_rfl) (flRow f).toArray (k * 3) w
    have p2 := run_part_row (P := Tryz.prog) (t := 39) (n := 3) (by kernel_rfl) (by kernel_rfl) (flRow g).toArray (k * 3) w
    have q1 := fl_at [] f k f[k] (List.getElem?_eq_getElem (by omega))
    have q2 := fl_at [] g k (g[k]'(by omega)) (List.getElem?_eq_getElem (by omega))
    simp only [List.nil_append, List.length_nil, Nat.zero_add] at q1 q2
    rw [extract_list, q1] at p1
    rw [extract_list, q2] at p2
    have p3 := eq_vl d f[k] (g[k]'(by omega)) w
    simp only [Op.eqItems, Sem.run_bind, p1, p2, p3, Result.andThen_ok]
    have hi := ih (k + 1) (by omega)
    have hd : (f.drop k = g.drop k) ↔ (f[k] = g[k]'(by omega) ∧ f.drop (k + 1) = g.drop (k + 1)) := by
      rw [List.drop_eq_getElem_cons (show k < f.length by omega), List.drop_eq_getElem_cons (show k < g.length by omega), List.cons.injEq]
    by_cases h : f[k] = g[k]'(by omega)
    · rw [decide_eq_true h]
      simp only [Bool.not_true, Bool.false_eq_true, if_false]
      rw [hi]
      congr 1
      rw [decide_eq_decide, hd]
      exact ⟨fun e => ⟨h, e⟩, fun e => e.2⟩
    · rw [decide_eq_false h, decide_eq_false (fun e => h (hd.1 e).1)]
      rfl
theorem eq_fl (d : Nat) (f g : List Vl) (hf : f.length = 8) (hg : g.length = 8) (w : World) : (Op.equalIn (d + 3) 40 (.agg (flRow f).toArray) (.agg (flRow g).toArray)).run Tryz.prog w = .ok (decide (f = g)) w := by
  obtain ⟨i, hi, -⟩ := elem_value
  have hc : Tryz.prog.cellsOf 39 = 3 := by kernel_rfl
  rw [run_equalIn_array w (d + 2) _ _ Tryz.underlying40 hi, hc, List.range_eq_range']
  exact eq_items d f g (by omega) w 8 0 (by omega)
theorem eq_cd (d : Nat) (p q : Cd) (hf : p.f.length = 8) (hg : q.f.length = 8) (w : World) : (Op.equalIn (d + 4) 58 (.agg (cdRow p).toArray) (.agg (cdRow q).toArray)).run Tryz.prog w = .ok (decide (p = q)) w := by
  have hp : Tryz.prog.stoodInHeld 58 = false := by kernel_rfl
  have hff := fields_of Tryz.underlying58
  have hu : Tryz.prog.underlying 58 = some (.struct (Tryz.prog.fieldsOf 58)) := by rw [hff, Tryz.underlying58]
  rw [run_equalIn_struct w (d + 3) _ _ _ hu hp, hff]
  obtain ⟨a, b, c, f⟩ := p
  obtain ⟨a', b', c', g⟩ := q
  simp only at hf hg
  have e3 := eq_fl d f g hf hg w
  have t1 : (flRow f).take 24 = flRow f := List.take_of_length_le (by rw [flRow_length]; omega)
  have t2 : (flRow g).take 24 = flRow g := List.take_of_length_le (by rw [flRow_length]; omega)
  have h3 := Tryz.underlying3
  have h9 := Tryz.underlying37
  simp only [cdRow]
  go_simp
  simp only [t1, t2, e3, Int.natCast_inj, Result.andThen_ok]
  by_cases k1 : a = a'
  · by_cases k2 : b = b'
    · by_cases k3 : c = c'
      · by_cases k4 : f = g <;> simp [k1, k2, k3, k4]
      · simp [k1, k2, k3]
    · simp [k1, k2]
  · simp [k1]
theorem eq_pt (d : Nat) (p q : Pt) (hf : p.f.length = 8) (hg : q.f.length = 8) (w : World) : (Op.equalIn (d + 4) 42 (.agg (ptRow p).toArray) (.agg (ptRow q).toArray)).run Tryz.prog w = .ok (decide (p = q)) w := by
  have hp : Tryz.prog.stoodInHeld 42 = false := by kernel_rfl
  have hff := fields_of Tryz.underlying42
  have hu : Tryz.prog.underlying 42 = some (.struct (Tryz.prog.fieldsOf 42)) := by rw [hff, Tryz.underlying42]
  rw [run_equalIn_struct w (d + 3) _ _ _ hu hp, hff]
  obtain ⟨b, c, f⟩ := p
  obtain ⟨b', c', g⟩ := q
  simp only at hf hg
  have e3 := eq_fl d f g hf hg w
  have t1 : (flRow f).take 24 = flRow f := List.take_of_length_le (by rw [flRow_length]; omega)
  have t2 : (flRow g).take 24 = flRow g := List.take_of_length_le (by rw [flRow_length]; omega)
  have h9 := Tryz.underlying37
  simp only [ptRow]
  go_simp
  simp only [t1, t2, e3, Int.natCast_inj, Result.andThen_ok]
  by_cases k2 : b = b'
  · by_cases k3 : c = c'
    · by_cases k4 : f = g <;> simp [k2, k3, k4]
    · simp [k2, k3]
  · simp [k2]

/-! ### The walk's facts -/
theorem eql_vl (p q : Vl) (w : World) : (binOp .eql 39 (.agg (vlRow p).toArray) (.agg (vlRow q).toArray)).run Tryz.prog w = .ok (.bool (decide (p = q))) w := by
  rw [run_eql_struct, eq_vl 9998 p q w]
  rfl
theorem neq_vl (p q : Vl) (w : World) : (binOp .neq 39 (.agg (vlRow p).toArray) (.agg (vlRow q).toArray)).run Tryz.prog w = .ok (.bool (!decide (p = q))) w := by
  rw [run_neq_struct, eq_vl 9998 p q w]
  rfl
theorem neq_cd (p q : Cd) (hf : p.f.length = 8) (hg : q.f.length = 8) (w : World) : (binOp .neq 58 (.agg (cdRow p).toArray) (.agg (cdRow q).toArray)).run Tryz.prog w = .ok (.bool (!decide (p = q))) w := by
  rw [run_neq_struct, eq_cd 9996 p q hf hg w]
  rfl
theorem guard_vl (op : BinOp) (x y : Operand) (xs ys : Array Value) (w : World) : (eqGuard op 39 x y (.agg xs) (.agg ys)).run Tryz.prog w = .ok () w :=
  run_eqGuard_agg w op _ x y xs ys (by kernel_rfl)
theorem guard_cd (op : BinOp) (x y : Operand) (xs ys : Array Value) (w : World) : (eqGuard op 58 x y (.agg xs) (.agg ys)).run Tryz.prog w = .ok () w :=
  run_eqGuard_agg w op _ x y xs ys (by kernel_rfl)
theorem guard_pt (op : BinOp) (x y : Operand) (xs ys : Array Value) (w : World) : (eqGuard op 42 x y (.agg xs) (.agg ys)).run Tryz.prog w = .ok () w :=
  run_eqGuard_agg w op _ x y xs ys (by kernel_rfl)
end Go.Proofs.YtneolmnpebiifaaGreatDoor
end

section
/- Values and patches that may be. -/
set_option linter.unusedSimpArgs false
set_option linter.unusedVariables false
namespace Go.Ofp
/-- Which values may be. -/
def Vl.ok (v : Vl) : Bool :=
  if v.kind = 0 then decide (v.n = 0 ∧ v.s.size = 0)
  else if v.kind = 1 then decide (0 ≤ v.n ∧ v.n ≤ 1099511627776 ∧ v.s.size = 0)
  else if v.kind = 2 then decide (v.n = 0 ∧ v.s.size ≤ 24)
  else false
theorem ba_empty {s : ByteArray} (h : s.size = 0) : s = ⟨#[]⟩ := by
  apply ByteArray.ext
  exact Array.eq_empty_of_size_eq_zero h
end Go.Ofp
namespace Go.Proofs.YtneolmnpebiifaaGreatDoor
open Go.RowKit Go.Ofp
set_option linter.unusedVariables false
set_option maxRecDepth 100000
set_option maxHeartbeats 4000000

theorem vcheck_any (v : Vl) (w : World) : Calls Tryz.prog 113 #[.agg (vlRow v).toArray] w fun e w' => e = .returned (.bool v.ok) ∧ Below w.heap.size w w' := by
  have hE := fun W : World => eql_vl v Vl.zero W
  have hG := guard_vl
  have hS := St.start w
  obtain ⟨k, n, s⟩ := v
  have hb : (s.toList == []) = decide (s.size = 0) := by
    rw [show ([] : List UInt8) = (⟨#[]⟩ : ByteArray).toList by rw [ByteArray.toList_eq], ba_beq]
    by_cases h : s.size = 0
    · rw [decide_eq_true h, decide_eq_true (ba_empty h)]
    · rw [decide_eq_false h, decide_eq_false (fun e => h (by rw [e]; rfl))]
  by_cases h0 : k = 0
  · subst h0
    have he : decide ((⟨0, n, s⟩ : Vl) = Vl.zero) = Vl.ok ⟨0, n, s⟩ := by
      unfold Vl.ok Vl.zero
      rw [if_pos rfl, decide_eq_decide]
      constructor
      · intro e
        cases e
        exact ⟨rfl, rfl⟩
      · rintro ⟨h1, h2⟩
        simp only at h1 h2
        rw [h1, ba_empty h2]
    rw [he] at hE
    generalize Vl.ok ⟨0, n, s⟩ = r at hE ⊢
    simp only [vlRow, Vl.zero] at hE ⊢
    clear hb he
    go_enter Tryz.func113, Tryz.ntmps113
    go_wp2_with (first | (with_reducible refine wpList_box_st hS rfl rfl rfl ?_; clear hS; intro g1 w1 hS) | (with_reducible refine wpList_box1_st hS rfl rfl rfl ?_; clear hS; intro g1 w1 hS) | (with_reducible refine al hS rfl rfl ?_; clear hS; intro g1 w1 hS) | (with_reducible refine wpList_alloc1_st hS rfl rfl (by assumption) rfl ?_; clear hS; intro g1 w1 hS) | (with_reducible refine ld 0 hS rfl rfl rfl rfl rfl ?_) | (with_reducible refine lda 0 hS rfl rfl rfl rfl ?_) | (with_reducible refine sto 0 hS rfl rfl rfl rfl rfl rfl ?_; clear hS; intro w1 hS) | (with_reducible refine stor 0 hS rfl rfl rfl rfl rfl rfl rfl rfl ?_; clear hS; intro w1 hS))
    go_ret
    exact ⟨rfl, hS.below⟩
  by_cases h1 : k = 1
  · subst h1
    have hr : Vl.ok ⟨1, n, s⟩ = decide (0 ≤ n ∧ n ≤ 1099511627776 ∧ s.size = 0) := by simp [Vl.ok]
    rw [hr]
    clear hE hG h0 hr
    simp only [vlRow]
    by_cases c1 : 0 ≤ n
    · by_cases c2 : n ≤ 1099511627776
      · by_cases c3 : s.size = 0
        · rw [decide_eq_true ⟨c1, c2, c3⟩]
          rw [decide_eq_true c3] at hb
          go_enter Tryz.func113, Tryz.ntmps113
          go_wp2_with (first | (with_reducible refine wpList_box_st hS rfl rfl rfl ?_; clear hS; intro g1 w1 hS) | (with_reducible refine wpList_box1_st hS rfl rfl rfl ?_; clear hS; intro g1 w1 hS) | (with_reducible refine al hS rfl rfl ?_; clear hS; intro g1 w1 hS) | (with_reducible refine wpList_alloc1_st hS rfl rfl (by assumption) rfl ?_; clear hS; intro g1 w1 hS) | (with_reducible refine ld 0 hS rfl rfl rfl rfl rfl ?_) | (with_reducible refine lda 0 hS rfl rfl rfl rfl ?_) | (with_reducible refine sto 0 hS rfl rfl rfl rfl rfl rfl ?_; clear hS; intro w1 hS) | (with_reducible refine stor 0 hS rfl rfl rfl rfl rfl rfl rfl rfl ?_; clear hS; intro w1 hS) | ((with_reducible refine wpList_gload_st 0 hS rfl (by with_unfolding_all rfl) rfl rfl ?_ rfl ?_); focus (simp [scalarB, go_sem]; done)))
          go_ret
          exact ⟨rfl, hS.below⟩
        · rw [decide_eq_false (fun h => c3 h.2.2)]
          rw [decide_eq_false c3] at hb
          go_enter Tryz.func113, Tryz.ntmps113
          go_wp2_with (first | (with_reducible refine wpList_box_st hS rfl rfl rfl ?_; clear hS; intro g1 w1 hS) | (with_reducible refine wpList_box1_st hS rfl rfl rfl ?_; clear hS; intro g1 w1 hS) | (with_reducible refine al hS rfl rfl ?_; clear hS; intro g1 w1 hS) | (with_reducible refine wpList_alloc1_st hS rfl rfl (by assumption) rfl ?_; clear hS; intro g1 w1 hS) | (with_reducible refine ld 0 hS rfl rfl rfl rfl rfl ?_) | (with_reducible refine lda 0 hS rfl rfl rfl rfl ?_) | (with_reducible refine sto 0 hS rfl rfl rfl rfl rfl rfl ?_; clear hS; intro w1 hS) | (with_reducible refine stor 0 hS rfl rfl rfl rfl rfl rfl rfl rfl ?_; clear hS; intro w1 hS) | ((with_reducible refine wpList_gload_st 0 hS rfl (by with_unfolding_all rfl) rfl rfl ?_ rfl ?_); focus (simp [scalarB, go_sem]; done)))
          go_ret
          exact ⟨rfl, hS.below⟩
      · rw [decide_eq_false (fun h => c2 h.2.1)]
        have d2 : decide (n ≤ 1099511627776) = false := decide_eq_false c2
        go_enter Tryz.func113, Tryz.ntmps113
        go_wp2_with (first | (with_reducible refine wpList_box_st hS rfl rfl rfl ?_; clear hS; intro g1 w1 hS) | (with_reducible refine wpList_box1_st hS rfl rfl rfl ?_; clear hS; intro g1 w1 hS) | (with_reducible refine al hS rfl rfl ?_; clear hS; intro g1 w1 hS) | (with_reducible refine wpList_alloc1_st hS rfl rfl (by assumption) rfl ?_; clear hS; intro g1 w1 hS) | (with_reducible refine ld 0 hS rfl rfl rfl rfl rfl ?_) | (with_reducible refine lda 0 hS rfl rfl rfl rfl ?_) | (with_reducible refine sto 0 hS rfl rfl rfl rfl rfl rfl ?_; clear hS; intro w1 hS) | (with_reducible refine stor 0 hS rfl rfl rfl rfl rfl rfl rfl rfl ?_; clear hS; intro w1 hS) | ((with_reducible refine wpList_gload_st 0 hS rfl (by with_unfolding_all rfl) rfl rfl ?_ rfl ?_); focus (simp [scalarB, go_sem]; done)))
        go_ret
        exact ⟨rfl, hS.below⟩
    · rw [decide_eq_false (fun h => c1 h.1)]
      have d1 : decide (0 ≤ n) = false := decide_eq_false c1
      go_enter Tryz.func113, Tryz.ntmps113
      go_wp2_with (first | (with_reducible refine wpList_box_st hS rfl rfl rfl ?_; clear hS; intro g1 w1 hS) | (with_reducible refine wpList_box1_st hS rfl rfl rfl ?_; clear hS; intro g1 w1 hS) | (with_reducible refine al hS rfl rfl ?_; clear hS; intro g1 w1 hS) | (with_reducible refine wpList_alloc1_st hS rfl rfl (by assumption) rfl ?_; clear hS; intro g1 w1 hS) | (with_reducible refine ld 0 hS rfl rfl rfl rfl rfl ?_) | (with_reducible refine lda 0 hS rfl rfl rfl rfl ?_) | (with_reducible refine sto 0 hS rfl rfl rfl rfl rfl rfl ?_; clear hS; intro w1 hS) | (with_reducible refine stor 0 hS rfl rfl rfl rfl rfl rfl rfl rfl ?_; clear hS; intro w1 hS) | ((with_reducible refine wpList_gload_st 0 hS rfl (by with_unfolding_all rfl) rfl rfl ?_ rfl ?_); focus (simp [scalarB, go_sem]; done)))
      go_ret
      exact ⟨rfl, hS.below⟩
  by_cases h2 : k = 2
  · subst h2
    have hr : Vl.ok ⟨2, n, s⟩ = decide (n = 0 ∧ s.size ≤ 24) := by simp [Vl.ok]
    rw [hr]
    clear hE hG h0 h1 hr hb
    simp only [vlRow]
    by_cases c1 : n = 0
    · subst c1
      by_cases c2 : s.size ≤ 24
      · rw [decide_eq_true ⟨rfl, c2⟩]
        have d2 : decide ((s.size : Int) ≤ 24) = true := decide_eq_true (by omega)
        go_enter Tryz.func113, Tryz.ntmps113
        go_wp2_with (first | (with_reducible refine wpList_box_st hS rfl rfl rfl ?_; clear hS; intro g1 w1 hS) | (with_reducible refine wpList_box1_st hS rfl rfl rfl ?_; clear hS; intro g1 w1 hS) | (with_reducible refine al hS rfl rfl ?_; clear hS; intro g1 w1 hS) | (with_reducible refine wpList_alloc1_st hS rfl rfl (by assumption) rfl ?_; clear hS; intro g1 w1 hS) | (with_reducible refine ld 0 hS rfl rfl rfl rfl rfl ?_) | (with_reducible refine lda 0 hS rfl rfl rfl rfl ?_) | (with_reducible refine sto 0 hS rfl rfl rfl rfl rfl rfl ?_; clear hS; intro w1 hS) | (with_reducible refine stor 0 hS rfl rfl rfl rfl rfl rfl rfl rfl ?_; clear hS; intro w1 hS) | ((with_reducible refine wpList_gload_st 0 hS rfl (by with_unfolding_all rfl) rfl rfl ?_ rfl ?_); focus (simp [scalarB, go_sem]; done)))
        go_ret
        exact ⟨rfl, hS.below⟩
      · rw [decide_eq_false (fun h => c2 h.2)]
        have d2 : decide ((s.size : Int) ≤ 24) = false := decide_eq_false (by omega)
        go_enter Tryz.func113, Tryz.ntmps113
        go_wp2_with (first | (with_reducible refine wpList_box_st hS rfl rfl rfl ?_; clear hS; intro g1 w1 hS) | (with_reducible refine wpList_box1_st hS rfl rfl rfl ?_; clear hS; intro g1 w1 hS) | (with_reducible refine al hS rfl rfl ?_; clear hS; intro g1 w1 hS) | (with_reducible refine wpList_alloc1_st hS rfl rfl (by assumption) rfl ?_; clear hS; intro g1 w1 hS) | (with_reducible refine ld 0 hS rfl rfl rfl rfl rfl ?_) | (with_reducible refine lda 0 hS rfl rfl rfl rfl ?_) | (with_reducible refine sto 0 hS rfl rfl rfl rfl rfl rfl ?_; clear hS; intro w1 hS) | (with_reducible refine stor 0 hS rfl rfl rfl rfl rfl rfl rfl rfl ?_; clear hS; intro w1 hS) | ((with_reducible refine wpList_gload_st 0 hS rfl (by with_unfolding_all rfl) rfl rfl ?_ rfl ?_); focus (simp [scalarB, go_sem]; done)))
        go_ret
        exact ⟨rfl, hS.below⟩
    · rw [decide_eq_false (fun h => c1 h.1)]
      have d1 : (n == 0) = false := by rw [beq_eq_false_iff_ne]; exact c1
      go_enter Tryz.func113, Tryz.ntmps113
      go_wp2_with (first | (with_reducible refine wpList_box_st hS rfl rfl rfl ?_; clear hS; intro g1 w1 hS) | (with_reducible refine wpList_box1_st hS rfl rfl rfl ?_; clear hS; intro g1 w1 hS) | (with_reducible refine al hS rfl rfl ?_; clear hS; intro g1 w1 hS) | (with_reducible refine wpList_alloc1_st hS rfl rfl (by assumption) rfl ?_; clear hS; intro g1 w1 hS) | (with_reducible refine ld 0 hS rfl rfl rfl rfl rfl ?_) | (with_reducible refine lda 0 hS rfl rfl rfl rfl ?_) | (with_reducible refine sto 0 hS rfl rfl rfl rfl rfl rfl ?_; clear hS; intro w1 hS) | (with_reducible refine stor 0 hS rfl rfl rfl rfl rfl rfl rfl rfl ?_; clear hS; intro w1 hS) | ((with_reducible refine wpList_gload_st 0 hS rfl (by with_unfolding_all rfl) rfl rfl ?_ rfl ?_); focus (simp [scalarB, go_sem]; done)))
      go_ret
      exact ⟨rfl, hS.below⟩
  · have hr : Vl.ok ⟨k, n, s⟩ = false := by simp [Vl.ok, h0, h1, h2]
    rw [hr]
    have e0 : (k == 0) = false := by rw [beq_eq_false_iff_ne]; exact h0
    have e1 : (k == 1) = false := by rw [beq_eq_false_iff_ne]; exact h1
    have e2 : (k == 2) = false := by rw [beq_eq_false_iff_ne]; exact h2
    clear hE hG h0 h1 hr hb h2
    simp only [vlRow]
    go_enter Tryz.func113, Tryz.ntmps113
    go_wp2_with (first | (with_reducible refine wpList_box_st hS rfl rfl rfl ?_; clear hS; intro g1 w1 hS) | (with_reducible refine wpList_box1_st hS rfl rfl rfl ?_; clear hS; intro g1 w1 hS) | (with_reducible refine al hS rfl rfl ?_; clear hS; intro g1 w1 hS) | (with_reducible refine wpList_alloc1_st hS rfl rfl (by assumption) rfl ?_; clear hS; intro g1 w1 hS) | (with_reducible refine ld 0 hS rfl rfl rfl rfl rfl ?_) | (with_reducible refine lda 0 hS rfl rfl rfl rfl ?_) | (with_reducible refine sto 0 hS rfl rfl rfl rfl rfl rfl ?_; clear hS; intro w1 hS) | (with_reducible refine stor 0 hS rfl rfl rfl rfl rfl rfl rfl rfl ?_; clear hS; intro w1 hS) | ((with_reducible refine wpList_gload_st 0 hS rfl (by with_unfolding_all rfl) rfl rfl ?_ rfl ?_); focus (simp [scalarB, go_sem]; done)))
    go_ret
    exact ⟨rfl, hS.below⟩
theorem rvcheck_any (v : Vl) (w : World) : Calls Tryz.prog 144 #[.agg (vlRow v).toArray] w fun e w' => e = .returned (.bool v.ok) ∧ Below w.heap.size w w' := by
  have hS := St.start w
  obtain ⟨k, n, s⟩ := v
  have hb : (s.toList == []) = decide (s.size = 0) := by
    rw [show ([] : List UInt8) = (⟨#[]⟩ : ByteArray).toList by rw [ByteArray.toList_eq], ba_beq]
    by_cases h : s.size = 0
    · rw [decide_eq_true h, decide_eq_true (ba_empty h)]
    · rw [decide_eq_false h, decide_eq_false (fun e => h (by rw [e]; rfl))]
  by_cases h0 : k = 0
  · subst h0
    have hr : Vl.ok ⟨0, n, s⟩ = decide (n = 0 ∧ s.size = 0) := by simp [Vl.ok]
    rw [hr]
    clear hr
    simp only [vlRow]
    by_cases c1 : n = 0
    · subst c1
      by_cases c2 : s.size = 0
      · rw [decide_eq_true ⟨rfl, c2⟩]
        rw [decide_eq_true c2] at hb
        go_enter Tryz.func144, Tryz.ntmps144
        go_wp2_with (first | (with_reducible refine wpList_box_st hS rfl rfl rfl ?_; clear hS; intro g1 w1 hS) | (with_reducible refine wpList_box1_st hS rfl rfl rfl ?_; clear hS; intro g1 w1 hS) | (with_reducible refine al hS rfl rfl ?_; clear hS; intro g1 w1 hS) | (with_reducible refine wpList_alloc1_st hS rfl rfl (by assumption) rfl ?_; clear hS; intro g1 w1 hS) | (with_reducible refine ld 0 hS rfl rfl rfl rfl rfl ?_) | (with_reducible refine lda 0 hS rfl rfl rfl rfl ?_) | (with_reducible refine sto 0 hS rfl rfl rfl rfl rfl rfl ?_; clear hS; intro w1 hS) | (with_reducible refine stor 0 hS rfl rfl rfl rfl rfl rfl rfl rfl ?_; clear hS; intro w1 hS) | ((with_reducible refine wpList_gload_st 0 hS rfl (by with_unfolding_all rfl) rfl rfl ?_ rfl ?_); focus (simp [scalarB, go_sem]; done)))
        go_ret
        exact ⟨rfl, hS.below⟩
      · rw [decide_eq_false (fun h => c2 h.2)]
        rw [decide_eq_false c2] at hb
        go_enter Tryz.func144, Tryz.ntmps144
        go_wp2_with (first | (with_reducible refine wpList_box_st hS rfl rfl rfl ?_; clear hS; intro g1 w1 hS) | (with_reducible refine wpList_box1_st hS rfl rfl rfl ?_; clear hS; intro g1 w1 hS) | (with_reducible refine al hS rfl rfl ?_; clear hS; intro g1 w1 hS) | (with_reducible refine wpList_alloc1_st hS rfl rfl (by assumption) rfl ?_; clear hS; intro g1 w1 hS) | (with_reducible refine ld 0 hS rfl rfl rfl rfl rfl ?_) | (with_reducible refine lda 0 hS rfl rfl rfl rfl ?_) | (with_reducible refine sto 0 hS rfl rfl rfl rfl rfl rfl ?_; clear hS; intro w1 hS) | (with_reducible refine stor 0 hS rfl rfl rfl rfl rfl rfl rfl rfl ?_; clear hS; intro w1 hS) | ((with_reducible refine wpList_gload_st 0 hS rfl (by with_unfolding_all rfl) rfl rfl ?_ rfl ?_); focus (simp [scalarB, go_sem]; done)))
        go_ret
        exact ⟨rfl, hS.below⟩
    · rw [decide_eq_false (fun h => c1 h.1)]
      have d1 : (n == 0) = false := by rw [beq_eq_false_iff_ne]; exact c1
      go_enter Tryz.func144, Tryz.ntmps144
      go_wp2_with (first | (with_reducible refine wpList_box_st hS rfl rfl rfl ?_; clear hS; intro g1 w1 hS) | (with_reducible refine wpList_box1_st hS rfl rfl rfl ?_; clear hS; intro g1 w1 hS) | (with_reducible refine al hS rfl rfl ?_; clear hS; intro g1 w1 hS) | (with_reducible refine wpList_alloc1_st hS rfl rfl (by assumption) rfl ?_; clear hS; intro g1 w1 hS) | (with_reducible refine ld 0 hS rfl rfl rfl rfl rfl ?_) | (with_reducible refine lda 0 hS rfl rfl rfl rfl ?_) | (with_reducible refine sto 0 hS rfl rfl rfl rfl rfl rfl ?_; clear hS; intro w1 hS) | (with_reducible refine stor 0 hS rfl rfl rfl rfl rfl rfl rfl rfl ?_; clear hS; intro w1 hS) | ((with_reducible refine wpList_gload_st 0 hS rfl (by with_unfolding_all rfl) rfl rfl ?_ rfl ?_); focus (simp [scalarB, go_sem]; done)))
      go_ret
      exact ⟨rfl, hS.below⟩
  by_cases h1 : k = 1
  · subst h1
    have hr : Vl.ok ⟨1, n, s⟩ = decide (0 ≤ n ∧ n ≤ 1099511627776 ∧ s.size = 0) := by simp [Vl.ok]
    rw [hr]
    clear h0 hr
    simp only [vlRow]
    by_cases c1 : 0 ≤ n
    · by_cases c2 : n ≤ 1099511627776
      · by_cases c3 : s.size = 0
        · rw [decide_eq_true ⟨c1, c2, c3⟩]
          rw [decide_eq_true c3] at hb
          go_enter Tryz.func144, Tryz.ntmps144
          go_wp2_with (first | (with_reducible refine wpList_box_st hS rfl rfl rfl ?_; clear hS; intro g1 w1 hS) | (with_reducible refine wpList_box1_st hS rfl rfl rfl ?_; clear hS; intro g1 w1 hS) | (with_reducible refine al hS rfl rfl ?_; clear hS; intro g1 w1 hS) | (with_reducible refine wpList_alloc1_st hS rfl rfl (by assumption) rfl ?_; clear hS; intro g1 w1 hS) | (with_reducible refine ld 0 hS rfl rfl rfl rfl rfl ?_) | (with_reducible refine lda 0 hS rfl rfl rfl rfl ?_) | (with_reducible refine sto 0 hS rfl rfl rfl rfl rfl rfl ?_; clear hS; intro w1 hS) | (with_reducible refine stor 0 hS rfl rfl rfl rfl rfl rfl rfl rfl ?_; clear hS; intro w1 hS) | ((with_reducible refine wpList_gload_st 0 hS rfl (by with_unfolding_all rfl) rfl rfl ?_ rfl ?_); focus (simp [scalarB, go_sem]; done)))
          go_ret
          exact ⟨rfl, hS.below⟩
        · rw [decide_eq_false (fun h => c3 h.2.2)]
          rw [decide_eq_false c3] at hb
          go_enter Tryz.func144, Tryz.ntmps144
          go_wp2_with (first | (with_reducible refine wpList_box_st hS rfl rfl rfl ?_; clear hS; intro g1 w1 hS) | (with_reducible refine wpList_box1_st hS rfl rfl rfl ?_; clear hS; intro g1 w1 hS) | (with_reducible refine al hS rfl rfl ?_; clear hS; intro g1 w1 hS) | (with_reducible refine wpList_alloc1_st hS rfl rfl (by assumption) rfl ?_; clear hS; intro g1 w1 hS) | (with_reducible refine ld 0 hS rfl rfl rfl rfl rfl ?_) | (with_reducible refine lda 0 hS rfl rfl rfl rfl ?_) | (with_reducible refine sto 0 hS rfl rfl rfl rfl rfl rfl ?_; clear hS; intro w1 hS) | (with_reducible refine stor 0 hS rfl rfl rfl rfl rfl rfl rfl rfl ?_; clear hS; intro w1 hS) | ((with_reducible refine wpList_gload_st 0 hS rfl (by with_unfolding_all rfl) rfl rfl ?_ rfl ?_); focus (simp [scalarB, go_sem]; done)))
          go_ret
          exact ⟨rfl, hS.below⟩
      · rw [decide_eq_false (fun h => c2 h.2.1)]
        have d2 : decide (n ≤ 1099511627776) = false := decide_eq_false c2
        go_enter Tryz.func144, Tryz.ntmps144
        go_wp2_with (first | (with_reducible refine wpList_box_st hS rfl rfl rfl ?_; clear hS; intro g1 w1 hS) | (with_reducible refine wpList_box1_st hS rfl rfl rfl ?_; clear hS; intro g1 w1 hS) | (with_reducible refine al hS rfl rfl ?_; clear hS; intro g1 w1 hS) | (with_reducible refine wpList_alloc1_st hS rfl rfl (by assumption) rfl ?_; clear hS; intro g1 w1 hS) | (with_reducible refine ld 0 hS rfl rfl rfl rfl rfl ?_) | (with_reducible refine lda 0 hS rfl rfl rfl rfl ?_) | (with_reducible refine sto 0 hS rfl rfl rfl rfl rfl rfl ?_; clear hS; intro w1 hS) | (with_reducible refine stor 0 hS rfl rfl rfl rfl rfl rfl rfl rfl ?_; clear hS; intro w1 hS) | ((with_reducible refine wpList_gload_st 0 hS rfl (by with_unfolding_all rfl) rfl rfl ?_ rfl ?_); focus (simp [scalarB, go_sem]; done)))
        go_ret
        exact ⟨rfl, hS.below⟩
    · rw [decide_eq_false (fun h => c1 h.1)]
      have d1 : decide (0 ≤ n) = false := decide_eq_false c1
      go_enter Tryz.func144, Tryz.ntmps144
      go_wp2_with (first | (with_reducible refine wpList_box_st hS rfl rfl rfl ?_; clear hS; intro g1 w1 hS) | (with_reducible refine wpList_box1_st hS rfl rfl rfl ?_; clear hS; intro g1 w1 hS) | (with_reducible refine al hS rfl rfl ?_; clear hS; intro g1 w1 hS) | (with_reducible refine wpList_alloc1_st hS rfl rfl (by assumption) rfl ?_; clear hS; intro g1 w1 hS) | (with_reducible refine ld 0 hS rfl rfl rfl rfl rfl ?_) | (with_reducible refine lda 0 hS rfl rfl rfl rfl ?_) | (with_reducible refine sto 0 hS rfl rfl rfl rfl rfl rfl ?_; clear hS; intro w1 hS) | (with_reducible refine stor 0 hS rfl rfl rfl rfl rfl rfl rfl rfl ?_; clear hS; intro w1 hS) | ((with_reducible refine wpList_gload_st 0 hS rfl (by with_unfolding_all rfl) rfl rfl ?_ rfl ?_); focus (simp [scalarB, go_sem]; done)))
      go_ret
      exact ⟨rfl, hS.below⟩
  by_cases h2 : k = 2
  · subst h2
    have hr : Vl.ok ⟨2, n, s⟩ = decide (n = 0 ∧ s.size ≤ 24) := by simp [Vl.ok]
    rw [hr]
    clear h0 h1 hr hb
    simp only [vlRow]
    by_cases c1 : n = 0
    · subst c1
      by_cases c2 : s.size ≤ 24
      · rw [decide_eq_true ⟨rfl, c2⟩]
        have d2 : decide ((s.size : Int) ≤ 24) = true := decide_eq_true (by omega)
        go_enter Tryz.func144, Tryz.ntmps144
        go_wp2_with (first | (with_reducible refine wpList_box_st hS rfl rfl rfl ?_; clear hS; intro g1 w1 hS) | (with_reducible refine wpList_box1_st hS rfl rfl rfl ?_; clear hS; intro g1 w1 hS) | (with_reducible refine al hS rfl rfl ?_; clear hS; intro g1 w1 hS) | (with_reducible refine wpList_alloc1_st hS rfl rfl (by assumption) rfl ?_; clear hS; intro g1 w1 hS) | (with_reducible refine ld 0 hS rfl rfl rfl rfl rfl ?_) | (with_reducible refine lda 0 hS rfl rfl rfl rfl ?_) | (with_reducible refine sto 0 hS rfl rfl rfl rfl rfl rfl ?_; clear hS; intro w1 hS) | (with_reducible refine stor 0 hS rfl rfl rfl rfl rfl rfl rfl rfl ?_; clear hS; intro w1 hS) | ((with_reducible refine wpList_gload_st 0 hS rfl (by with_unfolding_all rfl) rfl rfl ?_ rfl ?_); focus (simp [scalarB, go_sem]; done)))
        go_ret
        exact ⟨rfl, hS.below⟩
      · rw [decide_eq_false (fun h => c2 h.2)]
        have d2 : decide ((s.size : Int) ≤ 24) = false := decide_eq_false (by omega)
        go_enter Tryz.func144, Tryz.ntmps144
        go_wp2_with (first | (with_reducible refine wpList_box_st hS rfl rfl rfl ?_; clear hS; intro g1 w1 hS) | (with_reducible refine wpList_box1_st hS rfl rfl rfl ?_; clear hS; intro g1 w1 hS) | (with_reducible refine al hS rfl rfl ?_; clear hS; intro g1 w1 hS) | (with_reducible refine wpList_alloc1_st hS rfl rfl (by assumption) rfl ?_; clear hS; intro g1 w1 hS) | (with_reducible refine ld 0 hS rfl rfl rfl rfl rfl ?_) | (with_reducible refine lda 0 hS rfl rfl rfl rfl ?_) | (with_reducible refine sto 0 hS rfl rfl rfl rfl rfl rfl ?_; clear hS; intro w1 hS) | (with_reducible refine stor 0 hS rfl rfl rfl rfl rfl rfl rfl rfl ?_; clear hS; intro w1 hS) | ((with_reducible refine wpList_gload_st 0 hS rfl (by with_unfolding_all rfl) rfl rfl ?_ rfl ?_); focus (simp [scalarB, go_sem]; done)))
        go_ret
        exact ⟨rfl, hS.below⟩
    · rw [decide_eq_false (fun h => c1 h.1)]
      have d1 : (n == 0) = false := by rw [beq_eq_false_iff_ne]; exact c1
      go_enter Tryz.func144, Tryz.ntmps144
      go_wp2_with (first | (with_reducible refine wpList_box_st hS rfl rfl rfl ?_; clear hS; intro g1 w1 hS) | (with_reducible refine wpList_box1_st hS rfl rfl rfl ?_; clear hS; intro g1 w1 hS) | (with_reducible refine al hS rfl rfl ?_; clear hS; intro g1 w1 hS) | (with_reducible refine wpList_alloc1_st hS rfl rfl (by assumption) rfl ?_; clear hS; intro g1 w1 hS) | (with_reducible refine ld 0 hS rfl rfl rfl rfl rfl ?_) | (with_reducible refine lda 0 hS rfl rfl rfl rfl ?_) | (with_reducible refine sto 0 hS rfl rfl rfl rfl rfl rfl ?_; clear hS; intro w1 hS) | (with_reducible refine stor 0 hS rfl rfl rfl rfl rfl rfl rfl rfl ?_; clear hS; intro w1 hS) | ((with_reducible refine wpList_gload_st 0 hS rfl (by with_unfolding_all rfl) rfl rfl ?_ rfl ?_); focus (simp [scalarB, go_sem]; done)))
      go_ret
      exact ⟨rfl, hS.below⟩
  · have hr : Vl.ok ⟨k, n, s⟩ = false := by simp [Vl.ok, h0, h1, h2]
    rw [hr]
    have e0 : (k == 0) = false := by rw [beq_eq_false_iff_ne]; exact h0
    have e1 : (k == 1) = false := by rw [beq_eq_false_iff_ne]; exact h1
    have e2 : (k == 2) = false := by rw [beq_eq_false_iff_ne]; exact h2
    clear h0 h1 hr hb h2
    simp only [vlRow]
    go_enter Tryz.func144, Tryz.ntmps144
    go_wp2_with (first | (with_reducible refine wpList_box_st hS rfl rfl rfl ?_; clear hS; intro g1 w1 hS) | (with_reducible refine wpList_box1_st hS rfl rfl rfl ?_; clear hS; intro g1 w1 hS) | (with_reducible refine al hS rfl rfl ?_; clear hS; intro g1 w1 hS) | (with_reducible refine wpList_alloc1_st hS rfl rfl (by assumption) rfl ?_; clear hS; intro g1 w1 hS) | (with_reducible refine ld 0 hS rfl rfl rfl rfl rfl ?_) | (with_reducible refine lda 0 hS rfl rfl rfl rfl ?_) | (with_reducible refine sto 0 hS rfl rfl rfl rfl rfl rfl ?_; clear hS; intro w1 hS) | (with_reducible refine stor 0 hS rfl rfl rfl rfl rfl rfl rfl rfl ?_; clear hS; intro w1 hS) | ((with_reducible refine wpList_gload_st 0 hS rfl (by with_unfolding_all rfl) rfl rfl ?_ rfl ?_); focus (simp [scalarB, go_sem]; done)))
    go_ret
    exact ⟨rfl, hS.below⟩

theorem high_bits : ∀ i : Fin 32, 9 ≤ i.val → (4294966784 : Nat).testBit i.val = true := by decide
theorem low_mask : ∀ m : Fin 512, m.val &&& 4294966784 = 0 := by decide +kernel
theorem within_mask (m : Nat) (hm : m < 4294967296) : (bits .andNot .u32 (m : Int) 511 == 0) = decide (m ≤ 511) := by
  rw [show (511 : Int) = ((511 : Nat) : Int) by rfl, u32_andNot_nat m 511 hm (by decide), show (4294967295 - 511 : Nat) = 4294966784 by rfl]
  by_cases h : m ≤ 511
  · rw [decide_eq_true h, low_mask ⟨m, by omega⟩]
    rfl
  · rw [decide_eq_false h, beq_eq_false_iff_ne]
    intro e
    obtain ⟨i, hi⟩ := Nat.exists_testBit_of_ne_zero (show m / 2 ^ 9 ≠ 0 by omega)
    rw [Nat.testBit_div_two_pow] at hi
    have hlt : i + 9 < 32 := by
      rcases Nat.lt_or_ge (i + 9) 32 with h | h
      · exact h
      · have h2 : 2 ^ 32 ≤ 2 ^ (i + 9) := Nat.pow_le_pow_right (by decide) h
        rw [Nat.testBit_lt_two_pow (show m < 2 ^ (i + 9) by omega)] at hi
        cases hi
    have hb := high_bits ⟨i + 9, hlt⟩ (by simp)
    have e' : m &&& 4294966784 = 0 := by omega
    have := congrArg (fun x => Nat.testBit x (i + 9)) e'
    simp only [Nat.testBit_and, Nat.zero_testBit, hi] at this
    simp only at hb
    rw [hb] at this
    cases this
theorem wmask_any (m : Nat) (hm : m < 4294967296) (w : World) : Calls Tryz.prog 148 #[.int .u32 m, .int .u32 511] w fun e w' => e = .returned (.bool (decide (m ≤ 511))) ∧ w = w' := by
  have h := within_mask m hm
  generalize decide (m ≤ 511) = r at h ⊢
  go_enter Tryz.func148, Tryz.ntmps148
  go_wp2_with fail
  go_ret
  exact ⟨rfl, rfl⟩
theorem mcheck_any (m : Nat) (hm : m < 4294967296) (w : World) : Calls Tryz.prog 111 #[.int .u32 m] w fun e w' => e = .returned (.bool (decide (m ≤ 511))) ∧ w = w' := by
  have cW := Lib.hid (fun W : World => wmask_any m hm W)
  go_enter Tryz.func111, Tryz.ntmps111
  go_wp2_with (go_at_call 148; (with_reducible refine (cW.out _).mono ?_); rintro _ _ ⟨rfl, rfl⟩)
  go_ret
  exact ⟨rfl, rfl⟩
end Go.Proofs.YtneolmnpebiifaaGreatDoor
end
