/- Values, fields, cards, patches compared. -/
import Derived.Test.YtplgpbbghhlbjaaDoorCardMath
import Derived.Test.YtplgpbbghhlbjaaDoorSt2
import Derived.Laws.StructEq
import Derived.ChangeKeysEq
set_option linter.unusedSimpArgs false
set_option linter.unusedVariables false
namespace Go.Ofp
open Go.RowKit
theorem run_part_row {P : Program} {t : TypeId} {n : Nat} (hu : rowB P t = true) (hsz : sizeB P t n = true) (xs : Array Value) (off : Nat) (w : World) : (part t xs off).run P w = .ok (.agg (xs.extract off (off + n))) w := by
  obtain ⟨d, h1, h2, h3⟩ := rowB_spec hu hsz
  obtain ⟨i, hi, hi2⟩ := Option.map_eq_some_iff.1 h3
  have hagg : (isAgg t).run P w = .ok true w := by
    unfold isAgg
    rw [Sem.run_bind, run_underlying h1 w]
    cases d <;> simp_all [TypeDesc.isRow]
  unfold part
  simp [hagg, sizeOf, typeInfo, hi, hi2]
theorem extract_list (l : List Value) (i n : Nat) : l.toArray.extract i (i + n) = ((l.drop i).take n).toArray := by
  apply Array.ext'
  simp
theorem fields_of {P : Program} {t : TypeId} {fs : Array Field} (h : P.underlying t = some (.struct fs)) : P.fieldsOf t = fs := by simp [Program.fieldsOf, h]
theorem ba_beq (a b : ByteArray) : (a.toList == b.toList) = decide (a = b) := by
  rw [ByteArray.toList_eq, ByteArray.toList_eq]
  by_cases h : a = b
  · subst h; simp
  · rw [decide_eq_false h, beq_eq_false_iff_ne]
    intro e
    apply h
    apply ByteArray.ext
    exact Array.ext' e
end Go.Ofp
namespace Go.Proofs.YtplgpbbghhlbjaaDoor
open Go.RowKit Go.Ofp
set_option linter.unusedVariables false
set_option maxRecDepth 100000
set_option maxHeartbeats 4000000

theorem eq_vl (d : Nat) (p q : Vl) (w : World) : (Op.equalIn (d + 2) 24 (.agg (vlRow p).toArray) (.agg (vlRow q).toArray)).run Tryd.prog w = .ok (decide (p = q)) w := by
  have hp : Tryd.prog.stoodInHeld 24 = false := by kernel_rfl
  have hf := fields_of Tryd.underlying24
  have hu : Tryd.prog.underlying 24 = some (.struct (Tryd.prog.fieldsOf 24)) := by rw [hf, Tryd.underlying24]
  rw [run_equalIn_struct w (d + 1) _ _ _ hu hp, hf]
  obtain ⟨a, b, c⟩ := p
  obtain ⟨a', b', c'⟩ := q
  have h3 := Tryd.underlying3
  have h9 := Tryd.underlying9
  have hb := ba_beq c c'
  simp only [vlRow]
  go_simp
  by_cases h1 : a = a'
  · by_cases h2 : b = b'
    · by_cases h3 : c = c' <;> simp_all
    · simp_all
  · simp_all
theorem eq_items (d : Nat) (f g : List Vl) (hl : f.length = g.length) (w : World) : ∀ m k, k + m = f.length → (Op.eqItems (d + 2) 24 3 (flRow f).toArray (flRow g).toArray (List.range' k m)).run Tryd.prog w = .ok (decide (f.drop k = g.drop k)) w := by
  intro m
  induction m with
  | zero =>
    intro k hk
    rw [List.drop_of_length_le (by omega), List.drop_of_length_le (by omega)]
    simp [Op.eqItems]
  | succ m ih =>
    intro k hk
    rw [List.range'_succ]
    have p1 := run_part_row (P := Tryd.prog) (t := 24) (n := 3) (by kernel_rfl) (by kernel_rfl) (flRow f).toArray (k * 3) w
    have p2 := run_part_row (P := Tryd.prog) (t := 24) (n := 3) (by kernel_rfl) (by kernel_rfl) (flRow g).toArray (k * 3) w
    have q1 := fl_at [] f k f[k] (List.getElem?_eq_getElem (by omega))
    have q2 := fl_at [] g k (g[k]'(by omega)) (List.getElem?_eq_getElem (by omega))
    simp only [List.nil_append, List.length_nil, Nat.zero_add] at q1 q2
    rw [extract_list, q1] at p1
    rw [extract_list, q2] at p2
    have p3 := eq_vl d f[k] (g[k]'(by omega)) w
    simp only [Op.eqItems, Sem.run_bind, p1, p2, p3, Result.andThen_ok]
    have hi := ih (k + 1) (by omega)
    have hd : (f.drop k = g.drop k) ↔ (f[k] = g[k]'(by omega) ∧ f.drop (k + 1) = g.drop (k + 1)) := by
      rw [List.drop_eq_getElem_cons (show k < f.length by omega), List.drop_eq_getElem_cons (show k < g.length by omega), List.cons.injEq]
    by_cases h : f[k] = g[k]'(by omega)
    · rw [decide_eq_true h]
      simp only [Bool.not_true, Bool.false_eq_true, if_false]
      rw [hi]
      congr 1
      rw [decide_eq_decide, hd]
      exact ⟨fun e => ⟨h, e⟩, fun e => e.2⟩
    · rw [decide_eq_false h, decide_eq_false (fun e => h (hd.1 e).1)]
      rfl
theorem eq_fl (d : Nat) (f g : List Vl) (hf : f.length = 8) (hg : g.length = 8) (w : World) : (Op.equalIn (d + 3) 25 (.agg (flRow f).toArray) (.agg (flRow g).toArray)).run Tryd.prog w = .ok (decide (f = g)) w := by
  obtain ⟨i, hi, -⟩ := elem_value
  have hc : Tryd.prog.cellsOf 24 = 3 := by kernel_rfl
  rw [run_equalIn_array w (d + 2) _ _ Tryd.underlying25 hi, hc, List.range_eq_range']
  exact eq_items d f g (by omega) w 8 0 (by omega)
theorem eq_cd (d : Nat) (p q : Cd) (hf : p.f.length = 8) (hg : q.f.length = 8) (w : World) : (Op.equalIn (d + 4) 27 (.agg (cdRow p).toArray) (.agg (cdRow q).toArray)).run Tryd.prog w = .ok (decide (p = q)) w := by
  have hp : Tryd.prog.stoodInHeld 27 = false := by kernel_rfl
  have hff := fields_of Tryd.underlying27
  have hu : Tryd.prog.underlying 27 = some (.struct (Tryd.prog.fieldsOf 27)) := by rw [hff, Tryd.underlying27]
  rw [run_equalIn_struct w (d + 3) _ _ _ hu hp, hff]
  obtain ⟨a, b, c, f⟩ := p
  obtain ⟨a', b', c', g⟩ := q
  simp only at hf hg
  have e3 := eq_fl d f g hf hg w
  have t1 : (flRow f).take 24 = flRow f := List.take_of_length_le (by rw [flRow_length]; omega)
  have t2 : (flRow g).take 24 = flRow g := List.take_of_length_le (by rw [flRow_length]; omega)
  have h3 := Tryd.underlying3
  have h9 := Tryd.underlying22
  simp only [cdRow]
  go_simp
  simp only [t1, t2, e3, Int.natCast_inj, Result.andThen_ok]
  by_cases k1 : a = a'
  · by_cases k2 : b = b'
    · by_cases k3 : c = c'
      · by_cases k4 : f = g <;> simp [k1, k2, k3, k4]
      · simp [k1, k2, k3]
    · simp [k1, k2]
  · simp [k1]
theorem eq_pt (d : Nat) (p q : Pt) (hf : p.f.length = 8) (hg : q.f.length = 8) (w : World) : (Op.equalIn (d + 4) 29 (.agg (ptRow p).toArray) (.agg (ptRow q).toArray)).run Tryd.prog w = .ok (decide (p = q)) w := by
  have hp : Tryd.prog.stoodInHeld 29 = false := by kernel_rfl
  have hff := fields_of Tryd.underlying29
  have hu : Tryd.prog.underlying 29 = some (.struct (Tryd.prog.fieldsOf 29)) := by rw [hff, Tryd.underlying29]
  rw [run_equalIn_struct w (d + 3) _ _ _ hu hp, hff]
  obtain ⟨b, c, f⟩ := p
  obtain ⟨b', c', g⟩ := q
  simp only at hf hg
  have e3 := eq_fl d f g hf hg w
  have t1 : (flRow f).take 24 = flRow f := List.take_of_length_le (by rw [flRow_length]; omega)
  have t2 : (flRow g).take 24 = flRow g := List.take_of_length_le (by rw [flRow_length]; omega)
  have h9 := Tryd.underlying22
  simp only [ptRow]
  go_simp
  simp only [t1, t2, e3, Int.natCast_inj, Result.andThen_ok]
  by_cases k2 : b = b'
  · by_cases k3 : c = c'
    · by_cases k4 : f = g <;> simp [k2, k3, k4]
    · simp [k2, k3]
  · simp [k2]

/-! ### The walk's facts -/
theorem eql_vl (p q : Vl) (w : World) : (binOp .eql 24 (.agg (vlRow p).toArray) (.agg (vlRow q).toArray)).run Tryd.prog w = .ok (.bool (decide (p = q))) w := by
  rw [run_eql_struct, eq_vl 9998 p q w]
  rfl
theorem neq_vl (p q : Vl) (w : World) : (binOp .neq 24 (.agg (vlRow p).toArray) (.agg (vlRow q).toArray)).run Tryd.prog w = .ok (.bool (!decide (p = q))) w := by
  rw [run_neq_struct, eq_vl 9998 p q w]
  rfl
theorem eql_fl (f g : List Vl) (hf : f.length = 8) (hg : g.length = 8) (w : World) : (binOp .eql 25 (.agg (flRow f).toArray) (.agg (flRow g).toArray)).run Tryd.prog w = .ok (.bool (decide (f = g))) w := by
  rw [run_eql_struct, eq_fl 9997 f g hf hg w]
  rfl
theorem eql_cd (p q : Cd) (hf : p.f.length = 8) (hg : q.f.length = 8) (w : World) : (binOp .eql 27 (.agg (cdRow p).toArray) (.agg (cdRow q).toArray)).run Tryd.prog w = .ok (.bool (decide (p = q))) w := by
  rw [run_eql_struct, eq_cd 9996 p q hf hg w]
  rfl
theorem neq_cd (p q : Cd) (hf : p.f.length = 8) (hg : q.f.length = 8) (w : World) : (binOp .neq 27 (.agg (cdRow p).toArray) (.agg (cdRow q).toArray)).run Tryd.prog w = .ok (.bool (!decide (p = q))) w := by
  rw [run_neq_struct, eq_cd 9996 p q hf hg w]
  rfl
theorem eql_pt (p q : Pt) (hf : p.f.length = 8) (hg : q.f.length = 8) (w : World) : (binOp .eql 29 (.agg (ptRow p).toArray) (.agg (ptRow q).toArray)).run Tryd.prog w = .ok (.bool (decide (p = q))) w := by
  rw [run_eql_struct, eq_pt 9996 p q hf hg w]
  rfl
theorem guard_vl (op : BinOp) (x y : Operand) (xs ys : Array Value) (w : World) : (eqGuard op 24 x y (.agg xs) (.agg ys)).run Tryd.prog w = .ok () w :=
  run_eqGuard_agg w op _ x y xs ys (by kernel_rfl)
theorem guard_fl (op : BinOp) (x y : Operand) (xs ys : Array Value) (w : World) : (eqGuard op 25 x y (.agg xs) (.agg ys)).run Tryd.prog w = .ok () w :=
  run_eqGuard_agg w op _ x y xs ys (by kernel_rfl)
theorem guard_cd (op : BinOp) (x y : Operand) (xs ys : Array Value) (w : World) : (eqGuard op 27 x y (.agg xs) (.agg ys)).run Tryd.prog w = .ok () w :=
  run_eqGuard_agg w op _ x y xs ys (by kernel_rfl)
theorem guard_pt (op : BinOp) (x y : Operand) (xs ys : Array Value) (w : World) : (eqGuard op 29 x y (.agg xs) (.agg ys)).run Tryd.prog w = .ok () w :=
  run_eqGuard_agg w op _ x y xs ys (by kernel_rfl)
end Go.Proofs.YtplgpbbghhlbjaaDoor
