/- Texts laid together: Card2 Bits CardRef CardRef2 CardEq. -/
import Derived.Laws.BitsAllLaws
import Derived.Laws.StructEq
import Derived.ChangeKeysEq
import Derived.Test.YtajldelodnjmoaaM1
import Derived.Test.YtajldelodnjmoaaM2
import Derived.Test.YtajldelodnjmoaaM4
import Derived.Test.YtajldelodnjmoaaM7
section
/- Cards: Of, Merge, Fresh. -/
set_option linter.unusedSimpArgs false
set_option linter.unusedVariables false
namespace Go.Proofs.Ytajldelodnjmoaa
open Go.RowKit Go.Ofp
set_option linter.unusedVariables false
set_option maxRecDepth 100000
set_option maxHeartbeats 4000000

end Go.Proofs.Ytajldelodnjmoaa
end

section
/- Sets of small numbers as bits. -/
set_option linter.unusedSimpArgs false
set_option linter.unusedVariables false
namespace Go.Ofp
end Go.Ofp
namespace Go.Proofs.Ytajldelodnjmoaa
open Go.RowKit Go.Ofp
set_option linter.unusedVariables false
set_option maxRecDepth 100000
set_option maxHeartbeats 4000000
end Go.Proofs.Ytajldelodnjmoaa
end

section
/- Cards: the document's answer: Project, Of, Merge, Fresh. -/
set_option linter.unusedSimpArgs false
set_option linter.unusedVariables false
namespace Go.Proofs.Ytajldelodnjmoaa
open Go.RowKit Go.Ofp
set_option linter.unusedVariables false
set_option maxRecDepth 100000
set_option maxHeartbeats 4000000

end Go.Proofs.Ytajldelodnjmoaa
end

section
/- Cards: the document's answer: Merge, Fresh. -/
set_option linter.unusedSimpArgs false
set_option linter.unusedVariables false
namespace Go.Proofs.Ytajldelodnjmoaa
open Go.RowKit Go.Ofp
set_option linter.unusedVariables false
set_option maxRecDepth 100000
set_option maxHeartbeats 4000000

end Go.Proofs.Ytajldelodnjmoaa
end

section
/- Values, fields, cards, patches compared. -/
set_option linter.unusedSimpArgs false
set_option linter.unusedVariables false
namespace Go.Ofp
open Go.RowKit
theorem run_part_row {P : Program} {t : TypeId} {n : Nat} (hu : rowB P t = true) (hsz : sizeB P t n = true) (xs : Array Value) (off : Nat) (w : World) : (part t xs off).run P w = .ok (.agg (xs.extract off (off + n))) w := by
  obtain ⟨d, h1, h2, h3⟩ := rowB_spec hu hsz
  obtain ⟨i, hi, hi2⟩ := Option.map_eq_some_iff.1 h3
  have hagg : (isAgg t).run P w = .ok true w := by
    unfold isAgg
    rw [Sem.run_bind, run_underlying h1 w]
    cases d <;> simp_all [TypeDesc.isRow]
  unfold part
  simp [hagg, sizeOf, typeInfo, hi, hi2]
theorem extract_list (l : List Value) (i n : Nat) : l.toArray.extract i (i + n) = ((l.drop i).take n).toArray := by
  apply Array.ext'
  simp
theorem fields_of {P : Program} {t : TypeId} {fs : Array Field} (h : P.underlying t = some (.struct fs)) : P.fieldsOf t = fs := by simp [Program.fieldsOf, h]
theorem ba_beq (a b : ByteArray) : (a.toList == b.toList) = decide (a = b) := by
  rw [ByteArray.toList_eq, ByteArray.toList_eq]
  by_cases h : a = b
  · subst h; simp
  · rw [decide_eq_false h, beq_eq_false_iff_ne]
    intro e
    apply h
    apply ByteArray.ext
    exact Array.ext' e
end Go.Ofp
namespace Go.Proofs.Ytajldelodnjmoaa
open Go.RowKit Go.Ofp
set_option linter.unusedVariables false
set_option maxRecDepth 100000
set_option maxHeartbeats 4000000

theorem eq_vl (d : Nat) (p q : Vl) (w : World) : (Op.equalIn (d + 2) 38 (.agg (vlRow p).toArray) (.agg (vlRow q).toArray)).run Try.prog w = .ok (decide (p = q)) w := by
  have hp : Try.prog.stoodInHeld 38 = false := by kernel_rfl
  have hf := fields_of Try.underlying38
  have hu : Try.prog.underlying 38 = some (.struct (Try.prog.fieldsOf 38)) := by rw [hf, Try.underlying38]
  rw [run_equalIn_struct w (d + 1) _ _ _ hu hp, hf]
  obtain ⟨a, b, c⟩ := p
  obtain ⟨a', b', c'⟩ := q
  have h3 := Try.underlying3
  have h9 := Try.underlying9
  have hb := ba_beq c c'
  simp only [vlRow]
  go_simp
  by_cases h1 : a = a'
  · by_cases h2 : b = b'
    · by_cases h3 : c = c' <;> simp_all
    · simp_all
  · simp_all
theorem eq_items (d : Nat) (f g : List Vl) (hl : f.length = g.length) (w : World) : ∀ m k, k + m = f.length → (Op.eqItems (d + 2) 38 3 (flRow f).toArray (flRow g).toArray (List.range' k m)).run Try.prog w = .ok (decide (f.drop k = g.drop k)) w := by
  intro m
  induction m with
  | zero =>
    intro k hk
    rw [List.drop_of_length_le (by omega), List.drop_of_length_le (by omega)]
    simp [Op.eqItems]
  | succ m ih =>
    intro k hk
    rw [List.range'_succ]
    have p1 := run_part_row (P := Try.prog) (t := 38) (n := 3) (by kernel_rfl) (by kernel_rfl) (flRow f).toArray (k * 3) w
    have p2 := run_part_row (P := Try.prog) (t := 38) (n := 3) (by kernel_rfl) (by kernel_rfl) (flRow g).toArray (k * 3) w
    have q1 := fl_at [] f k f[k] (List.getElem?_eq_getElem (by omega))
    have q2 := fl_at [] g k (g[k]'(by omega)) (List.getElem?_eq_getElem (by omega))
    simp only [List.nil_append, List.length_nil, Nat.zero_add] at q1 q2
    rw [extract_list, q1] at p1
    rw [extract_list, q2] at p2
    have p3 := eq_vl d f[k] (g[k]'(by omega)) w
    simp only [Op.eqItems, Sem.run_bind, p1, p2, p3, Result.andThen_ok]
    have hi := ih (k + 1) (by omega)
    have hd : (f.drop k = g.drop k) ↔ (f[k] = g[k]'(by omega) ∧ f.drop (k + 1) = g.drop (k + 1)) := by
      rw [List.drop_eq_getElem_cons (show k < f.length by omega), List.drop_eq_getElem_cons (show k < g.length by omega), List.cons.injEq]
    by_cases h : f[k] = g[k]'(by omega)
    · rw [decide_eq_true h]
      simp only [Bool.not_true, Bool.false_eq_true, if_false]
      rw [hi]
      congr 1
      rw [decide_eq_decide, hd]
      exact ⟨fun e => ⟨h, e⟩, fun e => e.2⟩
    · rw [decide_eq_false h, decide_eq_false (fun e => h (hd.1 e).1)]
      rfl
theorem eq_fl (d : Nat) (f g : List Vl) (hf : f.length = 8) (hg : g.length = 8) (w : World) : (Op.equalIn (d + 3) 39 (.agg (flRow f).toArray) (.agg (flRow g).toArray)).run Try.prog w = .ok (decide (f = g)) w := by
  obtain ⟨i, hi, -⟩ := elem_value
  have hc : Try.prog.cellsOf 38 = 3 := by kernel_rfl
  rw [run_equalIn_array w (d + 2) _ _ Try.underlying39 hi, hc, List.range_eq_range']
  exact eq_items d f g (by omega) w 8 0 (by omega)
theorem eq_cd (d : Nat) (p q : Cd) (hf : p.f.length = 8) (hg : q.f.length = 8) (w : World) : (Op.equalIn (d + 4) 41 (.agg (cdRow p).toArray) (.agg (cdRow q).toArray)).run Try.prog w = .ok (decide (p = q)) w := by
  have hp : Try.prog.stoodInHeld 41 = false := by kernel_rfl
  have hff := fields_of Try.underlying41
  have hu : Try.prog.underlying 41 = some (.struct (Try.prog.fieldsOf 41)) := by rw [hff, Try.underlying41]
  rw [run_equalIn_struct w (d + 3) _ _ _ hu hp, hff]
  obtain ⟨a, b, c, f⟩ := p
  obtain ⟨a', b', c', g⟩ := q
  simp only at hf hg
  have e3 := eq_fl d f g hf hg w
  have t1 : (flRow f).take 24 = flRow f := List.take_of_length_le (by rw [flRow_length]; omega)
  have t2 : (flRow g).take 24 = flRow g := List.take_of_length_le (by rw [flRow_length]; omega)
  have h3 := Try.underlying3
  have h9 := Try.underlying36
  simp only [cdRow]
  go_simp
  simp only [t1, t2, e3, Int.natCast_inj, Result.andThen_ok]
  by_cases k1 : a = a'
  · by_cases k2 : b = b'
    · by_cases k3 : c = c'
      · by_cases k4 : f = g <;> simp [k1, k2, k3, k4]
      · simp [k1, k2, k3]
    · simp [k1, k2]
  · simp [k1]
/-! ### The walk's facts -/
theorem eql_vl (p q : Vl) (w : World) : (binOp .eql 38 (.agg (vlRow p).toArray) (.agg (vlRow q).toArray)).run Try.prog w = .ok (.bool (decide (p = q))) w := by
  rw [run_eql_struct, eq_vl 9998 p q w]
  rfl
theorem neq_cd (p q : Cd) (hf : p.f.length = 8) (hg : q.f.length = 8) (w : World) : (binOp .neq 41 (.agg (cdRow p).toArray) (.agg (cdRow q).toArray)).run Try.prog w = .ok (.bool (!decide (p = q))) w := by
  rw [run_neq_struct, eq_cd 9996 p q hf hg w]
  rfl
theorem guard_vl (op : BinOp) (x y : Operand) (xs ys : Array Value) (w : World) : (eqGuard op 38 x y (.agg xs) (.agg ys)).run Try.prog w = .ok () w :=
  run_eqGuard_agg w op _ x y xs ys (by kernel_rfl)
theorem guard_cd (op : BinOp) (x y : Operand) (xs ys : Array Value) (w : World) : (eqGuard op 41 x y (.agg xs) (.agg ys)).run Try.prog w = .ok () w :=
  run_eqGuard_agg w op _ x y xs ys (by kernel_rfl)
end Go.Proofs.Ytajldelodnjmoaa
end
