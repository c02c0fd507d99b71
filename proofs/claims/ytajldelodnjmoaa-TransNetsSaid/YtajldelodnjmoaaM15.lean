/- Texts laid together: TransOnce TransEq. -/
import Derived.Test.YtajldelodnjmoaaM13
import Derived.Test.YtajldelodnjmoaaM14
import Derived.Test.YtajldelodnjmoaaM6
import Derived.Test.YtajldelodnjmoaaM8
section
/- The law TransOnce. -/
set_option linter.unusedSimpArgs false
set_option linter.unusedVariables false
namespace Go.Proofs.Ytajldelodnjmoaa
open Go.RowKit Go.Ofp
set_option linter.unusedVariables false
set_option maxRecDepth 100000
set_option maxHeartbeats 4000000

theorem net_f {l : List Tn} (h : ∀ t ∈ l, t.c.f.length = 8) : ∀ x ∈ netOf l, x.c.f.length = 8 := by
  intro x hx
  unfold netOf at hx
  obtain ⟨id, -, e⟩ := List.mem_filterMap.1 hx
  unfold netAt at e
  obtain ⟨a, ha, e⟩ := Option.bind_eq_some_iff.1 e
  obtain ⟨b, hb, e⟩ := Option.bind_eq_some_iff.1 e
  exact itemOf_len e (h b (lastOf_mem hb).1)
end Go.Proofs.Ytajldelodnjmoaa
end

section
/- Turns and items, compared. -/
set_option linter.unusedSimpArgs false
set_option linter.unusedVariables false
namespace Go.Proofs.Ytajldelodnjmoaa
open Go.RowKit Go.Ofp
set_option linter.unusedVariables false
set_option maxRecDepth 100000
set_option maxHeartbeats 4000000
theorem part_i (R : List Value) (j : Nat) (x : Int) (h : R[j]? = some (.int .i64 x)) (w : World) : (part 3 R.toArray j).run Try.prog w = .ok (.int .i64 x) w := by
  have h' : R.toArray[j]? = some (.int .i64 x) := by simpa using h
  unfold part
  go_simp
theorem part_cd (R : List Value) (j : Nat) (c : Cd) (hf : c.f.length = 8) (h : R.drop j = cdRow c) (w : World) : (part 41 R.toArray j).run Try.prog w = .ok (.agg (cdRow c).toArray) w := by
  have := run_part_row (P := Try.prog) (t := 41) (n := 27) (by kernel_rfl) (by kernel_rfl) R.toArray j w
  rw [extract_list, h, List.take_of_length_le (by rw [cdRow_lenT c hf]; exact Nat.le_refl _)] at this
  exact this
theorem eq_it (d : Nat) (p q : It) (hf : p.c.f.length = 8) (hg : q.c.f.length = 8) (w : World) : (Op.equalIn (d + 5) 50 (.agg (itRow p).toArray) (.agg (itRow q).toArray)).run Try.prog w = .ok (decide (p = q)) w := by
  have hp : Try.prog.stoodInHeld 50 = false := by kernel_rfl
  have hff := fields_of Try.underlying50
  have hu : Try.prog.underlying 50 = some (.struct (Try.prog.fieldsOf 50)) := by rw [hff, Try.underlying50]
  rw [run_equalIn_struct w (d + 4) _ _ _ hu hp, hff]
  obtain ⟨k, c⟩ := p
  obtain ⟨k', c'⟩ := q
  simp only at hf hg
  have e3 := eq_cd d c c' hf hg w
  have h3 := Try.underlying3
  have e1 : ∀ x y : Int, (Op.equalIn (d + 4) 3 (.int .i64 x) (.int .i64 y)).run Try.prog w = .ok (x == y) w := fun x y => by simp [Op.equalIn, run_underlying h3]
  have pa := part_i (itRow ⟨k, c⟩) 0 k rfl w
  have pb := part_i (itRow ⟨k', c'⟩) 0 k' rfl w
  have pf := part_cd (itRow ⟨k, c⟩) 1 c hf rfl w
  have pg := part_cd (itRow ⟨k', c'⟩) 1 c' hg rfl w
  generalize itRow ⟨k, c⟩ = A at *
  generalize itRow ⟨k', c'⟩ = B at *
  generalize cdRow c = RF at *
  generalize cdRow c' = RG at *
  simp only [Op.eqFields, ne_eq, String.reduceEq, not_false_eq_true, if_true, Sem.run_bind, pa, pb, pf, pg, e1, e3, Result.andThen_ok]
  by_cases k2 : k = k'
  · subst k2
    by_cases k4 : c = c' <;> simp [pf, pg, e3, k4]
  · simp [k2]
theorem eq_tn (d : Nat) (p q : Tn) (hf : p.c.f.length = 8) (hg : q.c.f.length = 8) (w : World) : (Op.equalIn (d + 5) 52 (.agg (tnRow p).toArray) (.agg (tnRow q).toArray)).run Try.prog w = .ok (decide (p = q)) w := by
  have hp : Try.prog.stoodInHeld 52 = false := by kernel_rfl
  have hff := fields_of Try.underlying52
  have hu : Try.prog.underlying 52 = some (.struct (Try.prog.fieldsOf 52)) := by rw [hff, Try.underlying52]
  rw [run_equalIn_struct w (d + 4) _ _ _ hu hp, hff]
  obtain ⟨a1, a2, a3, a4, c⟩ := p
  obtain ⟨b1, b2, b3, b4, c'⟩ := q
  simp only at hf hg
  have e3 := eq_cd d c c' hf hg w
  have h3 := Try.underlying3
  have e1 : ∀ x y : Int, (Op.equalIn (d + 4) 3 (.int .i64 x) (.int .i64 y)).run Try.prog w = .ok (x == y) w := fun x y => by simp [Op.equalIn, run_underlying h3]
  have p1 := part_i (tnRow ⟨a1, a2, a3, a4, c⟩) 0 a1 rfl w
  have p2 := part_i (tnRow ⟨a1, a2, a3, a4, c⟩) 1 a2 rfl w
  have p3 := part_i (tnRow ⟨a1, a2, a3, a4, c⟩) 2 a3 rfl w
  have p4 := part_i (tnRow ⟨a1, a2, a3, a4, c⟩) 3 a4 rfl w
  have q1 := part_i (tnRow ⟨b1, b2, b3, b4, c'⟩) 0 b1 rfl w
  have q2 := part_i (tnRow ⟨b1, b2, b3, b4, c'⟩) 1 b2 rfl w
  have q3 := part_i (tnRow ⟨b1, b2, b3, b4, c'⟩) 2 b3 rfl w
  have q4 := part_i (tnRow ⟨b1, b2, b3, b4, c'⟩) 3 b4 rfl w
  have pf := part_cd (tnRow ⟨a1, a2, a3, a4, c⟩) 4 c hf rfl w
  have pg := part_cd (tnRow ⟨b1, b2, b3, b4, c'⟩) 4 c' hg rfl w
  generalize tnRow ⟨a1, a2, a3, a4, c⟩ = A at *
  generalize tnRow ⟨b1, b2, b3, b4, c'⟩ = B at *
  generalize cdRow c = RF at *
  generalize cdRow c' = RG at *
  simp only [Op.eqFields, ne_eq, String.reduceEq, not_false_eq_true, if_true, Sem.run_bind, p1, q1, e1, Result.andThen_ok]
  by_cases k1 : a1 = b1
  · subst k1
    by_cases k2 : a2 = b2
    · subst k2
      by_cases k3 : a3 = b3
      · subst k3
        by_cases k4 : a4 = b4
        · subst k4
          by_cases k5 : c = c' <;> simp [p2, p3, p4, q2, q3, q4, e1, pf, pg, e3, k5]
        · simp [p2, p3, p4, q2, q3, q4, e1, k4]
      · simp [p2, p3, q2, q3, e1, k3]
    · simp [p2, q2, e1, k2]
  · simp [k1]
theorem neq_it (p q : It) (hf : p.c.f.length = 8) (hg : q.c.f.length = 8) (w : World) : (binOp .neq 50 (.agg (itRow p).toArray) (.agg (itRow q).toArray)).run Try.prog w = .ok (.bool (!decide (p = q))) w := by
  rw [run_neq_struct, eq_it 9995 p q hf hg w]
  rfl
theorem neq_tn (p q : Tn) (hf : p.c.f.length = 8) (hg : q.c.f.length = 8) (w : World) : (binOp .neq 52 (.agg (tnRow p).toArray) (.agg (tnRow q).toArray)).run Try.prog w = .ok (.bool (!decide (p = q))) w := by
  rw [run_neq_struct, eq_tn 9995 p q hf hg w]
  rfl
theorem guard_it (op : BinOp) (x y : Operand) (xs ys : Array Value) (w : World) : (eqGuard op 50 x y (.agg xs) (.agg ys)).run Try.prog w = .ok () w :=
  run_eqGuard_agg w op _ x y xs ys (by kernel_rfl)
theorem guard_tn (op : BinOp) (x y : Operand) (xs ys : Array Value) (w : World) : (eqGuard op 52 x y (.agg xs) (.agg ys)).run Try.prog w = .ok () w :=
  run_eqGuard_agg w op _ x y xs ys (by kernel_rfl)
end Go.Proofs.Ytajldelodnjmoaa
end
