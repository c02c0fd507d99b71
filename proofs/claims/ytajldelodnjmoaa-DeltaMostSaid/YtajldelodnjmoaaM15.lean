/- Texts laid together: TransOnce TransEq. -/
import Derived.Test.YtajldelodnjmoaaM13
import Derived.Test.YtajldelodnjmoaaM14
import Derived.Test.YtajldelodnjmoaaM6
import Derived.Test.YtajldelodnjmoaaM8
section
/- The law TransOnce. -/
set_option linter.unusedSimpArgs false
set_option linter.unusedVariables false
namespace Go.Proofs.Ytajldelodnjmoaa
open Go.RowKit Go.Ofp
set_option linter.unusedVariables false
set_option maxRecDepth 100000
set_option maxHeartbeats 4000000

theorem net_f {l : List Tn} (h : ∀ t ∈ l, t.c.f.length = 8) : ∀ x ∈ netOf l, x.c.f.length = 8 := by
  intro x hx
  unfold netOf at hx
  obtain ⟨id, -, e⟩ := List.mem_filterMap.1 hx
  unfold netAt at e
  obtain ⟨a, ha, e⟩ := Option.bind_eq_some_iff.1 e
  obtain ⟨b, hb, e⟩ := Option.bind_eq_some_iff.1 e
  exact itemOf_len e (h b (lastOf_mem hb).1)
end Go.Proofs.Ytajldelodnjmoaa
end

section
/- Turns and items, compared. -/
set_option linter.unusedSimpArgs false
set_option linter.unusedVariables false
namespace Go.Proofs.Ytajldelodnjmoaa
open Go.RowKit Go.Ofp
set_option linter.unusedVariables false
set_option maxRecDepth 100000
set_option maxHeartbeats 4000000
theorem part_i (R : List Value) (j : Nat) (x : Int) (h : R[j]? = some (.int .i64 x)) (w : World) : (part 3 R.toArray j).run Try.prog w = .ok (.int .i64 x) w := by
  have h' : R.toArray[j]? = some (.int .i64 x) := by simpa using h
  unfold part
  go_simp
theorem part_cd (R : List Value) (j : Nat) (c : Cd) (hf : c.f.length = 8) (h : R.drop j = cdRow c) (w : World) : (part 41 R.toArray j).run Try.prog w = .ok (.agg (cdRow c).toArray) w := by
  have := run_part_row (P := Try.prog) (t := 41) (n := 27) (by kernel_rfl) (by kernel_rfl) R.toArray j w
  rw [extract_list, h, List.take_of_length_le (by rw [cdRow_lenT c hf]; exact Nat.le_refl _)] at this
  exact this
theorem eq_it (d : Nat) (p q : It) (hf : p.c.f.length = 8) (hg : q.c.f.length = 8) (w : World) : (Op.equalIn (d + 5) 50 (.agg (itRow p).toArray) (.agg (itRow q).toArray)).run Try.prog w = .ok (decide (p = q)) w := by
  have hp : Try.prog.stoodInHeld 50 = false := by kernel_rfl
  have hff := fields_of Try.underlying50
  have hu : Try.prog.underlying 50 = some (.struct (Try.prog.fieldsOf 50)) := by rw [hff, Try.underlying50]
  rw [run_equalIn_struct w (d + 4) _ _ _ hu hp, hff]
  obtain ⟨k, c⟩ := p
  obtain ⟨k', c'⟩ := q
  simp only at hf hg
  have e3 := eq_cd d c c' hf hg w
  have h3 := Try.underlying3
  have e1 : ∀ x y : Int, (Op.equalIn (d + 4) 3 (.int .i64 x) (.int .i64 y)).run Try.prog w = .ok (x == y) w := fun x y => by simp [Op.equalIn, run_underlying h3]
  have pa := part_i (itRow ⟨k, c⟩) 0 k rfl w
  have pb := part_i (itRow ⟨k', c'⟩) 0 k' rfl w
  have pf := part_cd (itRow ⟨k, c⟩) 1 c hf rfl w
  have pg := part_cd (itRow ⟨k', c'⟩) 1 c' hg rfl w
  generalize itRow ⟨k, c⟩ = A at *
  generalize itRow ⟨k', c'⟩ = B at *
  generalize cdRow c = RF at *
  generalize cdRow c' = RG at *
  simp only [Op.eqFields, ne_eq, String.reduceEq, not_false_eq_true, if_true, Sem.run_bind, pa, pb, pf, pg, e1, e3, Result.andThen_ok]
  by_cases k2 : k = k'
  · subst k2
    by_cases k4 : c = c' <;> simp [pf, pg, e3, k4]
  · simp [k2]
theorem neq_it (p q : It) (hf : p.c.f.length = 8) (hg : q.c.f.length = 8) (w : World) : (binOp .neq 50 (.agg (itRow p).toArray) (.agg (itRow q).toArray)).run Try.prog w = .ok (.bool (!decide (p = q))) w := by
  rw [run_neq_struct, eq_it 9995 p q hf hg w]
  rfl
theorem guard_it (op : BinOp) (x y : Operand) (xs ys : Array Value) (w : World) : (eqGuard op 50 x y (.agg xs) (.agg ys)).run Try.prog w = .ok () w :=
  run_eqGuard_agg w op _ x y xs ys (by kernel_rfl)
end Go.Proofs.Ytajldelodnjmoaa
end
