/- Pieces compared as structs. -/
import Derived.Test.YtcpkmgmdhjhfaaaPieceMath
import Derived.Laws.StructEq
set_option linter.unusedSimpArgs false
set_option linter.unusedVariables false
namespace Go.Proofs.Ytcpkmgmdhjhfaaa
open Go.RowKit Go.Ofp
set_option linter.unusedVariables false

/-- A piece is nothing but its parts. -/
def pcBeq (p q : Pc) : Bool := p.life == q.life && (p.place == q.place && (p.first == q.first && (p.last == q.last && p.body.toList == q.body.toList)))

theorem pcBeq_iff (p q : Pc) : pcBeq p q = true ↔ p = q := by
  obtain ⟨a, b, c, d, e⟩ := p
  obtain ⟨a', b', c', d', e'⟩ := q
  have he : e.toList = e'.toList ↔ e = e' := ⟨fun h => by rw [ByteArray.toList_eq, ByteArray.toList_eq] at h; exact ba_ext h, fun h => by rw [h]⟩
  simp [pcBeq, he]

theorem fieldsOf_of {P : Program} {t : TypeId} {fs : Array Field} (h : P.underlying t = some (.struct fs)) : P.fieldsOf t = fs := by simp [Program.fieldsOf, h]

theorem equalIn_rpc (p q : Pc) (w : World) : (Op.equalIn 10000 34 p.val q.val).run Try.prog w = .ok (pcBeq p q) w := by
  have hp : Try.prog.stoodInHeld 34 = false := by kernel_rfl
  have hf := fieldsOf_of Try.underlying34
  have hu : Try.prog.underlying 34 = some (.struct (Try.prog.fieldsOf 34)) := by rw [hf, Try.underlying34]
  rw [Pc.val, Pc.val, run_equalIn_struct w 9999 _ _ _ hu hp, hf]
  obtain ⟨a, b, c, d, e⟩ := p
  obtain ⟨a', b', c', d', e'⟩ := q
  have h3 := Try.underlying3
  have h4 := Try.underlying4
  have h9 := Try.underlying9
  simp only [Pc.row, pcBeq]
  go_simp
  repeat' split
  all_goals simp_all

/-- The walk's facts: a piece against another one. -/
theorem neq_rpc (p q : Pc) (w : World) : (binOp .neq 34 (.agg #[.int .i64 p.life, .int .i64 p.place, .bool p.first, .bool p.last, .string p.body]) (.agg #[.int .i64 q.life, .int .i64 q.place, .bool q.first, .bool q.last, .string q.body])).run Try.prog w = .ok (.bool (!pcBeq p q)) w := by
  rw [run_neq_struct]
  have := equalIn_rpc p q w
  simp only [Pc.val, Pc.row] at this
  rw [this]
  rfl
theorem eql_rpc (p q : Pc) (w : World) : (binOp .eql 34 (.agg #[.int .i64 p.life, .int .i64 p.place, .bool p.first, .bool p.last, .string p.body]) (.agg #[.int .i64 q.life, .int .i64 q.place, .bool q.first, .bool q.last, .string q.body])).run Try.prog w = .ok (.bool (pcBeq p q)) w := by
  rw [run_eql_struct]
  have := equalIn_rpc p q w
  simp only [Pc.val, Pc.row] at this
  rw [this]
  rfl
theorem guard_rpc (op : BinOp) (x y : Operand) (xs ys : Array Value) (w : World) : (eqGuard op 34 x y (.agg xs) (.agg ys)).run Try.prog w = .ok () w :=
  run_eqGuard_agg w op _ x y xs ys (by kernel_rfl)

theorem equalIn_pc (p q : Pc) (w : World) : (Op.equalIn 10000 58 p.val q.val).run Try.prog w = .ok (pcBeq p q) w := by
  have hp : Try.prog.stoodInHeld 58 = false := by kernel_rfl
  have hf := fieldsOf_of Try.underlying58
  have hu : Try.prog.underlying 58 = some (.struct (Try.prog.fieldsOf 58)) := by rw [hf, Try.underlying58]
  rw [Pc.val, Pc.val, run_equalIn_struct w 9999 _ _ _ hu hp, hf]
  obtain ⟨a, b, c, d, e⟩ := p
  obtain ⟨a', b', c', d', e'⟩ := q
  have h3 := Try.underlying3
  have h4 := Try.underlying4
  have h9 := Try.underlying9
  simp only [Pc.row, pcBeq]
  go_simp
  repeat' split
  all_goals simp_all

/-- The walk's facts: a piece against another one. -/
theorem neq_pc (p q : Pc) (w : World) : (binOp .neq 58 (.agg #[.int .i64 p.life, .int .i64 p.place, .bool p.first, .bool p.last, .string p.body]) (.agg #[.int .i64 q.life, .int .i64 q.place, .bool q.first, .bool q.last, .string q.body])).run Try.prog w = .ok (.bool (!pcBeq p q)) w := by
  rw [run_neq_struct]
  have := equalIn_pc p q w
  simp only [Pc.val, Pc.row] at this
  rw [this]
  rfl
theorem eql_pc (p q : Pc) (w : World) : (binOp .eql 58 (.agg #[.int .i64 p.life, .int .i64 p.place, .bool p.first, .bool p.last, .string p.body]) (.agg #[.int .i64 q.life, .int .i64 q.place, .bool q.first, .bool q.last, .string q.body])).run Try.prog w = .ok (.bool (pcBeq p q)) w := by
  rw [run_eql_struct]
  have := equalIn_pc p q w
  simp only [Pc.val, Pc.row] at this
  rw [this]
  rfl
theorem guard_pc (op : BinOp) (x y : Operand) (xs ys : Array Value) (w : World) : (eqGuard op 58 x y (.agg xs) (.agg ys)).run Try.prog w = .ok () w :=
  run_eqGuard_agg w op _ x y xs ys (by kernel_rfl)

end Go.Proofs.Ytcpkmgmdhjhfaaa
