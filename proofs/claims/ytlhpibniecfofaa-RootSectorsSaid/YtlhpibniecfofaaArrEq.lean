/- Arrays of bytes compared. -/
import Derived.Test.YtlhpibniecfofaaKit
import Derived.ChangeKeysEq
set_option linter.unusedSimpArgs false
set_option linter.unusedVariables false
namespace Go.Ofp
open Go.RowKit
section
variable {P : Program}
theorem run_eqItems_bytes (w : World) (d : Nat) (e : TypeId) (he : P.plainKey e = true) (hu : P.underlying e = some (.int .u8)) (hc : P.cellsOf e = 1) (A B : List UInt8) (hl : A.length = B.length) :
    ∀ m k, k + m = A.length → (Op.eqItems (d + 1) e (P.cellsOf e) (A.map vb).toArray (B.map vb).toArray (List.range' k m)).run P w = .ok (A.drop k == B.drop k) w := by
  intro m
  induction m with
  | zero =>
    intro k hk
    rw [List.drop_of_length_le (by omega), List.drop_of_length_le (by omega)]
    simp [Op.eqItems]
  | succ m ih =>
    intro k hk
    rw [List.range'_succ]
    have ha : k < A.length := by omega
    have hb : k < B.length := by omega
    have p1 := run_part_plain (w := w) he (xs := (A.map vb).toArray) (off := k * P.cellsOf e) (v := vb A[k]) (by rw [hc, Nat.mul_one]; simp [ha])
    have p2 := run_part_plain (w := w) he (xs := (B.map vb).toArray) (off := k * P.cellsOf e) (v := vb B[k]) (by rw [hc, Nat.mul_one]; simp [hb])
    have p3 : (Op.equalIn (d + 1) e (vb A[k]) (vb B[k])).run P w = .ok (A[k] == B[k]) w := by
      have := run_equalIn_int (P := P) w d e .u8 .u8 (A[k].toNat : Int) (B[k].toNat : Int) hu
      refine this.trans ?_
      congr 1
      rw [Bool.eq_iff_iff]
      simp [← UInt8.toNat_inj]
      omega
    simp only [Op.eqItems, Sem.run_bind, p1, p2, p3, Result.andThen_ok]
    have hi := ih (k + 1) (by omega)
    rw [List.drop_eq_getElem_cons ha, List.drop_eq_getElem_cons hb, List.cons_beq_cons]
    cases A[k] == B[k]
    · rfl
    · simp only [Bool.true_and]
      exact hi
theorem run_neq_bytes (w : World) (t e : TypeId) (n : Nat) {i : TypeInfo} (ht : P.underlying t = some (.array n e)) (hi : P.info? e = some i) (he : P.plainKey e = true) (hu : P.underlying e = some (.int .u8)) (hc : P.cellsOf e = 1) (A B : List UInt8) (hA : A.length = n) (hB : B.length = n) :
    (binOp .neq t (.agg (A.map vb).toArray) (.agg (B.map vb).toArray)).run P w = .ok (.bool (!(A == B))) w := by
  rw [run_neq_struct, run_equalIn_array w 9999 _ _ ht hi]
  have := run_eqItems_bytes w 9998 e he hu hc A B (by omega) n 0 (by omega)
  rw [← List.range_eq_range', List.drop_zero, List.drop_zero] at this
  rw [this]
  rfl
end
end Go.Ofp
