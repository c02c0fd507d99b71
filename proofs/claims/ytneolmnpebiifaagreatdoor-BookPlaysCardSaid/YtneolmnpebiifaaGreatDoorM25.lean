import Derived.Test.YtneolmnpebiifaaGreatDoorM24
set_option linter.unusedVariables false
set_option linter.unusedSimpArgs false
set_option maxRecDepth 100000
section
namespace Go.Ofp
open Go.RowKit
section
variable {P : Program} {w w0 : World} {F : List Nat} {L : List Ch} {ops : Array Oper} {rest : List Oper} {o : Oper} {a : Act} {Q : Exit → Act → World → Prop} {K : Act → World → Prop}
theorem op_build0w_st (hw : Region.wanted o (yielded ops a.tmps) = true) (hS : St w0 F L w) {t : TypeId} (ho : o.op = .buildSlice t 0 #[]) {e : TypeId} (ht : P.underlying t = some (.slice e)) {z : Value} {size bytes : Nat} (he : Elem P e z size bytes)
 (h : ∀ g w', St w0 F (Ch.row e size (.slice (some ⟨g, 0, none⟩) 0 0) 0 [] :: L) w' → K (a.put o.dst (.slice (some ⟨g, 0, none⟩) 0 0)) w') : if Region.wanted o (yielded ops a.tmps) = true then Oper.wp P o a w K Q else K (a.put o.dst undef) w := by
 rw [if_pos hw]
 have hr := run_build0 (P := P) w t e ht he
 unfold Oper.wp execOp
 simp only [ho, List.map_toArray, List.map_nil, Sem.run_bind, hr, Result.andThen_ok, Sem.run_pure]
 exact h _ _ (hS.build0 e size)
end
theorem St.re4 {w0 w : World} {F : List Nat} {a b c d : Ch} (h : St w0 F [a, b, c, d] w) : St w0 F [a, d, b, c] w := by
 refine h.pick (fun i => if i = 0 then 0 else if i = 1 then 3 else if i = 2 then 1 else 2) ?_ ?_
 · intro i x hx
   match i with
   | 0 => exact hx
   | 1 => exact hx
   | 2 => exact hx
   | 3 => exact hx
   | i + 4 => simp at hx
 · intro i j hi hj hij
   simp only [List.length_cons, List.length_nil] at hi hj
   split <;> split <;> (repeat' split) <;> omega
end Go.Ofp
end
