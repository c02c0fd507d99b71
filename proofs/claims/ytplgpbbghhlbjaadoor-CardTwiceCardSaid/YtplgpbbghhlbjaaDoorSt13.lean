/- A result that lies in a block of the call's own. -/
import Derived.Test.YtplgpbbghhlbjaaDoorSt6
set_option linter.unusedSimpArgs false
set_option linter.unusedVariables false
namespace Go.Ofp
open Go.RowKit
theorem results_blk {P : Program} {fn : Func} {a : Tmp} {t : TypeId} (h : fn.results = #[.cell a t]) {tmps : Array Value} {g : Nat} (ht : tmps.getD a undef = .pointer (some ⟨g, 0, none⟩)) {w0 w : World} {F : List Nat} {L : List Ch} (hS : St w0 F L w) (i : Nat) {T : TypeId} {cs : Array Value}
    (hi : L[i]? = some (Ch.blk g T cs)) (hu : rowB P t = true) (hsz : sizeB P t cs.size = true) : (results fn tmps).run P w = .ok (.agg cs) w := by
  have hr := run_loadrow (P := P) (w := w) hu hsz (g := g) (j := 0) (vs := cs.toList) (by simp) (Whole.range (hS.get i hi) 0 fun k v hk => by simpa using hk)
  have hl : (loadVar t ⟨g, 0, none⟩).run P w = .ok (.agg cs) w := by simpa [Instr.loadAt, Instr.sureAddr] using hr
  have ht' : tmps[a]?.getD undef = .pointer (some ⟨g, 0, none⟩) := by simpa using ht
  unfold results
  simp [h, ht', asAddr, hl]

/-- A struct or an array of the call's own, read in whatever world of the class. -/
theorem St.krow {P : Program} {w0 w : World} {F : List Nat} {L : List Ch} (_ : St w0 F L w) (i : Nat) {g j T n : Nat} {cs : Array Value} {vs : List Value} (hi : L[i]? = some (Ch.blk g T cs)) {t : TypeId}
    (hu : rowB P t = true) (hsz : sizeB P t n = true) (hv : (cs.toList.drop j).take n = vs) (hl : vs.length = n) : ∀ s : Cl w0 F L, (Instr.loadAt t (.pointer (some ⟨g, j, none⟩))).run P s.1 = .ok (.agg vs.toArray) s.1 := by
  intro s
  subst hv
  exact run_loadrow hu hsz hl (Whole.range (s.2.get i hi) j (range_extract cs j n))
theorem take_loadrow {P : Program} {w0 : World} {F : List Nat} {L : List Ch} {o : Oper} {a : Act} {t : TypeId} {x : Operand} {p : Addr} {vs : Array Value} (s : Cl w0 F L) (ho : o.op = .load t x) (hx : a.eval x = .pointer (some p))
    (h : ∀ s : Cl w0 F L, (Instr.loadAt t (.pointer (some p))).run P s.1 = .ok (.agg vs) s.1) : (execOp a.eval o).run P s.1 = .ok (.value (.agg vs)) s.1 := by
  unfold execOp
  simp only [ho, hx, Sem.run_bind, h s, Result.andThen_ok, Sem.run_pure]

/-- A guarded operation outside of a drawn region, by the law of a drawn one. -/
theorem wpList_of_op {P : Program} {ops : Array Oper} {Q : Exit → Act → World → Prop} {a : Act} {w : World} {rest : List Oper} {o : Oper}
    (h : ∀ K : Act → World → Prop, (∀ a w, wpList P ops Q rest a w → K a w) → if Region.wanted o (yielded ops a.tmps) = true then Oper.wp P o a w K Q else K (a.put o.dst undef) w) : wpList P ops Q (o :: rest) a w :=
  wpList_step fun K hK => h K hK
/-- A struct or an array out of a block, guarded. -/
theorem wpList_gloadrow_st {P : Program} {w w0 : World} {F : List Nat} {L : List Ch} {ops : Array Oper} {rest : List Oper} {o : Oper} {a : Act} {Q : Exit → Act → World → Prop} (i : Nat) {g j T n : Nat} {cs : Array Value} {vs : List Value} (hS : St w0 F L w) (hi : L[i]? = some (Ch.blk g T cs)) (hw : Region.wanted o (yielded ops a.tmps) = true) {t : TypeId} {x : Operand} (ho : o.op = .load t x) (hx : a.eval x = .pointer (some ⟨g, j, none⟩))
    (hu : rowB P t = true) (hsz : sizeB P t n = true) (hv : (cs.toList.drop j).take n = vs) (hl : vs.length = n) (h : wpList P ops Q rest (a.put o.dst (.agg vs.toArray)) w) : wpList P ops Q (o :: rest) a w :=
  wpList_of_op fun K hK => op_loadrow_st hw i hS hi ho hx hu hsz hv hl (hK _ _ h)
theorem wpList_gload_st {P : Program} {w w0 : World} {F : List Nat} {L : List Ch} {ops : Array Oper} {rest : List Oper} {o : Oper} {a : Act} {Q : Exit → Act → World → Prop} (i : Nat) {g j T : Nat} {cs : Array Value} (hS : St w0 F L w) (hi : L[i]? = some (Ch.blk g T cs)) (hw : Region.wanted o (yielded ops a.tmps) = true) {t : TypeId} {x : Operand} (ho : o.op = .load t x) (hx : a.eval x = .pointer (some ⟨g, j, none⟩))
    (hu : scalarB P t = true) {v : Value} (hv : cs[j]? = some v) (h : wpList P ops Q rest (a.put o.dst v) w) : wpList P ops Q (o :: rest) a w :=
  wpList_of_op fun K hK => op_load_st hw i hS hi ho hx hu hv (hK _ _ h)
end Go.Ofp
