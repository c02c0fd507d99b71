/- Texts laid together: St9 Cut St10 St13 Card1. -/
import Derived.Test.YtajldelodnjmoaaM3
import Derived.Test.YtajldelodnjmoaaM4
import Derived.Test.YtajldelodnjmoaaM6
section
/- A slice copied into a block of the call's own. -/
set_option linter.unusedSimpArgs false
set_option linter.unusedVariables false
namespace Go.Ofp
open Go.RowKit
/-- One piece alone. -/
theorem St.one {w0 w : World} {F : List Nat} {L : List Ch} {c : Ch} (h : St w0 F L w) (i : Nat) (hi : L[i]? = some c) : St w0 F [c] w := by
  refine h.pick (fun _ => i) ?_ ?_
  · intro q d hd
    match q with
    | 0 => simp at hd; subst hd; exact hi
    | q + 1 => simp at hd
  · intro p q hp hq hpq
    simp at hp hq
    omega
/-- A region in which one block of the call's own is read, and is not written: it is the class. -/
theorem mixs_beginC {P : Program} {Q : Exit → Act → World → Prop} {a : Act} {w w0 : World} {F : List Nat} {L : List Ch} {c : Ch} (i : Nat) {id : Nat} {l : List Oper} (hm : P.follows .mixedOrders = true) (hS : St w0 F L w) (hi : L[i]? = some c)
    (h : ∀ w', St w0 F L w' → St w0 F [c] w' → wpAnyH P .any l.toArray Q (fun w' => St w0 F [c] w') l.length (Array.replicate l.length false) a w') : (Code.region id l.toArray true).wp P Q a w := by
  refine wp_region_held (S := fun w' => St w0 F [c] w') hm ?_
  simpa using h w.drew hS.drew (hS.drew.one i hi)
section
variable {P : Program} {w : World}
variable {w0 : World} {F : List Nat} {L : List Ch} {ops : Array Oper} {rest : List Oper} {o : Oper} {a : Act} {Q : Exit → Act → World → Prop} {K : Act → World → Prop}
/-- Cells that are read alone. -/
def Ch.read (g : Nat) (xs : List Value) : Ch where
  foot := [g]
  holds w := g < w.heap.size ∧ Sl w (some ⟨g, 0, none⟩) xs
  lt h x hx := by simp at hx; subst hx; exact h.1
  keep {w w'} h k := by
    have kg := k g (by simp)
    refine ⟨?_, fun i hi => ?_⟩
    · have h1 := Array.getElem?_eq_getElem h.1
      rw [← kg] at h1
      exact (Array.getElem?_eq_some_iff.1 h1).1
    · obtain ⟨b, off, e, hc⟩ := h.2 i hi
      cases e
      exact ⟨g, 0, rfl, by rw [World.cell?_of_block kg]; exact hc⟩
end
end Go.Ofp
end

section
/- A region that draws its order ends in one form: its tail is walked once. -/
set_option linter.unusedSimpArgs false
set_option linter.unusedVariables false
namespace Go.Ofp
open Go.RowKit
section
variable {P : Program} {c : Code} {Q : Exit → Act → World → Prop} {a : Act} {w w0 : World} {F : List Nat}
end
end Go.Ofp
end

section
/- A region in which the first two pieces are read and not written: they are the class. -/
set_option linter.unusedSimpArgs false
set_option linter.unusedVariables false
namespace Go.Ofp
open Go.RowKit
theorem St.fore2 {w0 w : World} {F : List Nat} {L : List Ch} {c d : Ch} (h : St w0 F (c :: d :: L) w) : St w0 F [c, d] w := St.fore (A := [c, d]) h
theorem St.fore3 {w0 w : World} {F : List Nat} {L : List Ch} {c d e : Ch} (h : St w0 F (c :: d :: e :: L) w) : St w0 F [c, d, e] w := St.fore (A := [c, d, e]) h
theorem mixs_beginC2 {P : Program} {Q : Exit → Act → World → Prop} {a : Act} {w w0 : World} {F : List Nat} {L : List Ch} {c d : Ch} {id : Nat} {l : List Oper} (hm : P.follows .mixedOrders = true) (hS : St w0 F (c :: d :: L) w)
    (h : ∀ w', St w0 F (c :: d :: L) w' → St w0 F [c, d] w' → wpAnyH P .any l.toArray Q (fun w' => St w0 F [c, d] w') l.length (Array.replicate l.length false) a w') : (Code.region id l.toArray true).wp P Q a w := by
  refine wp_region_held (S := fun w' => St w0 F [c, d] w') hm ?_
  simpa using h w.drew hS.drew hS.drew.fore2
/-- Some cells of a block of the call's own. -/
def Ch.part (g : Nat) (ks : List (Nat × Value)) : Ch where
  foot := [g]
  holds w := g < w.heap.size ∧ ∀ x ∈ ks, w.cell? ⟨g, x.1, none⟩ = some x.2
  lt h x hx := by simp at hx; subst hx; exact h.1
  keep {w w'} h k := by
    have e := k g (by simp)
    refine ⟨?_, fun x hx => by rw [World.cell?_of_block e]; exact h.2 x hx⟩
    have h1 := Array.getElem?_eq_getElem h.1
    rw [← e] at h1
    exact (Array.getElem?_eq_some_iff.1 h1).1
section
variable {P : Program} {c : Code} {Q : Exit → Act → World → Prop} {a : Act} {w w0 : World} {F : List Nat}
end
end Go.Ofp
end

section
/- A result that lies in a block of the call's own. -/
set_option linter.unusedSimpArgs false
set_option linter.unusedVariables false
namespace Go.Ofp
open Go.RowKit
theorem results_blk {P : Program} {fn : Func} {a : Tmp} {t : TypeId} (h : fn.results = #[.cell a t]) {tmps : Array Value} {g : Nat} (ht : tmps.getD a undef = .pointer (some ⟨g, 0, none⟩)) {w0 w : World} {F : List Nat} {L : List Ch} (hS : St w0 F L w) (i : Nat) {T : TypeId} {cs : Array Value}
    (hi : L[i]? = some (Ch.blk g T cs)) (hu : rowB P t = true) (hsz : sizeB P t cs.size = true) : (results fn tmps).run P w = .ok (.agg cs) w := by
  have hr := run_loadrow (P := P) (w := w) hu hsz (g := g) (j := 0) (vs := cs.toList) (by simp) (Whole.range (hS.get i hi) 0 fun k v hk => by simpa using hk)
  have hl : (loadVar t ⟨g, 0, none⟩).run P w = .ok (.agg cs) w := by simpa [Instr.loadAt, Instr.sureAddr] using hr
  have ht' : tmps[a]?.getD undef = .pointer (some ⟨g, 0, none⟩) := by simpa using ht
  unfold results
  simp [h, ht', asAddr, hl]

/-- A struct or an array of the call's own, read in whatever world of the class. -/
theorem St.krow {P : Program} {w0 w : World} {F : List Nat} {L : List Ch} (_ : St w0 F L w) (i : Nat) {g j T n : Nat} {cs : Array Value} {vs : List Value} (hi : L[i]? = some (Ch.blk g T cs)) {t : TypeId}
    (hu : rowB P t = true) (hsz : sizeB P t n = true) (hv : (cs.toList.drop j).take n = vs) (hl : vs.length = n) : ∀ s : Cl w0 F L, (Instr.loadAt t (.pointer (some ⟨g, j, none⟩))).run P s.1 = .ok (.agg vs.toArray) s.1 := by
  intro s
  subst hv
  exact run_loadrow hu hsz hl (Whole.range (s.2.get i hi) j (range_extract cs j n))
theorem take_loadrow {P : Program} {w0 : World} {F : List Nat} {L : List Ch} {o : Oper} {a : Act} {t : TypeId} {x : Operand} {p : Addr} {vs : Array Value} (s : Cl w0 F L) (ho : o.op = .load t x) (hx : a.eval x = .pointer (some p))
    (h : ∀ s : Cl w0 F L, (Instr.loadAt t (.pointer (some p))).run P s.1 = .ok (.agg vs) s.1) : (execOp a.eval o).run P s.1 = .ok (.value (.agg vs)) s.1 := by
  unfold execOp
  simp only [ho, hx, Sem.run_bind, h s, Result.andThen_ok, Sem.run_pure]

/-- A guarded operation outside of a drawn region, by the law of a drawn one. -/
theorem wpList_of_op {P : Program} {ops : Array Oper} {Q : Exit → Act → World → Prop} {a : Act} {w : World} {rest : List Oper} {o : Oper}
    (h : ∀ K : Act → World → Prop, (∀ a w, wpList P ops Q rest a w → K a w) → if Region.wanted o (yielded ops a.tmps) = true then Oper.wp P o a w K Q else K (a.put o.dst undef) w) : wpList P ops Q (o :: rest) a w :=
  wpList_step fun K hK => h K hK
/-- A struct or an array out of a block, guarded. -/
theorem wpList_gloadrow_st {P : Program} {w w0 : World} {F : List Nat} {L : List Ch} {ops : Array Oper} {rest : List Oper} {o : Oper} {a : Act} {Q : Exit → Act → World → Prop} (i : Nat) {g j T n : Nat} {cs : Array Value} {vs : List Value} (hS : St w0 F L w) (hi : L[i]? = some (Ch.blk g T cs)) (hw : Region.wanted o (yielded ops a.tmps) = true) {t : TypeId} {x : Operand} (ho : o.op = .load t x) (hx : a.eval x = .pointer (some ⟨g, j, none⟩))
    (hu : rowB P t = true) (hsz : sizeB P t n = true) (hv : (cs.toList.drop j).take n = vs) (hl : vs.length = n) (h : wpList P ops Q rest (a.put o.dst (.agg vs.toArray)) w) : wpList P ops Q (o :: rest) a w :=
  wpList_of_op fun K hK => op_loadrow_st hw i hS hi ho hx hu hsz hv hl (hK _ _ h)
theorem wpList_gload_st {P : Program} {w w0 : World} {F : List Nat} {L : List Ch} {ops : Array Oper} {rest : List Oper} {o : Oper} {a : Act} {Q : Exit → Act → World → Prop} (i : Nat) {g j T : Nat} {cs : Array Value} (hS : St w0 F L w) (hi : L[i]? = some (Ch.blk g T cs)) (hw : Region.wanted o (yielded ops a.tmps) = true) {t : TypeId} {x : Operand} (ho : o.op = .load t x) (hx : a.eval x = .pointer (some ⟨g, j, none⟩))
    (hu : scalarB P t = true) {v : Value} (hv : cs[j]? = some v) (h : wpList P ops Q rest (a.put o.dst v) w) : wpList P ops Q (o :: rest) a w :=
  wpList_of_op fun K hK => op_load_st hw i hS hi ho hx hu hv (hK _ _ h)
end Go.Ofp
end

section
/- Cards: Project, Of, Merge, Fresh. -/
set_option linter.unusedSimpArgs false
set_option linter.unusedVariables false
namespace Go.Proofs.Ytajldelodnjmoaa
open Go.RowKit Go.Ofp
set_option linter.unusedVariables false
set_option maxRecDepth 100000
set_option maxHeartbeats 4000000

theorem elem_card : Elem Try.prog 41 (.agg #[.int .i64 0, .int .i64 0, .int .u32 0, .int .i64 0, .int .i64 0, .string ⟨#[]⟩, .int .i64 0, .int .i64 0, .string ⟨#[]⟩, .int .i64 0, .int .i64 0, .string ⟨#[]⟩, .int .i64 0, .int .i64 0, .string ⟨#[]⟩, .int .i64 0, .int .i64 0, .string ⟨#[]⟩, .int .i64 0, .int .i64 0, .string ⟨#[]⟩, .int .i64 0, .int .i64 0, .string ⟨#[]⟩, .int .i64 0, .int .i64 0, .string ⟨#[]⟩]) 27 280 := Elem.mk (by kernel_rfl) (by rfl) (by decide)
end Go.Proofs.Ytajldelodnjmoaa
end
