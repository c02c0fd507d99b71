/- Texts laid together: St6 Gives St7 IdsMath Ids1. -/
import Derived.RangeFuncNested
import Derived.RangeFuncCalls
import Derived.RangeFuncLeaves
import Derived.RangeFuncBox
import Derived.Maps.AppendAt
import Derived.OwnWalkIn
import Derived.TacticsInMore
import Derived.LoopNIn
import Derived.LoopIn
import Derived.Test.YtajldelodnjmoaaM1
import Derived.Test.YtajldelodnjmoaaM2
section
/- Slices written out; what a callee hands back that made memory of its own. -/
set_option linter.unusedSimpArgs false
set_option linter.unusedVariables false
namespace Go.Ofp
open Go.RowKit

section
variable {P : Program} {w : World}
theorem run_build0 (w : World) (t e : TypeId) (ht : P.underlying t = some (.slice e)) {z : Value} {size bytes : Nat} (he : Elem P e z size bytes) :
    (Instr.buildSlice t 0 #[]).run P w = .ok (.slice (some ⟨w.heap.size, 0, none⟩) 0 0) (w.alloc (.cells #[] e)) := by
  obtain ⟨i, hi, hz, hsz, hby, hzs, hpos⟩ := he
  simp [Instr.buildSlice, run_underlying ht, sizeOf, typeInfo, hi, Instr.fill]
  rw [show (Array.map (fun (_ : Nat) => (default : Value)) (Array.range 0)) = #[] by simp]
  rfl

theorem own_build0 (w : World) (e : TypeId) (size : Nat) : (w.alloc (.cells #[] e)).ownsRow 0 e size (.slice (some ⟨w.heap.size, 0, none⟩) 0 0) 0 [] := by
  refine ⟨by simp, .inr ⟨w.heap.size, 0, #[], rfl, Nat.zero_le _, heap_alloc_new w _, Nat.le_refl _, by unfold maxLen; omega, by simp, by simp⟩⟩

variable {w0 : World} {F : List Nat} {L : List Ch} {ops : Array Oper} {rest : List Oper} {o : Oper} {a : Act} {Q : Exit → Act → World → Prop} {K : Act → World → Prop}

theorem St.build0 (hS : St w0 F L w) (e : TypeId) (size : Nat) : St w0 F (Ch.row e size (.slice (some ⟨w.heap.size, 0, none⟩) 0 0) 0 [] :: L) (w.alloc (.cells #[] e)) :=
  hS.push (Fr.alloc _ _) (own_build0 w e size) (by simp [Ch.row, Value.ownBlock])

/-- []T{}. -/
theorem wpList_build0_st (hS : St w0 F L w) (hgd : o.guard = none) {t : TypeId} (ho : o.op = .buildSlice t 0 #[]) {e : TypeId} (ht : P.underlying t = some (.slice e)) {z : Value} {size bytes : Nat} (he : Elem P e z size bytes)
    (h : ∀ g w', St w0 F (Ch.row e size (.slice (some ⟨g, 0, none⟩) 0 0) 0 [] :: L) w' → wpList P ops Q rest (a.put o.dst (.slice (some ⟨g, 0, none⟩) 0 0)) w') : wpList P ops Q (o :: rest) a w := by
  refine wpList_plain hgd fun K hK => ?_
  have hr := run_build0 (P := P) w t e ht he
  unfold Oper.wp execOp
  simp only [ho, List.map_toArray, List.map_nil, Sem.run_bind, hr, Result.andThen_ok, Sem.run_pure]
  exact hK _ _ (h _ _ (hS.build0 e size))

theorem op_build1c_st (hw : Region.wanted o (yielded ops a.tmps) = true) (hS : St w0 F L w) {t : TypeId} {x : Operand} (ho : o.op = .buildSlice t 1 #[(0, x)]) {e : TypeId} (ht : P.underlying t = some (.slice e)) {z : Value} {bytes : Nat} (he : Elem P e z 1 bytes)
    {v : Value} (hx : Value.scal (a.eval x) = some v)
    (h : ∀ g w', St w0 F (Ch.blk g e #[v] :: L) w' → K (a.put o.dst (.slice (some ⟨g, 0, none⟩) 1 1)) w') : if Region.wanted o (yielded ops a.tmps) = true then Oper.wp P o a w K Q else K (a.put o.dst undef) w := by
  rw [if_pos hw]
  obtain ⟨h1, h2, -⟩ := Value.scal_spec hx
  rw [h1] at h2
  have hr := run_build1 w t e ht he (v := v) (by rw [h2]; rfl) (by omega)
  unfold Oper.wp execOp
  simp only [ho, List.map_toArray, List.map_cons, List.map_nil, h1, Sem.run_bind, hr, Result.andThen_ok, Sem.run_pure]
  refine h _ _ ?_
  rw [← h2]
  exact hS.alloc v.cells e

theorem St.blksl2 {g t : Nat} {xs : List Value} (h : St w0 F L w) (i : Nat) (hi : L[i]? = some (Ch.blk g t xs.toArray)) : Sl w (some ⟨g, 0, none⟩) xs := by
  have := h.blksl i hi
  simpa using this

/-- Behind a callee that made memory of its own and wrote to none that was there. -/
theorem St.made {A : List Ch} {w1 : World} (h : St w0 F L w) (k : St w [] A w1) : St w0 F (A ++ L) w1 := h.call (A := []) (A' := A) (w' := w1) L rfl k
end
end Go.Ofp
end

section
/- Ranges over an iterator that keeps its state in a block of its own: every round goes on. -/
set_option linter.unusedSimpArgs false
set_option linter.unusedVariables false
namespace Go.Ofp
open Go.RowKit
variable {F : Fence} {n : Nat} {P : Program}

/-- What the caller keeps between two rounds abides what the iterator and the loop's own books turn. -/
def Abide (B Bn : Nat) (I : Nat → World → Prop) : Prop :=
  ∀ k A C row, I k A → A.grownBy C row → (∀ r, row = some r → r = Bn ∨ (B ≤ r ∧ ∃ o : Obj, A.heap[r]? = some o ∧ o.isCells = false)) → I k C

theorem Abide.and {B Bn : Nat} {I I' : Nat → World → Prop} (h : Abide B Bn I) (h' : Abide B Bn I') : Abide B Bn (fun k W => I k W ∧ I' k W) :=
  fun k A C row hs hg hr => ⟨h k A C row hs.1 hg hr, h' k A C row hs.2 hg hr⟩
theorem Abide.alloc {B Bn : Nat} {I : Nat → World → Prop} (h : Abide B Bn I) {k : Nat} {A : World} (o : Obj) (hs : I k A) : I k (A.alloc o) := h k A _ none hs (World.grownBy_alloc A o none) (fun r e => by cases e)
theorem Abide.put {B Bn : Nat} {I : Nat → World → Prop} (h : Abide B Bn I) {k l : Nat} {A : World} {o : Obj} (o' : Obj) (hs : I k A) (hB : B ≤ l) (hl : A.heap[l]? = some o) (ho : o.isCells = false) : I k (A.putObj l o') :=
  h k A _ (some l) hs (grownBy_putObj' A l o') (fun r e => by cases e; exact .inr ⟨hB, o, hl, ho⟩)
section
variable {g : Operand} {ps : Array Tmp} {assign body : Code} {Q : Exit → Act → World → Prop} {a : Act} {w : World}

end
end Go.Ofp
end

section
/- Slices of the call's own that are shifted and cut in place: a row seen as a block, copy, append and clear within it. -/
set_option linter.unusedSimpArgs false
set_option linter.unusedVariables false
namespace Go.Ofp
open Go.RowKit

section
variable {P : Program} {w w0 : World} {F : List Nat} {L : List Ch} {ops : Array Oper} {rest : List Oper} {o : Oper} {a : Act} {Q : Exit → Act → World → Prop} {K : Act → World → Prop}

/-- A part of a block, as a slice. -/
theorem St.blkpart {g t : Nat} {cs : Array Value} (h : St w0 F L w) (i : Nat) (hi : L[i]? = some (Ch.blk g t cs)) (k m : Nat) : Sl w (some ⟨g, k, none⟩) ((cs.toList.drop k).take m) :=
  ((h.blksl i hi).drop k |> fun x => by rw [Nat.zero_add] at x; exact x.take m)

end
end Go.Ofp
end

section
/- Lists of numbers that rise: the plain law. -/
set_option linter.unusedSimpArgs false
set_option linter.unusedVariables false
namespace Go.Ofp.Ids

/-- Does a list rise above a number, and stay below the bound? -/
def chkFrom : Int → List Int → Bool
  | _, [] => true
  | last, x :: l => decide (last < x) && (decide (x < 1073741824) && chkFrom x l)
def chk (l : List Int) : Bool := chkFrom 0 l

/-- How many are below a number. -/
def place (l : List Int) (id : Int) : Nat := (l.filter (· < id)).length
def has (l : List Int) (id : Int) : Bool := l.contains id
def put (l : List Int) (id : Int) : List Int :=
  if id < 1 ∨ 1073741824 ≤ id ∨ has l id = true then l else l.take (place l id) ++ id :: l.drop (place l id)
def drop (l : List Int) (id : Int) : List Int := l.filter (· ≠ id)
def after (l : List Int) (id : Int) : List Int := l.filter (id < ·)
@[simp] theorem has_iff (l : List Int) (x : Int) : has l x = true ↔ x ∈ l := by simp [has]

/-- The program's way along two lists. -/
def takes (k : Bool) (x : Int) : List Int := if k then [x] else []
def takeAll (k : Bool) (l : List Int) : List Int := if k then l else []
def along (kl kb kr : Bool) : List Int → List Int → List Int
  | [], b => takeAll kr b
  | x :: a, [] => takeAll kl (x :: a)
  | x :: a, y :: b =>
    if x < y then takes kl x ++ along kl kb kr a (y :: b)
    else if y < x then takes kr y ++ along kl kb kr (x :: a) b
    else takes kb x ++ along kl kb kr a b
termination_by a b => a.length + b.length

end Go.Ofp.Ids
end

section
/- Lists of numbers: the document's looks at them. -/
set_option linter.unusedSimpArgs false
set_option linter.unusedVariables false
namespace Go.Proofs.Ytajldelodnjmoaa
open Go.RowKit Go.Ofp
set_option linter.unusedVariables false
set_option maxRecDepth 100000
set_option maxHeartbeats 4000000

def vi (x : Int) : Value := .int .i64 x

theorem sl_int {w : World} {a : Option Addr} {l : List Int} (h : Sl w a (l.map vi)) (i : Nat) (hi : i < l.length) :
    ∃ b off, a = some ⟨b, off, none⟩ ∧ w.cell? ⟨b, off + i, none⟩ = some (.int .i64 (l[i])) := by
  obtain ⟨b, off, ha, hc⟩ := h i (by simpa using hi)
  exact ⟨b, off, ha, by simpa [vi] using hc⟩

end Go.Proofs.Ytajldelodnjmoaa
end
