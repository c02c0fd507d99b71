/- Texts laid together: St6 Gives St7 IdsMath Ids1. -/
import Derived.RangeFuncNested
import Derived.RangeFuncCalls
import Derived.RangeFuncLeaves
import Derived.RangeFuncBox
import Derived.Maps.AppendAt
import Derived.OwnWalkIn
import Derived.TacticsInMore
import Derived.LoopNIn
import Derived.LoopIn
import Derived.Test.YtajldelodnjmoaaM1
import Derived.Test.YtajldelodnjmoaaM2
section
/- Slices written out; what a callee hands back that made memory of its own. -/
set_option linter.unusedSimpArgs false
set_option linter.unusedVariables false
namespace Go.Ofp
open Go.RowKit

section
variable {P : Program} {w : World}
theorem run_build0 (w : World) (t e : TypeId) (ht : P.underlying t = some (.slice e)) {z : Value} {size bytes : Nat} (he : Elem P e z size bytes) :
    (Instr.buildSlice t 0 #[]).run P w = .ok (.slice (some ⟨w.heap.size, 0, none⟩) 0 0) (w.alloc (.cells #[] e)) := by
  obtain ⟨i, hi, hz, hsz, hby, hzs, hpos⟩ := he
  simp [Instr.buildSlice, run_underlying ht, sizeOf, typeInfo, hi, Instr.fill]
  rw [show (Array.map (fun (_ : Nat) => (default : Value)) (Array.range 0)) = #[] by simp]
  rfl

theorem own_build0 (w : World) (e : TypeId) (size : Nat) : (w.alloc (.cells #[] e)).ownsRow 0 e size (.slice (some ⟨w.heap.size, 0, none⟩) 0 0) 0 [] := by
  refine ⟨by simp, .inr ⟨w.heap.size, 0, #[], rfl, Nat.zero_le _, heap_alloc_new w _, Nat.le_refl _, by unfold maxLen; omega, by simp, by simp⟩⟩

variable {w0 : World} {F : List Nat} {L : List Ch} {ops : Array Oper} {rest : List Oper} {o : Oper} {a : Act} {Q : Exit → Act → World → Prop} {K : Act → World → Prop}

theorem St.build0 (hS : St w0 F L w) (e : TypeId) (size : Nat) : St w0 F (Ch.row e size (.slice (some ⟨w.heap.size, 0, none⟩) 0 0) 0 [] :: L) (w.alloc (.cells #[] e)) :=
  hS.push (Fr.alloc _ _) (own_build0 w e size) (by simp [Ch.row, Value.ownBlock])

/-- []T{}. -/
theorem wpList_build0_st (hS : St w0 F L w) (hgd : o.guard = none) {t : TypeId} (ho : o.op = .buildSlice t 0 #[]) {e : TypeId} (ht : P.underlying t = some (.slice e)) {z : Value} {size bytes : Nat} (he : Elem P e z size bytes)
    (h : ∀ g w', St w0 F (Ch.row e size (.slice (some ⟨g, 0, none⟩) 0 0) 0 [] :: L) w' → wpList P ops Q rest (a.put o.dst (.slice (some ⟨g, 0, none⟩) 0 0)) w') : wpList P ops Q (o :: rest) a w := by
  refine wpList_plain hgd fun K hK => ?_
  have hr := run_build0 (P := P) w t e ht he
  unfold Oper.wp execOp
  simp only [ho, List.map_toArray, List.map_nil, Sem.run_bind, hr, Result.andThen_ok, Sem.run_pure]
  exact hK _ _ (h _ _ (hS.build0 e size))

theorem St.blksl2 {g t : Nat} {xs : List Value} (h : St w0 F L w) (i : Nat) (hi : L[i]? = some (Ch.blk g t xs.toArray)) : Sl w (some ⟨g, 0, none⟩) xs := by
  have := h.blksl i hi
  simpa using this

/-- Behind a callee that made memory of its own and wrote to none that was there. -/
theorem St.made {A : List Ch} {w1 : World} (h : St w0 F L w) (k : St w [] A w1) : St w0 F (A ++ L) w1 := h.call (A := []) (A' := A) (w' := w1) L rfl k
end
end Go.Ofp
end

section
/- Ranges over an iterator that keeps its state in a block of its own: every round goes on. -/
set_option linter.unusedSimpArgs false
set_option linter.unusedVariables false
namespace Go.Ofp
open Go.RowKit
variable {F : Fence} {n : Nat} {P : Program}

/-- What the caller keeps between two rounds abides what the iterator and the loop's own books turn. -/
def Abide (B Bn : Nat) (I : Nat → World → Prop) : Prop :=
  ∀ k A C row, I k A → A.grownBy C row → (∀ r, row = some r → r = Bn ∨ (B ≤ r ∧ ∃ o : Obj, A.heap[r]? = some o ∧ o.isCells = false)) → I k C

theorem Abide.and {B Bn : Nat} {I I' : Nat → World → Prop} (h : Abide B Bn I) (h' : Abide B Bn I') : Abide B Bn (fun k W => I k W ∧ I' k W) :=
  fun k A C row hs hg hr => ⟨h k A C row hs.1 hg hr, h' k A C row hs.2 hg hr⟩
theorem Abide.alloc {B Bn : Nat} {I : Nat → World → Prop} (h : Abide B Bn I) {k : Nat} {A : World} (o : Obj) (hs : I k A) : I k (A.alloc o) := h k A _ none hs (World.grownBy_alloc A o none) (fun r e => by cases e)
theorem Abide.put {B Bn : Nat} {I : Nat → World → Prop} (h : Abide B Bn I) {k l : Nat} {A : World} {o : Obj} (o' : Obj) (hs : I k A) (hB : B ≤ l) (hl : A.heap[l]? = some o) (ho : o.isCells = false) : I k (A.putObj l o') :=
  h k A _ (some l) hs (grownBy_putObj' A l o') (fun r e => by cases e; exact .inr ⟨hB, o, hl, ho⟩)
section
variable {g : Operand} {ps : Array Tmp} {assign body : Code} {Q : Exit → Act → World → Prop} {a : Act} {w : World}

end
end Go.Ofp
end

section
/- Slices of the call's own that are shifted and cut in place: a row seen as a block, copy, append and clear within it. -/
set_option linter.unusedSimpArgs false
set_option linter.unusedVariables false
namespace Go.Ofp
open Go.RowKit

section
variable {P : Program} {w w0 : World} {F : List Nat} {L : List Ch} {ops : Array Oper} {rest : List Oper} {o : Oper} {a : Act} {Q : Exit → Act → World → Prop} {K : Act → World → Prop}

/-- A part of a block, as a slice. -/
theorem St.blkpart {g t : Nat} {cs : Array Value} (h : St w0 F L w) (i : Nat) (hi : L[i]? = some (Ch.blk g t cs)) (k m : Nat) : Sl w (some ⟨g, k, none⟩) ((cs.toList.drop k).take m) :=
  ((h.blksl i hi).drop k |> fun x => by rw [Nat.zero_add] at x; exact x.take m)

end
end Go.Ofp
end

section
/- Lists of numbers that rise: the plain law. -/
set_option linter.unusedSimpArgs false
set_option linter.unusedVariables false
namespace Go.Ofp.Ids

/-- Strictly rising. -/
def Up (l : List Int) : Prop := l.Pairwise (· < ·)
def Rise (l : List Int) : Prop := Up l ∧ ∀ x ∈ l, 1 ≤ x ∧ x < 1073741824

/-- Two lists that rise and have the same are the same. -/
theorem up_ext : ∀ (l m : List Int), Up l → Up m → (∀ x, x ∈ l ↔ x ∈ m) → l = m
  | [], [], _, _, _ => rfl
  | [], y :: m, _, _, h => by have := (h y).2 (by simp); simp at this
  | x :: l, [], _, _, h => by have := (h x).1 (by simp); simp at this
  | x :: l, y :: m, hl, hm, h => by
    unfold Up at hl hm
    rw [List.pairwise_cons] at hl hm
    have exy : x = y := by
      have h1 := (h x).1 (by simp)
      have h2 := (h y).2 (by simp)
      simp only [List.mem_cons] at h1 h2
      rcases h1 with h1 | h1
      · exact h1
      · rcases h2 with h2 | h2
        · exact h2.symm
        · have := hm.1 x h1; have := hl.1 y h2; omega
    subst exy
    rw [up_ext l m hl.2 hm.2]
    intro z
    constructor
    · intro hz
      have := (h z).1 (by simp [hz])
      simp only [List.mem_cons] at this
      rcases this with rfl | this
      · have := hl.1 z hz; omega
      · exact this
    · intro hz
      have := (h z).2 (by simp [hz])
      simp only [List.mem_cons] at this
      rcases this with rfl | this
      · have := hm.1 z hz; omega
      · exact this

/-- How many are below a number. -/
def place (l : List Int) (id : Int) : Nat := (l.filter (· < id)).length
def has (l : List Int) (id : Int) : Bool := l.contains id
def put (l : List Int) (id : Int) : List Int :=
  if id < 1 ∨ 1073741824 ≤ id ∨ has l id = true then l else l.take (place l id) ++ id :: l.drop (place l id)
def drop (l : List Int) (id : Int) : List Int := l.filter (· ≠ id)
def after (l : List Int) (id : Int) : List Int := l.filter (id < ·)
def both (a b : List Int) : List Int := a.filter fun x => has b x
def minus (a b : List Int) : List Int := a.filter fun x => !has b x
def either (a b : List Int) : List Int := b.foldl put a

@[simp] theorem has_iff (l : List Int) (x : Int) : has l x = true ↔ x ∈ l := by simp [has]

theorem up_filter (l : List Int) (p : Int → Bool) (h : Up l) : Up (l.filter p) := List.Pairwise.filter p h
theorem rise_filter (l : List Int) (p : Int → Bool) (h : Rise l) : Rise (l.filter p) :=
  ⟨up_filter l p h.1, fun x hx => h.2 x ((List.mem_filter.1 hx).1)⟩

theorem up_split (l : List Int) (id : Int) (h : Up l) : (l.filter (· < id)) = l.take (place l id) ∧ (l.filter (fun x => !decide (x < id))) = l.drop (place l id) := by
  unfold place
  induction l with
  | nil => simp
  | cons x l ih =>
    unfold Up at h
    rw [List.pairwise_cons] at h
    by_cases hx : x < id
    · have := ih h.2
      simp only [List.filter_cons, hx, decide_true, if_true, List.length_cons, List.take_succ_cons, List.drop_succ_cons, Bool.not_true, Bool.false_eq_true, if_false]
      exact ⟨congrArg _ this.1, this.2⟩
    · have e1 : l.filter (· < id) = [] := by
        rw [List.filter_eq_nil_iff]
        intro y hy
        have := h.1 y hy
        simp; omega
      have e2 : l.filter (fun x => !decide (x < id)) = l := by
        rw [List.filter_eq_self]
        intro y hy
        have := h.1 y hy
        simp; omega
      simp [hx, e1, e2]

theorem up_take_drop (l : List Int) (id : Int) (h : Up l) : (∀ x, x ∈ l.take (place l id) ↔ x ∈ l ∧ x < id) ∧ (∀ x, x ∈ l.drop (place l id) ↔ x ∈ l ∧ id ≤ x) := by
  obtain ⟨h1, h2⟩ := up_split l id h
  rw [← h1, ← h2]
  constructor
  · intro x; simp
  · intro x; simp

theorem mem_put (l : List Int) (id x : Int) (h : Up l) (h1 : 1 ≤ id) (h2 : id < 1073741824) : x ∈ put l id ↔ x = id ∨ x ∈ l := by
  unfold put
  split
  · rename_i hc
    rcases hc with hc | hc | hc
    · omega
    · omega
    · rw [has_iff] at hc
      constructor
      · exact Or.inr
      · rintro (rfl | h)
        · exact hc
        · exact h
  · obtain ⟨k1, k2⟩ := up_take_drop l id h
    simp only [List.mem_append, List.mem_cons, k1, k2]
    constructor
    · rintro (⟨h, _⟩ | h | ⟨h, _⟩)
      · exact .inr h
      · exact .inl h
      · exact .inr h
    · rintro (h | h)
      · exact .inr (.inl h)
      · by_cases hx : x < id
        · exact .inl ⟨h, hx⟩
        · exact .inr (.inr ⟨h, by omega⟩)

theorem up_put (l : List Int) (id : Int) (h : Up l) : Up (put l id) := by
  unfold put
  split
  · exact h
  · rename_i hc
    obtain ⟨k1, k2⟩ := up_take_drop l id h
    have hn : id ∉ l := by intro hm; exact hc (.inr (.inr ((has_iff _ _).2 hm)))
    unfold Up at h ⊢
    rw [List.pairwise_append]
    refine ⟨h.sublist (List.take_sublist _ _), ?_, ?_⟩
    · rw [List.pairwise_cons]
      refine ⟨fun y hy => ?_, h.sublist (List.drop_sublist _ _)⟩
      have := (k2 y).1 hy
      have : y ≠ id := fun e => hn (e ▸ this.1)
      omega
    · intro x hx y hy
      have hx' := (k1 x).1 hx
      simp only [List.mem_cons] at hy
      rcases hy with rfl | hy
      · exact hx'.2
      · have := (k2 y).1 hy; omega

theorem rise_put (l : List Int) (id : Int) (h : Rise l) : Rise (put l id) := by
  by_cases hv : 1 ≤ id ∧ id < 1073741824
  · refine ⟨up_put l id h.1, fun x hx => ?_⟩
    rcases (mem_put l id x h.1 hv.1 hv.2).1 hx with rfl | hx
    · exact hv
    · exact h.2 x hx
  · have : put l id = l := by unfold put; rw [if_pos]; omega
    rw [this]; exact h

theorem either_spec (b : List Int) : ∀ a, Rise a → Rise b → Rise (either a b) ∧ ∀ x, x ∈ either a b ↔ x ∈ a ∨ x ∈ b := by
  unfold either
  induction b with
  | nil => intro a ha _; exact ⟨ha, by simp⟩
  | cons y b ih =>
    intro a ha hb
    have hy := hb.2 y (by simp)
    have hb' : Rise b := ⟨(List.pairwise_cons.1 hb.1).2, fun x hx => hb.2 x (by simp [hx])⟩
    obtain ⟨h1, h2⟩ := ih (put a y) (rise_put a y ha) hb'
    refine ⟨h1, fun x => ?_⟩
    rw [List.foldl_cons, h2, mem_put a y x ha.1 hy.1 hy.2, List.mem_cons]
    constructor
    · rintro ((h | h) | h)
      · exact .inr (.inl h)
      · exact .inl h
      · exact .inr (.inr h)
    · rintro (h | h | h)
      · exact .inl (.inr h)
      · exact .inl (.inl h)
      · exact .inr h

/-- The program's way along two lists. -/
def takes (k : Bool) (x : Int) : List Int := if k then [x] else []
def takeAll (k : Bool) (l : List Int) : List Int := if k then l else []
def along (kl kb kr : Bool) : List Int → List Int → List Int
  | [], b => takeAll kr b
  | x :: a, [] => takeAll kl (x :: a)
  | x :: a, y :: b =>
    if x < y then takes kl x ++ along kl kb kr a (y :: b)
    else if y < x then takes kr y ++ along kl kb kr (x :: a) b
    else takes kb x ++ along kl kb kr a b
termination_by a b => a.length + b.length

theorem rise_both {a b : List Int} (h : Rise a) : Rise (both a b) := rise_filter _ _ h
theorem rise_minus {a b : List Int} (h : Rise a) : Rise (minus a b) := rise_filter _ _ h

theorem parts (a b : List Int) (ha : Rise a) (hb : Rise b) : either (both a b) (either (minus a b) (minus b a)) = either b a := by
  obtain ⟨h1, h2⟩ := either_spec (minus b a) (minus a b) (rise_minus ha) (rise_minus hb)
  obtain ⟨h3, h4⟩ := either_spec _ (both a b) (rise_both ha) h1
  obtain ⟨h5, h6⟩ := either_spec a b hb ha
  refine up_ext _ _ h3.1 h5.1 fun x => ?_
  rw [h4, h2, h6]
  by_cases hx : x ∈ a <;> by_cases hy : x ∈ b <;> simp [both, minus, has, hx, hy]

end Go.Ofp.Ids
end

section
/- Lists of numbers: the document's looks at them. -/
set_option linter.unusedSimpArgs false
set_option linter.unusedVariables false
namespace Go.Proofs.Ytajldelodnjmoaa
open Go.RowKit Go.Ofp
set_option linter.unusedVariables false
set_option maxRecDepth 100000
set_option maxHeartbeats 4000000

def vi (x : Int) : Value := .int .i64 x

theorem sl_int {w : World} {a : Option Addr} {l : List Int} (h : Sl w a (l.map vi)) (i : Nat) (hi : i < l.length) :
    ∃ b off, a = some ⟨b, off, none⟩ ∧ w.cell? ⟨b, off + i, none⟩ = some (.int .i64 (l[i])) := by
  obtain ⟨b, off, ha, hc⟩ := h i (by simpa using hi)
  exact ⟨b, off, ha, by simpa [vi] using hc⟩

end Go.Proofs.Ytajldelodnjmoaa
end
