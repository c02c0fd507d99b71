/- Texts laid together: St5 St6 Gives St7 IdsMath Ids1 Ids2 Each Flat CardMath St8 St9. -/
import Derived.RangeFuncNested
import Derived.RangeFuncCalls
import Derived.RangeFuncLeaves
import Derived.RangeFuncBox
import Derived.Maps.AppendAt
import Derived.OwnWalkIn
import Derived.TacticsInMore
import Derived.LoopNIn
import Derived.LoopIn
import Derived.Shelf.Abstract
import Derived.Laws.BitsAllLaws
import Derived.Test.YtplgpbbghhlbjaaM1
section
/- Laws on elements that are handed on folded: a slice of one element built, a text copied into a block. -/
set_option linter.unusedSimpArgs false
set_option linter.unusedVariables false
namespace Go.Ofp
open Go.RowKit

theorem foldl_set (l : List Value) (k : Nat) (A : List Value) (B : List Value) (hB : B.length = l.length) (hk : A.length = k) :
    (l.zipIdx k).foldl (fun (cs : Array Value) (x : Value × Nat) => cs.setIfInBounds (0 + x.2) x.1) (A ++ B).toArray = (A ++ l).toArray := by
  induction l generalizing k A B with
  | nil => simp at hB; subst hB; simp
  | cons v l ih =>
    cases B with
    | nil => simp at hB
    | cons u B =>
      rw [List.zipIdx_cons, List.foldl_cons]
      have e : (A ++ u :: B).toArray.setIfInBounds (0 + k) v = ((A ++ [v]) ++ B).toArray := by
        simp only [Nat.zero_add, List.setIfInBounds_toArray]
        rw [← hk, List.set_append_right _ _ (Nat.le_refl _), Nat.sub_self, List.set_cons_zero]
        simp
      rw [e, ih (k + 1) (A ++ [v]) B (by simpa using hB) (by simp [hk])]
      simp

section
variable {P : Program} {w : World}
/-- A slice of one element. -/
theorem run_build1 (w : World) (t e : TypeId) (ht : P.underlying t = some (.slice e)) {z : Value} {size bytes : Nat} (he : Elem P e z size bytes) {v : Value} (hv : v.cells.size = size) (hs : size ≤ 16777216) :
    (Instr.buildSlice t 1 #[(0, v)]).run P w = .ok (.slice (some ⟨w.heap.size, 0, none⟩) 1 1) (w.alloc (.cells v.cells e)) := by
  obtain ⟨i, hi, hz, hsz, hby, hzs, hpos⟩ := he
  have h0 : ¬ (16777216 < i.size) := by omega
  have h1 : ¬ (i.size = 0) := by omega
  have hf : Instr.fill (fun j => some (j * i.size, i.size)) ((Array.range (1 * i.size)).map (z.cells[· % z.cells.size]!)) [(0, v)] = some v.cells := by
    have hsz2 : v.cells.size = i.size := by omega
    simp only [Instr.fill, Nat.zero_mul, Nat.zero_add, Array.size_map, Array.size_range, Nat.one_mul, hsz2]
    rw [if_neg (by simp)]
    have := foldl_set v.cells.toList 0 [] ((Array.range i.size).map (z.cells[· % z.cells.size]!)).toList (by simp [hsz2]) rfl
    simp only [List.nil_append, Array.toArray_toList] at this
    refine congrArg some ?_
    rw [← Array.foldl_toList]
    simpa using this
  rw [Nat.one_mul] at hf
  simp [Instr.buildSlice, run_underlying ht, sizeOf, typeInfo, zeroValue, hi, hz, h0, h1]
  rw [hf]
  rfl

variable {w0 : World} {F : List Nat} {L : List Ch} {ops : Array Oper} {rest : List Oper} {o : Oper} {a : Act} {Q : Exit → Act → World → Prop} {K : Act → World → Prop}

theorem St.blksl {g t : Nat} {cs : Array Value} (h : St w0 F L w) (i : Nat) (hi : L[i]? = some (Ch.blk g t cs)) : Sl w (some ⟨g, 0, none⟩) cs.toList := by
  intro j hj
  refine ⟨g, 0, rfl, ?_⟩
  rw [h.cell i hi, Nat.zero_add]
  simp

end
end Go.Ofp
end

section
/- Slices written out; what a callee hands back that made memory of its own. -/
set_option linter.unusedSimpArgs false
set_option linter.unusedVariables false
namespace Go.Ofp
open Go.RowKit

section
variable {P : Program} {w : World}
theorem run_build0 (w : World) (t e : TypeId) (ht : P.underlying t = some (.slice e)) {z : Value} {size bytes : Nat} (he : Elem P e z size bytes) :
    (Instr.buildSlice t 0 #[]).run P w = .ok (.slice (some ⟨w.heap.size, 0, none⟩) 0 0) (w.alloc (.cells #[] e)) := by
  obtain ⟨i, hi, hz, hsz, hby, hzs, hpos⟩ := he
  simp [Instr.buildSlice, run_underlying ht, sizeOf, typeInfo, hi, Instr.fill]
  rw [show (Array.map (fun (_ : Nat) => (default : Value)) (Array.range 0)) = #[] by simp]
  rfl

theorem own_build0 (w : World) (e : TypeId) (size : Nat) : (w.alloc (.cells #[] e)).ownsRow 0 e size (.slice (some ⟨w.heap.size, 0, none⟩) 0 0) 0 [] := by
  refine ⟨by simp, .inr ⟨w.heap.size, 0, #[], rfl, Nat.zero_le _, heap_alloc_new w _, Nat.le_refl _, by unfold maxLen; omega, by simp, by simp⟩⟩

variable {w0 : World} {F : List Nat} {L : List Ch} {ops : Array Oper} {rest : List Oper} {o : Oper} {a : Act} {Q : Exit → Act → World → Prop} {K : Act → World → Prop}

theorem St.build0 (hS : St w0 F L w) (e : TypeId) (size : Nat) : St w0 F (Ch.row e size (.slice (some ⟨w.heap.size, 0, none⟩) 0 0) 0 [] :: L) (w.alloc (.cells #[] e)) :=
  hS.push (Fr.alloc _ _) (own_build0 w e size) (by simp [Ch.row, Value.ownBlock])

/-- []T{}. -/
theorem wpList_build0_st (hS : St w0 F L w) (hgd : o.guard = none) {t : TypeId} (ho : o.op = .buildSlice t 0 #[]) {e : TypeId} (ht : P.underlying t = some (.slice e)) {z : Value} {size bytes : Nat} (he : Elem P e z size bytes)
    (h : ∀ g w', St w0 F (Ch.row e size (.slice (some ⟨g, 0, none⟩) 0 0) 0 [] :: L) w' → wpList P ops Q rest (a.put o.dst (.slice (some ⟨g, 0, none⟩) 0 0)) w') : wpList P ops Q (o :: rest) a w := by
  refine wpList_plain hgd fun K hK => ?_
  have hr := run_build0 (P := P) w t e ht he
  unfold Oper.wp execOp
  simp only [ho, List.map_toArray, List.map_nil, Sem.run_bind, hr, Result.andThen_ok, Sem.run_pure]
  exact hK _ _ (h _ _ (hS.build0 e size))

theorem op_buildr_st (hw : Region.wanted o (yielded ops a.tmps) = true) (hS : St w0 F L w) {t : TypeId} {n : Nat} {parts : List (Nat × Operand)} {vals : List (Nat × Value)} {e : TypeId} {cs : Array Value}
    (hr : ∀ w : World, (Instr.buildSlice t n vals.toArray).run P w = .ok (.slice (some ⟨w.heap.size, 0, none⟩) n n) (w.alloc (.cells cs e))) (ho : o.op = .buildSlice t n parts.toArray) (hx : parts.map (fun p => (p.1, a.eval p.2)) = vals)
    (h : ∀ g w', St w0 F (Ch.blk g e cs :: L) w' → K (a.put o.dst (.slice (some ⟨g, 0, none⟩) n n)) w') : if Region.wanted o (yielded ops a.tmps) = true then Oper.wp P o a w K Q else K (a.put o.dst undef) w := by
  rw [if_pos hw]
  subst hx
  have hr' := hr w
  unfold Oper.wp execOp
  simp only [ho, List.map_toArray, Sem.run_bind, hr', Result.andThen_ok, Sem.run_pure]
  exact h _ _ (hS.alloc cs e)

theorem St.blksl2 {g t : Nat} {xs : List Value} (h : St w0 F L w) (i : Nat) (hi : L[i]? = some (Ch.blk g t xs.toArray)) : Sl w (some ⟨g, 0, none⟩) xs := by
  have := h.blksl i hi
  simpa using this

/-- Behind a callee that made memory of its own and wrote to none that was there. -/
theorem St.made {A : List Ch} {w1 : World} (h : St w0 F L w) (k : St w [] A w1) : St w0 F (A ++ L) w1 := h.call (A := []) (A' := A) (w' := w1) L rfl k
end
end Go.Ofp
end

section
/- Ranges over an iterator that keeps its state in a block of its own: every round goes on. -/
set_option linter.unusedSimpArgs false
set_option linter.unusedVariables false
namespace Go.Ofp
open Go.RowKit
variable {F : Fence} {n : Nat} {P : Program}

/-- What an iterator's value does: yield is called with each of xs in turn, each round goes on; what it writes itself lies in block Bn. A round keeps what lies below n0. -/
def Gives (F : Fence) (n : Nat) (P : Program) (g : Nat) (lb : Array Value) (xs : List Value) (n0 Bn : Nat) (w : World) : Prop :=
  ∀ (l : Nat) (J : Nat → World → Prop) (W : World), Below n0 w W → (∀ k A B, J k A → A.grownBy B (some Bn) → J k B) →
    (∀ k x A, J k A → xs[k]? = some x → YieldAt F (n - 1) P l #[x] A fun e B => e = .returned (.bool true) ∧ J (k + 1) B ∧ Below n0 A B) →
    J 0 W → CallsIn F n P g (#[.func (.yield l) #[] #[]] ++ lb) W fun e B => (∃ v, e = .returned v) ∧ J xs.length B

theorem Gives.later {g : Nat} {lb : Array Value} {xs : List Value} {n0 Bn : Nat} {w w1 : World} (h : Gives F n P g lb xs n0 Bn w) (hb : Below n0 w w1) : Gives F n P g lb xs n0 Bn w1 :=
  fun l J W hW hJ hY h0 => h l J W (hb.trans hW) hJ hY h0

/-- What the caller keeps between two rounds abides what the iterator and the loop's own books turn. -/
def Abide (B Bn : Nat) (I : Nat → World → Prop) : Prop :=
  ∀ k A C row, I k A → A.grownBy C row → (∀ r, row = some r → r = Bn ∨ (B ≤ r ∧ ∃ o : Obj, A.heap[r]? = some o ∧ o.isCells = false)) → I k C

theorem Abide.and {B Bn : Nat} {I I' : Nat → World → Prop} (h : Abide B Bn I) (h' : Abide B Bn I') : Abide B Bn (fun k W => I k W ∧ I' k W) :=
  fun k A C row hs hg hr => ⟨h k A C row hs.1 hg hr, h' k A C row hs.2 hg hr⟩
theorem Abide.alloc {B Bn : Nat} {I : Nat → World → Prop} (h : Abide B Bn I) {k : Nat} {A : World} (o : Obj) (hs : I k A) : I k (A.alloc o) := h k A _ none hs (World.grownBy_alloc A o none) (fun r e => by cases e)
theorem Abide.put {B Bn : Nat} {I : Nat → World → Prop} (h : Abide B Bn I) {k l : Nat} {A : World} {o : Obj} (o' : Obj) (hs : I k A) (hB : B ≤ l) (hl : A.heap[l]? = some o) (ho : o.isCells = false) : I k (A.putObj l o') :=
  h k A _ (some l) hs (grownBy_putObj' A l o') (fun r e => by cases e; exact .inr ⟨hB, o, hl, ho⟩)
section
variable {g : Operand} {ps : Array Tmp} {assign body : Code} {Q : Exit → Act → World → Prop} {a : Act} {w : World}

end
end Go.Ofp
end

section
/- Slices of the call's own that are shifted and cut in place: a row seen as a block, copy, append and clear within it. -/
set_option linter.unusedSimpArgs false
set_option linter.unusedVariables false
namespace Go.Ofp
open Go.RowKit

section
variable {P : Program} {w w0 : World} {F : List Nat} {L : List Ch} {ops : Array Oper} {rest : List Oper} {o : Oper} {a : Act} {Q : Exit → Act → World → Prop} {K : Act → World → Prop}

/-- A row, seen as the block that it lies in. -/
theorem St.rowblk {e size n c g : Nat} {xs : List Value} (hS : St w0 F (Ch.row e size (.slice (some ⟨g, 0, none⟩) n c) n xs :: L) w) :
    ∃ cur : Array Value, cur.size = c * size ∧ cur.toList.take (n * size) = xs ∧ n ≤ c ∧ c ≤ maxLen ∧ St w0 F (Ch.blk g e cur :: L) w := by
  rcases (hS.get 0 rfl).2 with ⟨h, _⟩ | ⟨g', cap, cur, hv, _, hgc, hnc, hcm, hcs, htake⟩
  · cases h
  · cases hv
    exact ⟨cur, hcs, htake, hnc, hcm, hS.upd 0 rfl (Fr.refl [] w) (by simp) hgc (by simp [Ch.row, Ch.blk, Value.ownBlock])⟩
/-- The way back. -/
theorem St.blkrow2 {e n c g : Nat} {cur : Array Value} (hS : St w0 F (Ch.blk g e cur :: L) w) (size : Nat) (h1 : cur.size = c * size) (h2 : n ≤ c) (h3 : c ≤ maxLen) {xs : List Value} (hx : cur.toList.take (n * size) = xs) :
    St w0 F (Ch.row e size (.slice (some ⟨g, 0, none⟩) n c) n xs :: L) w := by
  subst hx
  refine hS.upd 0 rfl (Fr.refl [] w) (by simp) ⟨?_, .inr ⟨g, c, cur, rfl, Nat.zero_le _, hS.get 0 rfl, h2, h3, h1, rfl⟩⟩ (by simp [Ch.row, Ch.blk, Value.ownBlock])
  rw [List.length_take, Array.length_toList, h1]
  exact Nat.min_eq_left (Nat.mul_le_mul_right _ h2)

theorem zeroCells_len (z : Array Value) (n : Nat) : (Builtin.zeroCells z n).toList.length = n * z.size := by simp [Builtin.zeroCells]
theorem zeroCells_mem (z : Array Value) (n : Nat) (h : ∀ u ∈ z, u.oneCell' = true) (hz : 0 < z.size) : ∀ u ∈ (Builtin.zeroCells z n).toList, u.oneCell' = true := by
  intro u hu
  simp only [Builtin.zeroCells, Array.toList_map, List.mem_map] at hu
  obtain ⟨i, _, rfl⟩ := hu
  have hlt : i % z.size < z.size := Nat.mod_lt _ hz
  rw [getElem!_pos z (i % z.size) hlt]
  exact h _ (Array.getElem_mem hlt)

/-- clear of a part of a block. -/
theorem run_clear_blk (w : World) (t ty e : TypeId) (ht : P.underlying t = some (.slice e)) {z : Value} {size bytes : Nat} (he : Elem P e z size bytes) (hz1 : ∀ u ∈ z.cells, u.oneCell' = true)
    {g off n c : Nat} {cs : Array Value} (hw : Whole w g e cs) (hfit : off + n * size ≤ cs.size) (hn : 0 < n) :
    ∃ w' cs', (Builtin.clear_ #[t] ty #[.slice (some ⟨g, off, none⟩) n c]).run P w = .ok (.tuple #[]) w' ∧ Whole w' g e cs' ∧ cs'.size = cs.size ∧ cs'.toList.take off = cs.toList.take off ∧ Fr [g] w w' := by
  obtain ⟨i, hi, hz, rfl, rfl, hzs, hpos⟩ := he
  have hl := zeroCells_len z.cells n
  rw [hzs] at hl
  obtain ⟨k1, k2, k3⟩ := Whole.setCells (P := P) (j := off) hw (Builtin.zeroCells z.cells n).toList (by rw [hl]; exact hfit) (zeroCells_mem _ _ hz1 (by omega))
  rw [hl] at k1 k2 k3
  obtain ⟨n, rfl⟩ : ∃ k, n = k + 1 := ⟨n - 1, by omega⟩
  refine ⟨_, _, ?_, k2, ?_, ?_, k3⟩
  · simp [Builtin.clear_, run_underlying ht, typeInfo, zeroValue, hi, hz, k1]
  · simp only [List.size_toArray, List.length_append, List.length_take, List.length_drop, Array.length_toList, hl]
    omega
  · rw [List.append_assoc, List.take_append_of_le_length (by simp; omega), List.take_take, Nat.min_self]

theorem wpList_clearblk_st (i : Nat) {g off n c T : Nat} {cs : Array Value} (hS : St w0 F L w) (hi : L[i]? = some (Ch.blk g T cs)) (hgd : o.guard = none) {s : Operand} {t : TypeId} (ho : o.op = .call { callee := .builtin .clear, args := #[s], argTypes := #[t] })
    (ht : P.underlying t = some (.slice T)) {z : Value} {size bytes : Nat} (he : Elem P T z size bytes) (hz1 : ∀ u ∈ z.cells, u.oneCell' = true) (hs : a.eval s = .slice (some ⟨g, off, none⟩) n c) (hfit : off + n * size ≤ cs.size) (hn : 0 < n)
    (h : ∀ w' cs', cs'.size = cs.size → cs'.toList.take off = cs.toList.take off → St w0 F (L.set i (Ch.blk g T cs')) w' → wpList P ops Q rest (a.put o.dst (.tuple #[])) w') : wpList P ops Q (o :: rest) a w := by
  refine wpList_plain hgd fun K hK => ?_
  obtain ⟨w', cs', hr, h2, h3, h4, h5⟩ := run_clear_blk (c := c) w t o.type T ht he hz1 (hS.get i hi) hfit hn
  unfold Oper.wp execOp
  simp only [ho, resolve, invoke, builtin, Sem.run_bind, Sem.run_pure, Result.andThen_ok, List.map_toArray, List.map_cons, List.map_nil, hs, hr]
  exact hK _ _ (h w' cs' h3 h4 (hS.upd i hi h5 (by simp [Ch.blk]) h2 (by simp [Ch.blk])))
end
end Go.Ofp
end

section
/- Lists of numbers that rise: the plain law. -/
set_option linter.unusedSimpArgs false
set_option linter.unusedVariables false
namespace Go.Ofp.Ids

/-- Strictly rising. -/
def Up (l : List Int) : Prop := l.Pairwise (· < ·)
def Rise (l : List Int) : Prop := Up l ∧ ∀ x ∈ l, 1 ≤ x ∧ x < 1073741824

/-- Two lists that rise and have the same are the same. -/
theorem up_ext : ∀ (l m : List Int), Up l → Up m → (∀ x, x ∈ l ↔ x ∈ m) → l = m
  | [], [], _, _, _ => rfl
  | [], y :: m, _, _, h => by have := (h y).2 (by simp); simp at this
  | x :: l, [], _, _, h => by have := (h x).1 (by simp); simp at this
  | x :: l, y :: m, hl, hm, h => by
    unfold Up at hl hm
    rw [List.pairwise_cons] at hl hm
    have exy : x = y := by
      have h1 := (h x).1 (by simp)
      have h2 := (h y).2 (by simp)
      simp only [List.mem_cons] at h1 h2
      rcases h1 with h1 | h1
      · exact h1
      · rcases h2 with h2 | h2
        · exact h2.symm
        · have := hm.1 x h1; have := hl.1 y h2; omega
    subst exy
    rw [up_ext l m hl.2 hm.2]
    intro z
    constructor
    · intro hz
      have := (h z).1 (by simp [hz])
      simp only [List.mem_cons] at this
      rcases this with rfl | this
      · have := hl.1 z hz; omega
      · exact this
    · intro hz
      have := (h z).2 (by simp [hz])
      simp only [List.mem_cons] at this
      rcases this with rfl | this
      · have := hm.1 z hz; omega
      · exact this

/-- How many are below a number. -/
def place (l : List Int) (id : Int) : Nat := (l.filter (· < id)).length
def has (l : List Int) (id : Int) : Bool := l.contains id
def put (l : List Int) (id : Int) : List Int :=
  if id < 1 ∨ 1073741824 ≤ id ∨ has l id = true then l else l.take (place l id) ++ id :: l.drop (place l id)
def drop (l : List Int) (id : Int) : List Int := l.filter (· ≠ id)
def after (l : List Int) (id : Int) : List Int := l.filter (id < ·)
def both (a b : List Int) : List Int := a.filter fun x => has b x
def minus (a b : List Int) : List Int := a.filter fun x => !has b x
def either (a b : List Int) : List Int := b.foldl put a

@[simp] theorem has_iff (l : List Int) (x : Int) : has l x = true ↔ x ∈ l := by simp [has]

theorem up_filter (l : List Int) (p : Int → Bool) (h : Up l) : Up (l.filter p) := List.Pairwise.filter p h
theorem rise_filter (l : List Int) (p : Int → Bool) (h : Rise l) : Rise (l.filter p) :=
  ⟨up_filter l p h.1, fun x hx => h.2 x ((List.mem_filter.1 hx).1)⟩

theorem up_split (l : List Int) (id : Int) (h : Up l) : (l.filter (· < id)) = l.take (place l id) ∧ (l.filter (fun x => !decide (x < id))) = l.drop (place l id) := by
  unfold place
  induction l with
  | nil => simp
  | cons x l ih =>
    unfold Up at h
    rw [List.pairwise_cons] at h
    by_cases hx : x < id
    · have := ih h.2
      simp only [List.filter_cons, hx, decide_true, if_true, List.length_cons, List.take_succ_cons, List.drop_succ_cons, Bool.not_true, Bool.false_eq_true, if_false]
      exact ⟨congrArg _ this.1, this.2⟩
    · have e1 : l.filter (· < id) = [] := by
        rw [List.filter_eq_nil_iff]
        intro y hy
        have := h.1 y hy
        simp; omega
      have e2 : l.filter (fun x => !decide (x < id)) = l := by
        rw [List.filter_eq_self]
        intro y hy
        have := h.1 y hy
        simp; omega
      simp [hx, e1, e2]

theorem up_take_drop (l : List Int) (id : Int) (h : Up l) : (∀ x, x ∈ l.take (place l id) ↔ x ∈ l ∧ x < id) ∧ (∀ x, x ∈ l.drop (place l id) ↔ x ∈ l ∧ id ≤ x) := by
  obtain ⟨h1, h2⟩ := up_split l id h
  rw [← h1, ← h2]
  constructor
  · intro x; simp
  · intro x; simp

theorem mem_put (l : List Int) (id x : Int) (h : Up l) (h1 : 1 ≤ id) (h2 : id < 1073741824) : x ∈ put l id ↔ x = id ∨ x ∈ l := by
  unfold put
  split
  · rename_i hc
    rcases hc with hc | hc | hc
    · omega
    · omega
    · rw [has_iff] at hc
      constructor
      · exact Or.inr
      · rintro (rfl | h)
        · exact hc
        · exact h
  · obtain ⟨k1, k2⟩ := up_take_drop l id h
    simp only [List.mem_append, List.mem_cons, k1, k2]
    constructor
    · rintro (⟨h, _⟩ | h | ⟨h, _⟩)
      · exact .inr h
      · exact .inl h
      · exact .inr h
    · rintro (h | h)
      · exact .inr (.inl h)
      · by_cases hx : x < id
        · exact .inl ⟨h, hx⟩
        · exact .inr (.inr ⟨h, by omega⟩)

theorem up_put (l : List Int) (id : Int) (h : Up l) : Up (put l id) := by
  unfold put
  split
  · exact h
  · rename_i hc
    obtain ⟨k1, k2⟩ := up_take_drop l id h
    have hn : id ∉ l := by intro hm; exact hc (.inr (.inr ((has_iff _ _).2 hm)))
    unfold Up at h ⊢
    rw [List.pairwise_append]
    refine ⟨h.sublist (List.take_sublist _ _), ?_, ?_⟩
    · rw [List.pairwise_cons]
      refine ⟨fun y hy => ?_, h.sublist (List.drop_sublist _ _)⟩
      have := (k2 y).1 hy
      have : y ≠ id := fun e => hn (e ▸ this.1)
      omega
    · intro x hx y hy
      have hx' := (k1 x).1 hx
      simp only [List.mem_cons] at hy
      rcases hy with rfl | hy
      · exact hx'.2
      · have := (k2 y).1 hy; omega

theorem rise_put (l : List Int) (id : Int) (h : Rise l) : Rise (put l id) := by
  by_cases hv : 1 ≤ id ∧ id < 1073741824
  · refine ⟨up_put l id h.1, fun x hx => ?_⟩
    rcases (mem_put l id x h.1 hv.1 hv.2).1 hx with rfl | hx
    · exact hv
    · exact h.2 x hx
  · have : put l id = l := by unfold put; rw [if_pos]; omega
    rw [this]; exact h

theorem either_spec (b : List Int) : ∀ a, Rise a → Rise b → Rise (either a b) ∧ ∀ x, x ∈ either a b ↔ x ∈ a ∨ x ∈ b := by
  unfold either
  induction b with
  | nil => intro a ha _; exact ⟨ha, by simp⟩
  | cons y b ih =>
    intro a ha hb
    have hy := hb.2 y (by simp)
    have hb' : Rise b := ⟨(List.pairwise_cons.1 hb.1).2, fun x hx => hb.2 x (by simp [hx])⟩
    obtain ⟨h1, h2⟩ := ih (put a y) (rise_put a y ha) hb'
    refine ⟨h1, fun x => ?_⟩
    rw [List.foldl_cons, h2, mem_put a y x ha.1 hy.1 hy.2, List.mem_cons]
    constructor
    · rintro ((h | h) | h)
      · exact .inr (.inl h)
      · exact .inl h
      · exact .inr (.inr h)
    · rintro (h | h | h)
      · exact .inl (.inr h)
      · exact .inl (.inl h)
      · exact .inr h

/-- The program's way along two lists. -/
def takes (k : Bool) (x : Int) : List Int := if k then [x] else []
theorem rise_both {a b : List Int} (h : Rise a) : Rise (both a b) := rise_filter _ _ h
theorem rise_minus {a b : List Int} (h : Rise a) : Rise (minus a b) := rise_filter _ _ h

theorem parts (a b : List Int) (ha : Rise a) (hb : Rise b) : either (both a b) (either (minus a b) (minus b a)) = either b a := by
  obtain ⟨h1, h2⟩ := either_spec (minus b a) (minus a b) (rise_minus ha) (rise_minus hb)
  obtain ⟨h3, h4⟩ := either_spec _ (both a b) (rise_both ha) h1
  obtain ⟨h5, h6⟩ := either_spec a b hb ha
  refine up_ext _ _ h3.1 h5.1 fun x => ?_
  rw [h4, h2, h6]
  by_cases hx : x ∈ a <;> by_cases hy : x ∈ b <;> simp [both, minus, has, hx, hy]

end Go.Ofp.Ids
end

section
/- Lists of numbers: the document's looks at them. -/
set_option linter.unusedSimpArgs false
set_option linter.unusedVariables false
namespace Go.Proofs.Ytplgpbbghhlbjaa
open Go.RowKit Go.Ofp
set_option linter.unusedVariables false
set_option maxRecDepth 100000
set_option maxHeartbeats 4000000

def vi (x : Int) : Value := .int .i64 x

end Go.Proofs.Ytplgpbbghhlbjaa
end

section
/- Lists of numbers: the document's lists. -/
set_option linter.unusedSimpArgs false
set_option linter.unusedVariables false
namespace Go.Proofs.Ytplgpbbghhlbjaa
open Go.RowKit Go.Ofp
set_option linter.unusedVariables false
set_option maxRecDepth 100000
set_option maxHeartbeats 4000000

end Go.Proofs.Ytplgpbbghhlbjaa
end

section
/- The numbers of a set of bits, one behind the other. -/
set_option linter.unusedSimpArgs false
set_option linter.unusedVariables false
namespace Go.Ofp
/-- The numbers of a small set. -/
def bitsOf (n : Nat) : List Nat := (List.range 8).filter fun i => n.testBit i
end Go.Ofp
namespace Go.Proofs.Ytplgpbbghhlbjaa
open Go.RowKit Go.Ofp
set_option linter.unusedVariables false
set_option maxRecDepth 100000
set_option maxHeartbeats 4000000

/-- What the state's cell holds, as a number. -/
def held (b : Nat) (w : World) : Nat := match w.cell? ⟨b, 0, none⟩ with
  | some (.int _ z) => z.toNat
  | _ => 0

end Go.Proofs.Ytplgpbbghhlbjaa
end

section
/- Rows of one length, one behind the other. -/
set_option linter.unusedSimpArgs false
set_option linter.unusedVariables false
namespace Go.Ofp
theorem flat_len2 {α : Type} (k : Nat) (R : List (List α)) (h : ∀ r ∈ R, r.length = k) : R.flatten.length = R.length * k := by
  induction R with
  | nil => simp
  | cons r R ih => rw [List.flatten_cons, List.length_append, ih (fun x hx => h x (by simp [hx])), h r (by simp), List.length_cons, Nat.add_mul]; omega
theorem flat_drop {α : Type} (k : Nat) (R : List (List α)) (h : ∀ r ∈ R, r.length = k) (j : Nat) : R.flatten.drop (j * k) = (R.drop j).flatten := by
  induction R generalizing j with
  | nil => simp
  | cons r R ih =>
    cases j with
    | zero => simp
    | succ j =>
      have hr := h r (by simp)
      rw [List.flatten_cons, List.drop_succ_cons, ← ih (fun x hx => h x (by simp [hx])), List.drop_append, List.drop_of_length_le (by rw [hr, Nat.add_mul]; omega), List.nil_append, hr, show (j + 1) * k - k = j * k by rw [Nat.add_mul]; omega]
theorem flat_elem {α : Type} (k : Nat) (R : List (List α)) (h : ∀ r ∈ R, r.length = k) (j : Nat) (hj : j < R.length) : (R.flatten.drop (j * k)).take k = R[j] := by
  have hr := h _ (List.getElem_mem hj)
  rw [flat_drop k R h, List.drop_eq_getElem_cons hj, List.flatten_cons, List.take_left' hr]
end Go.Ofp
end

section
/- Cards: plain law. -/
set_option linter.unusedSimpArgs false
set_option linter.unusedVariables false
namespace Go.Ofp
/-- A field's value. -/
structure Vl where
  kind : Int
  n : Int
  s : ByteArray
deriving DecidableEq
/-- No value. -/
def Vl.zero : Vl := ⟨0, 0, ⟨#[]⟩⟩
/-- A card. -/
structure Cd where
  id : Int
  ver : Int
  lab : Nat
  f : List Vl
deriving DecidableEq
/-- A patch. -/
structure Pt where
  mask : Nat
  lab : Nat
  f : List Vl
deriving DecidableEq

/-- Some fields of f in the place of out's. -/
def putF (f : List Vl) (out : List Vl) (l : List Nat) : List Vl := l.foldl (fun o i => o.set i (f.getD i Vl.zero)) out
/-- No fields. -/
def noF : List Vl := List.replicate 8 Vl.zero
def Cd.proj (c : Cd) (m : Nat) : Cd := ⟨c.id, c.ver, if m.testBit 8 then c.lab else 0, putF c.f noF (bitsOf m)⟩
def Cd.of (c : Cd) (m : Nat) : Pt := ⟨m, (c.proj m).lab, (c.proj m).f⟩
def Cd.none (id : Int) : Cd := ⟨id, 0, 0, noF⟩
end Go.Ofp
namespace Go.Proofs.Ytplgpbbghhlbjaa
open Go.RowKit Go.Ofp
set_option linter.unusedVariables false
set_option maxRecDepth 100000
set_option maxHeartbeats 4000000

/-! ### In memory -/
theorem elem_value : Elem Try.prog 35 (.agg #[.int .i64 0, .int .i64 0, .string ⟨#[]⟩]) 3 32 := Elem.mk (by kernel_rfl) (by rfl) (by decide)
def vlRow (v : Vl) : List Value := [.int .i64 v.kind, .int .i64 v.n, .string v.s]
def flRow (f : List Vl) : List Value := (f.map vlRow).flatten
def cdRow (c : Cd) : List Value := .int .i64 c.id :: .int .i64 c.ver :: .int .u32 c.lab :: flRow c.f
def ptRow (p : Pt) : List Value := .int .u32 p.mask :: .int .u32 p.lab :: flRow p.f
theorem flRow_length (f : List Vl) : (flRow f).length = f.length * 3 := by
  induction f with
  | nil => rfl
  | cons v f ih => simp [flRow, vlRow] at ih ⊢; omega
theorem vl_each (f : List Vl) : ∀ r ∈ f.map vlRow, r.length = 3 := by
  intro r hr
  obtain ⟨v, _, rfl⟩ := List.mem_map.1 hr
  rfl
theorem vl_one (v : Vl) : (vlRow v).all Value.oneCell' = true := rfl
theorem fl_one (f : List Vl) : (flRow f).all Value.oneCell' = true := by
  rw [List.all_eq_true]
  intro x hx
  obtain ⟨r, hr, hxr⟩ := List.mem_flatten.1 hx
  obtain ⟨v, _, rfl⟩ := List.mem_map.1 hr
  exact List.all_eq_true.1 (vl_one v) x hxr
/-- One field, behind h cells. -/
theorem fl_at (H : List Value) (f : List Vl) (i : Nat) (v : Vl) (hv : f[i]? = some v) : ((H ++ flRow f).drop (H.length + i * 3)).take 3 = vlRow v := by
  obtain ⟨hi, rfl⟩ := List.getElem?_eq_some_iff.1 hv
  rw [List.drop_append, List.drop_of_length_le (by omega), List.nil_append, show H.length + i * 3 - H.length = i * 3 by omega, flRow, flat_elem 3 _ (vl_each f) i (by simpa using hi), List.getElem_map]
end Go.Proofs.Ytplgpbbghhlbjaa
end

section
/- Pieces in the midst: a call that writes to some of them, and what is left behind. -/
set_option linter.unusedSimpArgs false
set_option linter.unusedVariables false
namespace Go.Ofp
open Go.RowKit
theorem Sl.old {w0 w : World} {F : List Nat} {L : List Ch} {a : Option Addr} {xs : List Value} (hs : Sl w0 a xs) (h : St w0 F L w) (hap : 0 < xs.length → ∀ b o, a = some ⟨b, o, none⟩ → b ∉ F) : Sl w a xs := by
  intro i hi
  obtain ⟨b, off, e, hc⟩ := hs i hi
  exact ⟨b, off, e, h.old hc (hap (by omega) b off e)⟩
namespace St
variable {w0 w w' : World} {F : List Nat} {A B B' R L : List Ch} {c : Ch}
theorem dropM (h : St w0 F (A ++ (B ++ R)) w) : St w0 F (A ++ R) w := by
  refine h.pick (fun i => if i < A.length then i else B.length + i) ?_ ?_
  · intro i d hd
    by_cases hi : i < A.length
    · rw [List.getElem?_append_left hi] at hd
      simp only [hi, if_true]
      rw [List.getElem?_append_left hi]
      exact hd
    · rw [List.getElem?_append_right (by omega)] at hd
      simp only [hi, if_false]
      rw [List.getElem?_append_right (by omega), List.getElem?_append_right (by omega), show B.length + i - A.length - B.length = i - A.length by omega]
      exact hd
  · intro i j hi hj hij
    split <;> split <;> omega
theorem back (h : St w0 F (A ++ R) w) : St w0 F R w := by
  have := dropM (A := []) (B := A) (R := R) h
  exact this
end St
end Go.Ofp
end

section
/- A slice copied into a block of the call's own. -/
set_option linter.unusedSimpArgs false
set_option linter.unusedVariables false
namespace Go.Ofp
open Go.RowKit
/-- One piece alone. -/
theorem St.one {w0 w : World} {F : List Nat} {L : List Ch} {c : Ch} (h : St w0 F L w) (i : Nat) (hi : L[i]? = some c) : St w0 F [c] w := by
  refine h.pick (fun _ => i) ?_ ?_
  · intro q d hd
    match q with
    | 0 => simp at hd; subst hd; exact hi
    | q + 1 => simp at hd
  · intro p q hp hq hpq
    simp at hp hq
    omega
section
variable {P : Program} {w : World}
variable {w0 : World} {F : List Nat} {L : List Ch} {ops : Array Oper} {rest : List Oper} {o : Oper} {a : Act} {Q : Exit → Act → World → Prop} {K : Act → World → Prop}
/-- Cells that are read alone. -/
def Ch.read (g : Nat) (xs : List Value) : Ch where
  foot := [g]
  holds w := g < w.heap.size ∧ Sl w (some ⟨g, 0, none⟩) xs
  lt h x hx := by simp at hx; subst hx; exact h.1
  keep {w w'} h k := by
    have kg := k g (by simp)
    refine ⟨?_, fun i hi => ?_⟩
    · have h1 := Array.getElem?_eq_getElem h.1
      rw [← kg] at h1
      exact (Array.getElem?_eq_some_iff.1 h1).1
    · obtain ⟨b, off, e, hc⟩ := h.2 i hi
      cases e
      exact ⟨g, 0, rfl, by rw [World.cell?_of_block kg]; exact hc⟩
end
end Go.Ofp
end
