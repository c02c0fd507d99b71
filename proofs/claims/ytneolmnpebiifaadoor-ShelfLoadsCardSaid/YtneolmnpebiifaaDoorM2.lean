/- Texts laid together: St5 St6 Gives St7 IdsMath Ids1 Ids2 Each Flat CardMath MapI MapK. -/
import Derived.RangeFuncNested
import Derived.RangeFuncCalls
import Derived.RangeFuncLeaves
import Derived.RangeFuncBox
import Derived.Maps.AppendAt
import Derived.OwnWalkIn
import Derived.TacticsInMore
import Derived.LoopNIn
import Derived.LoopIn
import Derived.Shelf.Abstract
import Derived.Laws.BitsAllLaws
import Derived.Maps.OwnSet
import Derived.Lib.SlKeysI
import Derived.Test.YtneolmnpebiifaaDoorM1
section
/- Laws on elements that are handed on folded: a slice of one element built, a text copied into a block. -/
set_option linter.unusedSimpArgs false
set_option linter.unusedVariables false
namespace Go.Ofp
open Go.RowKit

theorem foldl_set (l : List Value) (k : Nat) (A : List Value) (B : List Value) (hB : B.length = l.length) (hk : A.length = k) :
    (l.zipIdx k).foldl (fun (cs : Array Value) (x : Value × Nat) => cs.setIfInBounds (0 + x.2) x.1) (A ++ B).toArray = (A ++ l).toArray := by
  induction l generalizing k A B with
  | nil => simp at hB; subst hB; simp
  | cons v l ih =>
    cases B with
    | nil => simp at hB
    | cons u B =>
      rw [List.zipIdx_cons, List.foldl_cons]
      have e : (A ++ u :: B).toArray.setIfInBounds (0 + k) v = ((A ++ [v]) ++ B).toArray := by
        simp only [Nat.zero_add, List.setIfInBounds_toArray]
        rw [← hk, List.set_append_right _ _ (Nat.le_refl _), Nat.sub_self, List.set_cons_zero]
        simp
      rw [e, ih (k + 1) (A ++ [v]) B (by simpa using hB) (by simp [hk])]
      simp

section
variable {P : Program} {w : World}
/-- A slice of one element. -/
theorem run_build1 (w : World) (t e : TypeId) (ht : P.underlying t = some (.slice e)) {z : Value} {size bytes : Nat} (he : Elem P e z size bytes) {v : Value} (hv : v.cells.size = size) (hs : size ≤ 16777216) :
    (Instr.buildSlice t 1 #[(0, v)]).run P w = .ok (.slice (some ⟨w.heap.size, 0, none⟩) 1 1) (w.alloc (.cells v.cells e)) := by
  obtain ⟨i, hi, hz, hsz, hby, hzs, hpos⟩ := he
  have h0 : ¬ (16777216 < i.size) := by omega
  have h1 : ¬ (i.size = 0) := by omega
  have hf : Instr.fill (fun j => some (j * i.size, i.size)) ((Array.range (1 * i.size)).map (z.cells[· % z.cells.size]!)) [(0, v)] = some v.cells := by
    have hsz2 : v.cells.size = i.size := by omega
    simp only [Instr.fill, Nat.zero_mul, Nat.zero_add, Array.size_map, Array.size_range, Nat.one_mul, hsz2]
    rw [if_neg (by simp)]
    have := foldl_set v.cells.toList 0 [] ((Array.range i.size).map (z.cells[· % z.cells.size]!)).toList (by simp [hsz2]) rfl
    simp only [List.nil_append, Array.toArray_toList] at this
    refine congrArg some ?_
    rw [← Array.foldl_toList]
    simpa using this
  rw [Nat.one_mul] at hf
  simp [Instr.buildSlice, run_underlying ht, sizeOf, typeInfo, zeroValue, hi, hz, h0, h1]
  rw [hf]
  rfl

variable {w0 : World} {F : List Nat} {L : List Ch} {ops : Array Oper} {rest : List Oper} {o : Oper} {a : Act} {Q : Exit → Act → World → Prop} {K : Act → World → Prop}

/-- A slice of one element, built. -/
theorem op_build1_st (hw : Region.wanted o (yielded ops a.tmps) = true) (hS : St w0 F L w) {t : TypeId} {x : Operand} (ho : o.op = .buildSlice t 1 #[(0, x)]) {e : TypeId} (ht : P.underlying t = some (.slice e)) {z : Value} {size bytes : Nat} (he : Elem P e z size bytes)
    {cs : Array Value} (hx : a.eval x = .agg cs) (hv : cs.size = size) (hs : size ≤ 16777216)
    (h : ∀ g w', St w0 F (Ch.blk g e cs :: L) w' → K (a.put o.dst (.slice (some ⟨g, 0, none⟩) 1 1)) w') : if Region.wanted o (yielded ops a.tmps) = true then Oper.wp P o a w K Q else K (a.put o.dst undef) w := by
  rw [if_pos hw]
  have hr := run_build1 w t e ht he (v := .agg cs) hv hs
  unfold Oper.wp execOp
  simp only [ho, List.map_toArray, List.map_cons, List.map_nil, hx, Sem.run_bind, hr, Result.andThen_ok, Sem.run_pure]
  exact h _ _ (hS.alloc cs e)

theorem St.blksl {g t : Nat} {cs : Array Value} (h : St w0 F L w) (i : Nat) (hi : L[i]? = some (Ch.blk g t cs)) : Sl w (some ⟨g, 0, none⟩) cs.toList := by
  intro j hj
  refine ⟨g, 0, rfl, ?_⟩
  rw [h.cell i hi, Nat.zero_add]
  simp

end
end Go.Ofp
end

section
/- Slices written out; what a callee hands back that made memory of its own. -/
set_option linter.unusedSimpArgs false
set_option linter.unusedVariables false
namespace Go.Ofp
open Go.RowKit

section
variable {P : Program} {w : World}
theorem run_build0 (w : World) (t e : TypeId) (ht : P.underlying t = some (.slice e)) {z : Value} {size bytes : Nat} (he : Elem P e z size bytes) :
    (Instr.buildSlice t 0 #[]).run P w = .ok (.slice (some ⟨w.heap.size, 0, none⟩) 0 0) (w.alloc (.cells #[] e)) := by
  obtain ⟨i, hi, hz, hsz, hby, hzs, hpos⟩ := he
  simp [Instr.buildSlice, run_underlying ht, sizeOf, typeInfo, hi, Instr.fill]
  rw [show (Array.map (fun (_ : Nat) => (default : Value)) (Array.range 0)) = #[] by simp]
  rfl

theorem own_build0 (w : World) (e : TypeId) (size : Nat) : (w.alloc (.cells #[] e)).ownsRow 0 e size (.slice (some ⟨w.heap.size, 0, none⟩) 0 0) 0 [] := by
  refine ⟨by simp, .inr ⟨w.heap.size, 0, #[], rfl, Nat.zero_le _, heap_alloc_new w _, Nat.le_refl _, by unfold maxLen; omega, by simp, by simp⟩⟩

variable {w0 : World} {F : List Nat} {L : List Ch} {ops : Array Oper} {rest : List Oper} {o : Oper} {a : Act} {Q : Exit → Act → World → Prop} {K : Act → World → Prop}

theorem St.build0 (hS : St w0 F L w) (e : TypeId) (size : Nat) : St w0 F (Ch.row e size (.slice (some ⟨w.heap.size, 0, none⟩) 0 0) 0 [] :: L) (w.alloc (.cells #[] e)) :=
  hS.push (Fr.alloc _ _) (own_build0 w e size) (by simp [Ch.row, Value.ownBlock])

/-- []T{}. -/
theorem wpList_build0_st (hS : St w0 F L w) (hgd : o.guard = none) {t : TypeId} (ho : o.op = .buildSlice t 0 #[]) {e : TypeId} (ht : P.underlying t = some (.slice e)) {z : Value} {size bytes : Nat} (he : Elem P e z size bytes)
    (h : ∀ g w', St w0 F (Ch.row e size (.slice (some ⟨g, 0, none⟩) 0 0) 0 [] :: L) w' → wpList P ops Q rest (a.put o.dst (.slice (some ⟨g, 0, none⟩) 0 0)) w') : wpList P ops Q (o :: rest) a w := by
  refine wpList_plain hgd fun K hK => ?_
  have hr := run_build0 (P := P) w t e ht he
  unfold Oper.wp execOp
  simp only [ho, List.map_toArray, List.map_nil, Sem.run_bind, hr, Result.andThen_ok, Sem.run_pure]
  exact hK _ _ (h _ _ (hS.build0 e size))

theorem St.blksl2 {g t : Nat} {xs : List Value} (h : St w0 F L w) (i : Nat) (hi : L[i]? = some (Ch.blk g t xs.toArray)) : Sl w (some ⟨g, 0, none⟩) xs := by
  have := h.blksl i hi
  simpa using this

/-- Behind a callee that made memory of its own and wrote to none that was there. -/
theorem St.made {A : List Ch} {w1 : World} (h : St w0 F L w) (k : St w [] A w1) : St w0 F (A ++ L) w1 := h.call (A := []) (A' := A) (w' := w1) L rfl k
end
end Go.Ofp
end

section
/- Ranges over an iterator that keeps its state in a block of its own: every round goes on. -/
set_option linter.unusedSimpArgs false
set_option linter.unusedVariables false
namespace Go.Ofp
open Go.RowKit
variable {F : Fence} {n : Nat} {P : Program}

/-- What an iterator's value does: yield is called with each of xs in turn, each round goes on; what it writes itself lies in block Bn. A round keeps what lies below n0. -/
def Gives (F : Fence) (n : Nat) (P : Program) (g : Nat) (lb : Array Value) (xs : List Value) (n0 Bn : Nat) (w : World) : Prop :=
  ∀ (l : Nat) (J : Nat → World → Prop) (W : World), Below n0 w W → (∀ k A B, J k A → A.grownBy B (some Bn) → J k B) →
    (∀ k x A, J k A → xs[k]? = some x → YieldAt F (n - 1) P l #[x] A fun e B => e = .returned (.bool true) ∧ J (k + 1) B ∧ Below n0 A B) →
    J 0 W → CallsIn F n P g (#[.func (.yield l) #[] #[]] ++ lb) W fun e B => (∃ v, e = .returned v) ∧ J xs.length B

theorem Gives.later {g : Nat} {lb : Array Value} {xs : List Value} {n0 Bn : Nat} {w w1 : World} (h : Gives F n P g lb xs n0 Bn w) (hb : Below n0 w w1) : Gives F n P g lb xs n0 Bn w1 :=
  fun l J W hW hJ hY h0 => h l J W (hb.trans hW) hJ hY h0

/-- How a round's body ends: it goes on. -/
def goOn (n0 B : Nat) (I : Nat → World → Prop) (k : Nat) (W : World) : Exit → Act → World → Prop
  | .normal, _, W' => KeepsFrom B W W' ∧ Below n0 W W' ∧ I (k + 1) W'
  | _, _, _ => False

/-- What the caller keeps between two rounds abides what the iterator and the loop's own books turn. -/
def Abide (B Bn : Nat) (I : Nat → World → Prop) : Prop :=
  ∀ k A C row, I k A → A.grownBy C row → (∀ r, row = some r → r = Bn ∨ (B ≤ r ∧ ∃ o : Obj, A.heap[r]? = some o ∧ o.isCells = false)) → I k C

theorem Abide.and {B Bn : Nat} {I I' : Nat → World → Prop} (h : Abide B Bn I) (h' : Abide B Bn I') : Abide B Bn (fun k W => I k W ∧ I' k W) :=
  fun k A C row hs hg hr => ⟨h k A C row hs.1 hg hr, h' k A C row hs.2 hg hr⟩
theorem Abide.alloc {B Bn : Nat} {I : Nat → World → Prop} (h : Abide B Bn I) {k : Nat} {A : World} (o : Obj) (hs : I k A) : I k (A.alloc o) := h k A _ none hs (World.grownBy_alloc A o none) (fun r e => by cases e)
theorem Abide.put {B Bn : Nat} {I : Nat → World → Prop} (h : Abide B Bn I) {k l : Nat} {A : World} {o : Obj} (o' : Obj) (hs : I k A) (hB : B ≤ l) (hl : A.heap[l]? = some o) (ho : o.isCells = false) : I k (A.putObj l o') :=
  h k A _ (some l) hs (grownBy_putObj' A l o') (fun r e => by cases e; exact .inr ⟨hB, o, hl, ho⟩)
theorem abide_fr {B Bn : Nat} {w0 : World} (hB : w0.heap.size ≤ B) : Abide B Bn (fun _ W => Fr [Bn] w0 W) := fun k A C row hs hg hr =>
  ⟨hg.os.trans hs.os, hg.tape.trans hs.tape, hg.output.trans hs.output, Nat.le_trans hs.size hg.size, fun j hj hn =>
    (hg.block j (Nat.lt_of_lt_of_le hj hs.size) (fun e => by
      rcases hr j e.symm with rfl | h
      · simp at hn
      · omega)).trans (hs.block j hj hn)⟩
theorem Fr.belowN {F : List Nat} {w0 A C : World} (h : Fr F w0 A) (k : Below w0.heap.size A C) : Fr F w0 C :=
  ⟨k.os.trans h.os, k.tape.trans h.tape, k.output.trans h.output, Nat.le_trans h.size k.size, fun j hj hn => (k.block j hj).trans (h.block j hj hn)⟩
theorem St.ofRow {F : List Nat} {w0 w : World} {e size n : Nat} {v : Value} {xs : List Value} (h : Fr F w0 w) (ho : w.ownsRow w0.heap.size e size v n xs) : St w0 F [Ch.row e size v n xs] w :=
  ⟨h, fun i c hc => by
      cases i with
      | zero => simp at hc; subst hc; exact ⟨ownsRow_zero ho, fun g hg => .inr (ownsRow_foot ho g hg)⟩
      | succ i => simp at hc,
    fun i j c' d hc hd hij => by cases i <;> cases j <;> simp_all⟩
/-- A box of the caller's own that holds a slice of the caller's own abides. -/
theorem abide_held {B Bn b base : Nat} {t e : TypeId} {size : Nat} {f : Nat → List Value} (h1 : Bn < base) (h2 : base ≤ b) (h3 : b < B) : Abide B Bn (fun k W => ∃ v, Boxed W b t v ∧ W.ownsRow base e size v k (f k)) := by
  rintro k A C row ⟨v, hv, hr⟩ hg hrow
  refine ⟨v, hv.kept hg (fun e' => ?_), hr.kept hg ?_⟩
  · rcases hrow b e'.symm with h | h <;> omega
  · rcases hr.2 with ⟨rfl, _⟩ | ⟨g, cap, cur, rfl, hbg, hgb, _⟩
    · exact .inl rfl
    · refine .inr fun e' => ?_
      rcases hrow g (by simpa [Value.ownBlock] using e'.symm) with h | ⟨_, o, ho, hc⟩
      · omega
      · rw [hgb] at ho
        cases ho
        cases hc
section
variable {g : Operand} {ps : Array Tmp} {assign body : Code} {Q : Exit → Act → World → Prop} {a : Act} {w : World}

/-- The statement 'for x := range seq { .. }' whose rounds all go on. -/
theorem wpIn_gives (hro : F.round = none) (h1 : 1 ≤ n) {gf : Nat} {lb : Array Value} (hg : a.eval g = .func (.func gf) #[] lb) (hFg : F.fn gf) (eg : ∀ args w, (callFunc gf args).run P w = .ok (.enter gf args) w)
    {xs : List Value} {n0 Bn : Nat} (hs : Gives F (n - 1) P gf lb xs n0 Bn w) (hBn : Bn < w.heap.size) (hn0 : n0 ≤ w.heap.size) (hps : ps.size = 1)
    (I : Nat → World → Prop) (hI : Abide w.heap.size Bn I) (h0 : I 0 w) (a1 : Value → Act)
    (hassign : ∀ (l : Nat) (x : Value) (W : World) (K : Act → World → Prop), x ∈ xs → K (a1 x) W →
      assign.wpIn (F.inRound l) (n - 1 - 1) P (Exit.then K (fun _ _ _ => False)) { tmps := (ps.zip #[x]).foldl (fun t (p, v) => t.setIfInBounds p v) a.tmps, defers := [] } W)
    (hbody : ∀ (l k : Nat) (x : Value) (W : World), I k W → xs[k]? = some x → body.wpIn (F.inRound l) (n - 1 - 1) P (goOn n0 w.heap.size I k W) (a1 x) W)
    (hdone : ∀ (D : Nat) (W : World), w.heap.size ≤ D → I xs.length W → W.heap[D]? = some (.deferred (some [])) → Q .normal { a with defers := { target := .collected D, args := #[] } :: a.defers } W) :
    (Code.rangeFunc g ps assign body).wpIn F n P Q a w := by
  refine wpIn_rangeFunc fun fn hfn => ?_
  rw [hro]
  obtain ⟨b, hb⟩ : ∃ b, w.heap.size = b := ⟨_, rfl⟩
  obtain ⟨rec, hrec⟩ : ∃ rec : LoopState → Loop, rec = fun st => { state := st, pending := none, fn, tmps := a.tmps, params := ps, assign, body, defers := b } := ⟨_, rfl⟩
  have hst : ∀ s, (rec s).state = s := fun s => by rw [hrec]
  have hto : ∀ s t, { rec s with state := t } = rec t := fun s t => by rw [hrec]
  have hto2 : ∀ s t, { rec s with state := t, pending := none } = rec t := fun s t => by rw [hrec]
  have hpe : ∀ s, (rec s).pending = none := fun s => by rw [hrec]
  obtain ⟨W1, hW1⟩ : ∃ W1, (w.alloc (.deferred (some []))).alloc (.loop (rec .ready)) = W1 := ⟨_, rfl⟩
  have hL1 : W1.heap[b + 1]? = some (.loop (rec .ready)) := by
    rw [← hW1, ← hb]
    have := World.alloc_heap_new (w.alloc (.deferred (some []))) (.loop (rec .ready))
    rwa [World.size_alloc] at this
  have hD1 : W1.heap[b]? = some (.deferred (some [])) := by
    rw [← hW1, ← hb]
    exact (Below.heap_alloc _ _ _ (by simp)).trans (World.alloc_heap_new w _)
  have hI1 : I 0 W1 := by
    rw [← hW1]
    exact hI.alloc _ (hI.alloc _ h0)
  have hB1 : Below n0 w W1 := by
    rw [← hW1]
    exact ((Below.refl _ w).alloc hn0 _).alloc (by simp; omega) _
  have hput : ∀ (A : World) (o o' : Obj), A.heap[b + 1]? = some o → o.isCells = false → Below n0 A (A.putObj (b + 1) o') := fun A o o' h1 h2 =>
    (Below.refl n0 A).grown (grownBy_putObj' A _ o') (by have := (Array.getElem?_eq_some_iff.1 h1).1; omega) (fun j e => by cases e; omega)
  refine ⟨b + 1, [{ target := .collected b, args := #[] }], W1, { target := .fn (.func gf) lb, args := #[.func (.yield (b + 1)) #[] #[]] }, W1, gf,
    #[.func (.yield (b + 1)) #[] #[]] ++ lb, W1, ?_, ?_, ?_, ?_, fun _ => h1, ?_⟩
  · rw [← hW1, hrec, ← hb]
    exact run_enterLoop_outer _ _ _ _ _
  · simp only [resolve, hg]
    simp [go_sem]
  · intro f' hf'
    simp [Target.leads] at hf'
    subst hf'
    exact hFg
  · simp [invoke, go_sem, eg]
  refine (hs (b + 1) (fun k W => I k W ∧ W.heap[b + 1]? = some (.loop (rec .ready)) ∧ W.heap[b]? = some (.deferred (some []))) W1 hB1 ?_ ?_ ⟨hI1, hL1, hD1⟩).mono ?_
  · rintro k A C ⟨h2, h3, h4⟩ hgr
    exact ⟨hI k A C _ h2 hgr (fun r e => by cases e; exact .inl rfl), (hgr.block _ (Array.getElem?_eq_some_iff.1 h3).1 (by simp; omega)).trans h3, (hgr.block _ (Array.getElem?_eq_some_iff.1 h4).1 (by simp; omega)).trans h4⟩
  · rintro k x A ⟨h2, h3, h4⟩ hx
    have hlt := (Array.getElem?_eq_some_iff.1 h3).1
    have hy := run_yield (P := P) (args := #[x]) h3 (by rw [hrec]; simp [hps])
    rw [hrec] at hy
    refine ⟨fn, _, assign, body, hy, roundIn_of_wpIn hfn (hassign _ x A _ (List.mem_of_getElem? hx) ⟨_, run_beginRound h3 (hst _), ?_⟩)⟩
    rw [hto]
    have h5 : (A.putObj (b + 1) (.loop (rec .busy))).heap[b + 1]? = some (.loop (rec .busy)) := World.putObj_heap_same hlt
    have h6 : (A.putObj (b + 1) (.loop (rec .busy))).heap[b]? = some (.deferred (some [])) := (World.putObj_heap_other (by omega)).trans h4
    refine wpIn_mono (hbody _ k x _ (hI.put _ h2 (by omega) h3 rfl) hx) ?_
    rintro e a3 C hp
    cases e with
    | normal =>
      obtain ⟨k1, k2, k3⟩ := hp
      have h7 := k1.same _ _ (by omega) h5 rfl
      have h8 := k1.same _ _ (by omega) h6 rfl
      have hr := run_endRound (P := P) none h7
      rw [Option.isNone_none, if_pos rfl, hto2] at hr
      exact ⟨_, _, hr, rfl, ⟨hI.put _ k3 (by omega) h7 rfl, World.putObj_heap_same (Array.getElem?_eq_some_iff.1 h7).1, (World.putObj_heap_other (by omega)).trans h8⟩,
        ((hput A _ _ h3 rfl).trans k2).trans (hput C _ _ h7 rfl)⟩
    | ret => exact hp.elim
    | exit id => exact hp.elim
    | goto t => exact hp.elim
    | panic c => exact hp.elim
    | outgrown => exact hp.elim
  · rintro e W2 ⟨⟨v, rfl⟩, h2, h3, h4⟩
    refine ⟨none, _, ?_, hdone b _ (by omega) (hI.put (.loop (rec .exhausted)) h2 (by omega) h3 rfl) ((World.putObj_heap_other (by omega)).trans h4)⟩
    have := run_endLoop (P := P) h3 (by rw [hst]; simp)
    rw [hrec] at this ⊢
    exact this
end
end Go.Ofp
end

section
/- Slices of the call's own that are shifted and cut in place: a row seen as a block, copy, append and clear within it. -/
set_option linter.unusedSimpArgs false
set_option linter.unusedVariables false
namespace Go.Ofp
open Go.RowKit

section
variable {P : Program} {w w0 : World} {F : List Nat} {L : List Ch} {ops : Array Oper} {rest : List Oper} {o : Oper} {a : Act} {Q : Exit → Act → World → Prop} {K : Act → World → Prop}

/-- A row, seen as the block that it lies in. -/
theorem St.rowblk {e size n c g : Nat} {xs : List Value} (hS : St w0 F (Ch.row e size (.slice (some ⟨g, 0, none⟩) n c) n xs :: L) w) :
    ∃ cur : Array Value, cur.size = c * size ∧ cur.toList.take (n * size) = xs ∧ n ≤ c ∧ c ≤ maxLen ∧ St w0 F (Ch.blk g e cur :: L) w := by
  rcases (hS.get 0 rfl).2 with ⟨h, _⟩ | ⟨g', cap, cur, hv, _, hgc, hnc, hcm, hcs, htake⟩
  · cases h
  · cases hv
    exact ⟨cur, hcs, htake, hnc, hcm, hS.upd 0 rfl (Fr.refl [] w) (by simp) hgc (by simp [Ch.row, Ch.blk, Value.ownBlock])⟩
/-- The way back. -/
theorem St.blkrow2 {e n c g : Nat} {cur : Array Value} (hS : St w0 F (Ch.blk g e cur :: L) w) (size : Nat) (h1 : cur.size = c * size) (h2 : n ≤ c) (h3 : c ≤ maxLen) {xs : List Value} (hx : cur.toList.take (n * size) = xs) :
    St w0 F (Ch.row e size (.slice (some ⟨g, 0, none⟩) n c) n xs :: L) w := by
  subst hx
  refine hS.upd 0 rfl (Fr.refl [] w) (by simp) ⟨?_, .inr ⟨g, c, cur, rfl, Nat.zero_le _, hS.get 0 rfl, h2, h3, h1, rfl⟩⟩ (by simp [Ch.row, Ch.blk, Value.ownBlock])
  rw [List.length_take, Array.length_toList, h1]
  exact Nat.min_eq_left (Nat.mul_le_mul_right _ h2)

/-- A part of a block, as a slice. -/
theorem St.blkpart {g t : Nat} {cs : Array Value} (h : St w0 F L w) (i : Nat) (hi : L[i]? = some (Ch.blk g t cs)) (k m : Nat) : Sl w (some ⟨g, k, none⟩) ((cs.toList.drop k).take m) :=
  ((h.blksl i hi).drop k |> fun x => by rw [Nat.zero_add] at x; exact x.take m)

theorem zeroCells_len (z : Array Value) (n : Nat) : (Builtin.zeroCells z n).toList.length = n * z.size := by simp [Builtin.zeroCells]
theorem zeroCells_mem (z : Array Value) (n : Nat) (h : ∀ u ∈ z, u.oneCell' = true) (hz : 0 < z.size) : ∀ u ∈ (Builtin.zeroCells z n).toList, u.oneCell' = true := by
  intro u hu
  simp only [Builtin.zeroCells, Array.toList_map, List.mem_map] at hu
  obtain ⟨i, _, rfl⟩ := hu
  have hlt : i % z.size < z.size := Nat.mod_lt _ hz
  rw [getElem!_pos z (i % z.size) hlt]
  exact h _ (Array.getElem_mem hlt)

/-- clear of a part of a block. -/
theorem run_clear_blk (w : World) (t ty e : TypeId) (ht : P.underlying t = some (.slice e)) {z : Value} {size bytes : Nat} (he : Elem P e z size bytes) (hz1 : ∀ u ∈ z.cells, u.oneCell' = true)
    {g off n c : Nat} {cs : Array Value} (hw : Whole w g e cs) (hfit : off + n * size ≤ cs.size) (hn : 0 < n) :
    ∃ w' cs', (Builtin.clear_ #[t] ty #[.slice (some ⟨g, off, none⟩) n c]).run P w = .ok (.tuple #[]) w' ∧ Whole w' g e cs' ∧ cs'.size = cs.size ∧ cs'.toList.take off = cs.toList.take off ∧ Fr [g] w w' := by
  obtain ⟨i, hi, hz, rfl, rfl, hzs, hpos⟩ := he
  have hl := zeroCells_len z.cells n
  rw [hzs] at hl
  obtain ⟨k1, k2, k3⟩ := Whole.setCells (P := P) (j := off) hw (Builtin.zeroCells z.cells n).toList (by rw [hl]; exact hfit) (zeroCells_mem _ _ hz1 (by omega))
  rw [hl] at k1 k2 k3
  obtain ⟨n, rfl⟩ : ∃ k, n = k + 1 := ⟨n - 1, by omega⟩
  refine ⟨_, _, ?_, k2, ?_, ?_, k3⟩
  · simp [Builtin.clear_, run_underlying ht, typeInfo, zeroValue, hi, hz, k1]
  · simp only [List.size_toArray, List.length_append, List.length_take, List.length_drop, Array.length_toList, hl]
    omega
  · rw [List.append_assoc, List.take_append_of_le_length (by simp; omega), List.take_take, Nat.min_self]

theorem wpList_clearblk_st (i : Nat) {g off n c T : Nat} {cs : Array Value} (hS : St w0 F L w) (hi : L[i]? = some (Ch.blk g T cs)) (hgd : o.guard = none) {s : Operand} {t : TypeId} (ho : o.op = .call { callee := .builtin .clear, args := #[s], argTypes := #[t] })
    (ht : P.underlying t = some (.slice T)) {z : Value} {size bytes : Nat} (he : Elem P T z size bytes) (hz1 : ∀ u ∈ z.cells, u.oneCell' = true) (hs : a.eval s = .slice (some ⟨g, off, none⟩) n c) (hfit : off + n * size ≤ cs.size) (hn : 0 < n)
    (h : ∀ w' cs', cs'.size = cs.size → cs'.toList.take off = cs.toList.take off → St w0 F (L.set i (Ch.blk g T cs')) w' → wpList P ops Q rest (a.put o.dst (.tuple #[])) w') : wpList P ops Q (o :: rest) a w := by
  refine wpList_plain hgd fun K hK => ?_
  obtain ⟨w', cs', hr, h2, h3, h4, h5⟩ := run_clear_blk (c := c) w t o.type T ht he hz1 (hS.get i hi) hfit hn
  unfold Oper.wp execOp
  simp only [ho, resolve, invoke, builtin, Sem.run_bind, Sem.run_pure, Result.andThen_ok, List.map_toArray, List.map_cons, List.map_nil, hs, hr]
  exact hK _ _ (h w' cs' h3 h4 (hS.upd i hi h5 (by simp [Ch.blk]) h2 (by simp [Ch.blk])))
end
end Go.Ofp
end

section
/- Lists of numbers that rise: the plain law. -/
set_option linter.unusedSimpArgs false
set_option linter.unusedVariables false
namespace Go.Ofp.Ids

/-- Strictly rising. -/
def Up (l : List Int) : Prop := l.Pairwise (· < ·)
def Rise (l : List Int) : Prop := Up l ∧ ∀ x ∈ l, 1 ≤ x ∧ x < 1073741824

/-- Two lists that rise and have the same are the same. -/
theorem up_ext : ∀ (l m : List Int), Up l → Up m → (∀ x, x ∈ l ↔ x ∈ m) → l = m
  | [], [], _, _, _ => rfl
  | [], y :: m, _, _, h => by have := (h y).2 (by simp); simp at this
  | x :: l, [], _, _, h => by have := (h x).1 (by simp); simp at this
  | x :: l, y :: m, hl, hm, h => by
    unfold Up at hl hm
    rw [List.pairwise_cons] at hl hm
    have exy : x = y := by
      have h1 := (h x).1 (by simp)
      have h2 := (h y).2 (by simp)
      simp only [List.mem_cons] at h1 h2
      rcases h1 with h1 | h1
      · exact h1
      · rcases h2 with h2 | h2
        · exact h2.symm
        · have := hm.1 x h1; have := hl.1 y h2; omega
    subst exy
    rw [up_ext l m hl.2 hm.2]
    intro z
    constructor
    · intro hz
      have := (h z).1 (by simp [hz])
      simp only [List.mem_cons] at this
      rcases this with rfl | this
      · have := hl.1 z hz; omega
      · exact this
    · intro hz
      have := (h z).2 (by simp [hz])
      simp only [List.mem_cons] at this
      rcases this with rfl | this
      · have := hm.1 z hz; omega
      · exact this

/-- How many are below a number. -/
def place (l : List Int) (id : Int) : Nat := (l.filter (· < id)).length
def has (l : List Int) (id : Int) : Bool := l.contains id
def put (l : List Int) (id : Int) : List Int :=
  if id < 1 ∨ 1073741824 ≤ id ∨ has l id = true then l else l.take (place l id) ++ id :: l.drop (place l id)
def drop (l : List Int) (id : Int) : List Int := l.filter (· ≠ id)
def after (l : List Int) (id : Int) : List Int := l.filter (id < ·)
def both (a b : List Int) : List Int := a.filter fun x => has b x
def minus (a b : List Int) : List Int := a.filter fun x => !has b x
def either (a b : List Int) : List Int := b.foldl put a

@[simp] theorem has_iff (l : List Int) (x : Int) : has l x = true ↔ x ∈ l := by simp [has]

theorem up_filter (l : List Int) (p : Int → Bool) (h : Up l) : Up (l.filter p) := List.Pairwise.filter p h
theorem rise_filter (l : List Int) (p : Int → Bool) (h : Rise l) : Rise (l.filter p) :=
  ⟨up_filter l p h.1, fun x hx => h.2 x ((List.mem_filter.1 hx).1)⟩

theorem up_split (l : List Int) (id : Int) (h : Up l) : (l.filter (· < id)) = l.take (place l id) ∧ (l.filter (fun x => !decide (x < id))) = l.drop (place l id) := by
  unfold place
  induction l with
  | nil => simp
  | cons x l ih =>
    unfold Up at h
    rw [List.pairwise_cons] at h
    by_cases hx : x < id
    · have := ih h.2
      simp only [List.filter_cons, hx, decide_true, if_true, List.length_cons, List.take_succ_cons, List.drop_succ_cons, Bool.not_true, Bool.false_eq_true, if_false]
      exact ⟨congrArg _ this.1, this.2⟩
    · have e1 : l.filter (· < id) = [] := by
        rw [List.filter_eq_nil_iff]
        intro y hy
        have := h.1 y hy
        simp; omega
      have e2 : l.filter (fun x => !decide (x < id)) = l := by
        rw [List.filter_eq_self]
        intro y hy
        have := h.1 y hy
        simp; omega
      simp [hx, e1, e2]

theorem up_take_drop (l : List Int) (id : Int) (h : Up l) : (∀ x, x ∈ l.take (place l id) ↔ x ∈ l ∧ x < id) ∧ (∀ x, x ∈ l.drop (place l id) ↔ x ∈ l ∧ id ≤ x) := by
  obtain ⟨h1, h2⟩ := up_split l id h
  rw [← h1, ← h2]
  constructor
  · intro x; simp
  · intro x; simp

theorem mem_put (l : List Int) (id x : Int) (h : Up l) (h1 : 1 ≤ id) (h2 : id < 1073741824) : x ∈ put l id ↔ x = id ∨ x ∈ l := by
  unfold put
  split
  · rename_i hc
    rcases hc with hc | hc | hc
    · omega
    · omega
    · rw [has_iff] at hc
      constructor
      · exact Or.inr
      · rintro (rfl | h)
        · exact hc
        · exact h
  · obtain ⟨k1, k2⟩ := up_take_drop l id h
    simp only [List.mem_append, List.mem_cons, k1, k2]
    constructor
    · rintro (⟨h, _⟩ | h | ⟨h, _⟩)
      · exact .inr h
      · exact .inl h
      · exact .inr h
    · rintro (h | h)
      · exact .inr (.inl h)
      · by_cases hx : x < id
        · exact .inl ⟨h, hx⟩
        · exact .inr (.inr ⟨h, by omega⟩)

theorem up_put (l : List Int) (id : Int) (h : Up l) : Up (put l id) := by
  unfold put
  split
  · exact h
  · rename_i hc
    obtain ⟨k1, k2⟩ := up_take_drop l id h
    have hn : id ∉ l := by intro hm; exact hc (.inr (.inr ((has_iff _ _).2 hm)))
    unfold Up at h ⊢
    rw [List.pairwise_append]
    refine ⟨h.sublist (List.take_sublist _ _), ?_, ?_⟩
    · rw [List.pairwise_cons]
      refine ⟨fun y hy => ?_, h.sublist (List.drop_sublist _ _)⟩
      have := (k2 y).1 hy
      have : y ≠ id := fun e => hn (e ▸ this.1)
      omega
    · intro x hx y hy
      have hx' := (k1 x).1 hx
      simp only [List.mem_cons] at hy
      rcases hy with rfl | hy
      · exact hx'.2
      · have := (k2 y).1 hy; omega

theorem rise_put (l : List Int) (id : Int) (h : Rise l) : Rise (put l id) := by
  by_cases hv : 1 ≤ id ∧ id < 1073741824
  · refine ⟨up_put l id h.1, fun x hx => ?_⟩
    rcases (mem_put l id x h.1 hv.1 hv.2).1 hx with rfl | hx
    · exact hv
    · exact h.2 x hx
  · have : put l id = l := by unfold put; rw [if_pos]; omega
    rw [this]; exact h

theorem either_spec (b : List Int) : ∀ a, Rise a → Rise b → Rise (either a b) ∧ ∀ x, x ∈ either a b ↔ x ∈ a ∨ x ∈ b := by
  unfold either
  induction b with
  | nil => intro a ha _; exact ⟨ha, by simp⟩
  | cons y b ih =>
    intro a ha hb
    have hy := hb.2 y (by simp)
    have hb' : Rise b := ⟨(List.pairwise_cons.1 hb.1).2, fun x hx => hb.2 x (by simp [hx])⟩
    obtain ⟨h1, h2⟩ := ih (put a y) (rise_put a y ha) hb'
    refine ⟨h1, fun x => ?_⟩
    rw [List.foldl_cons, h2, mem_put a y x ha.1 hy.1 hy.2, List.mem_cons]
    constructor
    · rintro ((h | h) | h)
      · exact .inr (.inl h)
      · exact .inl h
      · exact .inr (.inr h)
    · rintro (h | h | h)
      · exact .inl (.inr h)
      · exact .inl (.inl h)
      · exact .inr h

/-- The program's way along two lists. -/
def takes (k : Bool) (x : Int) : List Int := if k then [x] else []
def takeAll (k : Bool) (l : List Int) : List Int := if k then l else []
def along (kl kb kr : Bool) : List Int → List Int → List Int
  | [], b => takeAll kr b
  | x :: a, [] => takeAll kl (x :: a)
  | x :: a, y :: b =>
    if x < y then takes kl x ++ along kl kb kr a (y :: b)
    else if y < x then takes kr y ++ along kl kb kr (x :: a) b
    else takes kb x ++ along kl kb kr a b
termination_by a b => a.length + b.length

theorem rise_both {a b : List Int} (h : Rise a) : Rise (both a b) := rise_filter _ _ h
theorem rise_minus {a b : List Int} (h : Rise a) : Rise (minus a b) := rise_filter _ _ h

theorem parts (a b : List Int) (ha : Rise a) (hb : Rise b) : either (both a b) (either (minus a b) (minus b a)) = either b a := by
  obtain ⟨h1, h2⟩ := either_spec (minus b a) (minus a b) (rise_minus ha) (rise_minus hb)
  obtain ⟨h3, h4⟩ := either_spec _ (both a b) (rise_both ha) h1
  obtain ⟨h5, h6⟩ := either_spec a b hb ha
  refine up_ext _ _ h3.1 h5.1 fun x => ?_
  rw [h4, h2, h6]
  by_cases hx : x ∈ a <;> by_cases hy : x ∈ b <;> simp [both, minus, has, hx, hy]

end Go.Ofp.Ids
end

section
/- Lists of numbers: the document's looks at them. -/
set_option linter.unusedSimpArgs false
set_option linter.unusedVariables false
namespace Go.Proofs.YtneolmnpebiifaaDoor
open Go.RowKit Go.Ofp
set_option linter.unusedVariables false
set_option maxRecDepth 100000
set_option maxHeartbeats 4000000

def vi (x : Int) : Value := .int .i64 x

theorem sl_int {w : World} {a : Option Addr} {l : List Int} (h : Sl w a (l.map vi)) (i : Nat) (hi : i < l.length) :
    ∃ b off, a = some ⟨b, off, none⟩ ∧ w.cell? ⟨b, off + i, none⟩ = some (.int .i64 (l[i])) := by
  obtain ⟨b, off, ha, hc⟩ := h i (by simpa using hi)
  exact ⟨b, off, ha, by simpa [vi] using hc⟩

end Go.Proofs.YtneolmnpebiifaaDoor
end

section
/- Lists of numbers: the document's lists. -/
set_option linter.unusedSimpArgs false
set_option linter.unusedVariables false
namespace Go.Proofs.YtneolmnpebiifaaDoor
open Go.RowKit Go.Ofp
set_option linter.unusedVariables false
set_option maxRecDepth 100000
set_option maxHeartbeats 4000000

/-- A list that a callee made. -/
def irow (a : Option Addr) (c : Nat) (l : List Int) : Ch := Ch.row 3 1 (.slice a l.length c) l.length (l.map vi)
def IntsRet (l : List Int) (w : World) (e : Ending) (w' : World) : Prop := ∃ a c, e = .returned (.slice a l.length c) ∧ l.length ≤ c ∧ c ≤ maxLen ∧ St w [] [irow a c l] w'

end Go.Proofs.YtneolmnpebiifaaDoor
end

section
/- The numbers of a set of bits, one behind the other. -/
set_option linter.unusedSimpArgs false
set_option linter.unusedVariables false
namespace Go.Ofp
/-- The library's table. -/
def tzTab : List UInt8 := [0, 1, 28, 2, 29, 14, 24, 3, 30, 22, 20, 15, 25, 17, 4, 8, 31, 27, 13, 23, 21, 19, 16, 7, 26, 12, 18, 6, 11, 5, 10, 9]
/-- The lowest bit's number. -/
def low (n : Nat) : Nat := ((List.range 32).find? fun i => n.testBit i).getD 32
/-- The numbers of a small set. -/
def bitsOf (n : Nat) : List Nat := (List.range 8).filter fun i => n.testBit i
end Go.Ofp
namespace Go.Proofs.YtneolmnpebiifaaDoor
open Go.RowKit Go.Ofp
set_option linter.unusedVariables false
set_option maxRecDepth 100000
set_option maxHeartbeats 4000000

theorem tz_fact : ∀ n : Fin 256, n.val ≠ 0 → (tzTab[(bits .and .u32 (n.val : Int) (-(n.val : Int) % 4294967296) * 125613361 % 4294967296 / 134217728).toNat]?).map (·.toNat) = some (low n.val) ∧ low n.val < 8 := by decide +kernel

theorem tz_any (q : Nat) (w : World) (h0 : q ≠ 0) (h : q < 256) (ht : Sl w (some ⟨0, 0, none⟩) (tzTab.map vb)) : Calls Tryd.prog 76 #[.int .u32 q] w fun e w' => e = .returned (.int .i64 (low q : Nat)) ∧ w = w' := by
  have hz : ((q : Int) == 0) = false := by rw [beq_eq_false_iff_ne]; omega
  obtain ⟨h1, h2⟩ := tz_fact ⟨q, h⟩ h0
  simp only at h1 h2
  obtain ⟨x, hx, hx2⟩ := Option.map_eq_some_iff.1 h1
  obtain ⟨hi, hx3⟩ := List.getElem?_eq_some_iff.1 hx
  have hc := ht.add _ (vb x) (by rw [List.getElem?_map, hx]; rfl)
  rw [Addr.add_lit, Nat.zero_add, vb, hx2] at hc
  generalize low q = t at h2 hc ⊢
  clear ht h1 hx hi hx3 hx2 h0 h
  go_enter Tryd.func76, Tryd.ntmps76
  go_wp2_with fail
  go_ret
  exact ⟨rfl, rfl⟩

theorem bits_fact : ∀ n : Fin 256, n.val ≠ 0 → bitsOf n.val = low n.val :: bitsOf (bits .and .u32 (n.val : Int) ((n.val : Int) - 1)).toNat ∧ (bits .and .u32 (n.val : Int) ((n.val : Int) - 1)).toNat < n.val ∧ 0 ≤ bits .and .u32 (n.val : Int) ((n.val : Int) - 1) := by decide +kernel
theorem bits_none : bitsOf 0 = [] := by decide

/-- What the state's cell holds, as a number. -/
def held (b : Nat) (w : World) : Nat := match w.cell? ⟨b, 0, none⟩ with
  | some (.int _ z) => z.toNat
  | _ => 0

theorem held_eq {b : Nat} {w : World} {t : TypeId} {k : IntKind} {q : Nat} (h : Boxed w b t (.int k q)) : held b w = q := by
  unfold held
  rw [h.cell]
  rfl

attribute [local go_sem] Oper.semAt_some in
theorem each1_gives (n : Nat) (hn : 1 ≤ n) (q : Nat) (h : q < 256) (Bn n0 : Nat) (w : World) (hb : Boxed w Bn 25 (.int .u32 q)) (hB : Bn < n0) (h0 : 0 < Bn) (ht : Sl w (some ⟨0, 0, none⟩) (tzTab.map vb)) :
    Gives Fence.wide n Tryd.prog 75 #[.pointer (some ⟨Bn, 0, none⟩)] ((bitsOf q).map fun i => .int .i64 (i : Nat)) n0 Bn w := by
  intro l J W hW hJ hY hJ0
  have hbW : Boxed W Bn 25 (.int .u32 q) := (hW.block Bn hB).trans hb
  have htW : ∀ A B, Below n0 A B → Sl A (some ⟨0, 0, none⟩) (tzTab.map vb) → Sl B (some ⟨0, 0, none⟩) (tzTab.map vb) := by
    intro A B hAB hA i hi
    obtain ⟨b, off, e, hc⟩ := hA i hi
    cases e
    exact ⟨_, _, rfl, (hAB.cell (p := ⟨_, _, none⟩) (by simp only; omega)).trans hc⟩
  have hT := htW _ _ hW ht
  refine callsIn_of_wp Tryd.func75 rfl trivial ?_ rfl
  simp only [Tryd.ntmps75, List.size_toArray, List.length_cons, List.length_nil, Nat.reduceAdd, Nat.reduceSub, Array.replicate_succ, Array.replicate_zero, List.push_toArray, List.append_toArray, List.nil_append, List.cons_append]
  gi_wp2
  gi_loopw [3] (fun _ wr => ∃ k q' : Nat, q' < 256 ∧ k ≤ (bitsOf q).length ∧ Hid (bitsOf q' = (bitsOf q).drop k) ∧ Boxed wr Bn 25 (.int .u32 q') ∧ Hid (Sl wr (some ⟨0, 0, none⟩) (tzTab.map vb)) ∧ J k wr) (fun _ wr => held Bn wr)
  case atStart => exact ⟨0, q, h, Nat.zero_le _, Lib.hid rfl, hbW, Lib.hid hT, hJ0⟩
  case round =>
    obtain ⟨k, q', hq, hk, hd, hbx, hTr, hJk⟩ := hrel
    have hc := hbx.cell
    by_cases hz : q' = 0
    · subst hz
      have hdo := hd.out
      rw [bits_none] at hdo
      have hlen : (bitsOf q).length = k := by
        have := List.drop_eq_nil_iff.1 hdo.symm
        omega
      gi_wp2
      go_end0
      exact ⟨⟨_, rfl⟩, by rw [List.length_map, hlen]; exact hJk⟩
    · obtain ⟨f1, f2, f3⟩ := bits_fact ⟨q', hq⟩ hz
      simp only at f1 f2 f3
      have hdo := hd.out
      rw [f1] at hdo
      have hkl : k < (bitsOf q).length := by
        rcases Nat.lt_or_ge k (bitsOf q).length with h | h
        · exact h
        · rw [List.drop_eq_nil_of_le h] at hdo; cases hdo
      rw [List.drop_eq_getElem_cons hkl] at hdo
      obtain ⟨e1, e2⟩ := List.cons.inj hdo
      have hxs : ((bitsOf q).map fun i => Value.int .i64 (i : Nat))[k]? = some (.int .i64 (low q' : Nat)) := by
        rw [List.getElem?_map, List.getElem?_eq_getElem hkl, e1]
        rfl
      have hzb : ((q' : Int) != 0) = true := by rw [bne_iff_ne]; omega
      obtain ⟨q2, hq2⟩ := Int.eq_ofNat_of_zero_le f3
      rw [hq2, Int.toNat_natCast] at e2 f2
      have cT := Lib.hid (tz_any q' wr hz hq hTr.out)
      obtain ⟨fn, tmps, assign, body, hy, hR⟩ := hY k _ wr hJk hxs
      have hqe := Lib.hid hq2
      have hqm : ((q' : Int) - 1) % 4294967296 = (q' : Int) - 1 := by omega
      replace e2 := Lib.hid e2
      clear hdo hd f1 f3 hq2 e1 hxs
      gi_wp2_with (refine ⟨trivial, ?_⟩; gi_at_call 76; refine (callsIn_wide.2 cT.out).mono ?_; rintro _ _ ⟨rfl, rfl⟩)
      refine hR.mono ?_
      rintro e W3 ⟨rfl, hJ3, hb3⟩
      have hbx3 : Boxed W3 Bn 25 (.int .u32 q') := (hb3.block Bn hB).trans hbx
      have hT3 := htW _ _ hb3 hTr.out
      have hc3 := hbx3.cell
      have hf3 := hbx3.frozen
      gi_wp2
      have hx4 : Boxed (W3.setCell ⟨Bn, 0, none⟩ (.int .u32 q2)) Bn 25 (.int .u32 q2) := hbx3.set _
      have hT4 : Sl (W3.setCell ⟨Bn, 0, none⟩ (.int .u32 q2)) (some ⟨0, 0, none⟩) (tzTab.map vb) := by
        intro i hi
        obtain ⟨b, off, e, hc⟩ := hT3 i hi
        cases e
        exact ⟨_, _, rfl, (((Below.refl Bn W3).setCell (p := ⟨Bn, 0, none⟩) (Nat.le_refl _) _).cell (p := ⟨_, _, none⟩) h0).trans hc⟩
      have hJ4 := hJ _ _ _ hJ3 (grownBy_setCell' W3 Bn (.int .u32 q2))
      go_roundw
      case rel =>
        rw [hqe.out]
        exact ⟨k + 1, q2, by omega, by omega, e2, hx4, Lib.hid hT4, hJ4⟩
      case measure =>
        rw [hqe.out, held_eq hx4, held_eq hbx]
        exact f2

theorem each_any (q : Nat) (w : World) : Calls Tryd.prog 61 #[.int .u32 q] w fun e w' => e = .returned (.func (.func 75) #[] #[.pointer (some ⟨w.heap.size, 0, none⟩)]) ∧ w' = w.alloc (.cells #[.int .u32 q] 25) := by
  go_enter Tryd.func61, Tryd.ntmps61
  go_wp2_with fail
  go_ret
  exact ⟨rfl, rfl⟩

attribute [local go_sem] Oper.semAt_some in
/-- slices.AppendSeq of nothing and whatever iterator. -/
theorem apseq_any (gf : Nat) (lb : Array Value) (eg : ∀ args w, (callFunc gf args).run Tryd.prog w = .ok (.enter gf args) w) (l : List Int) (Bn : Nat) (hl : l.length ≤ 100000) (w : World) (hBn : Bn < w.heap.size) (hs : Gives Fence.wide 9 Tryd.prog gf lb (l.map vi) w.heap.size Bn w) :
    Calls Tryd.prog 57 #[.slice none 0 0, .func (.func gf) #[] lb] w fun e w' => ∃ a c, e = .returned (.slice a l.length c) ∧ l.length ≤ c ∧ c ≤ maxLen ∧ St w [Bn] [irow a c l] w' := by
  obtain ⟨i0, hi, hz0, hz1, hz2⟩ := info_parts (show (Tryd.prog.info? 3).map (fun i => (i.zero, i.size, i.bytes)) = some (some (.int .i64 0), 1, 8) by kernel_rfl)
  refine (callsIn_wide (n := 10)).1 ?_
  refine callsIn_of_wp_marks Tryd.func57 rfl trivial ?_ rfl
  simp only [Tryd.ntmps57, List.size_toArray, List.length_cons, List.length_nil, Nat.reduceAdd, Nat.reduceSub, Array.replicate_succ, Array.replicate_zero, List.push_toArray, List.append_toArray, List.nil_append, List.cons_append]
  gi_wp2
  have hN := Lib.hid hl
  refine wpIn_gives (n := 10) rfl (by decide) (gf := gf) (lb := lb) rfl trivial eg (xs := l.map vi) (n0 := w.heap.size) (Bn := Bn) (hs.later ((Below.refl _ w).alloc (Nat.le_refl _) _)) (by simp; omega) (by simp) rfl
    (fun k W => (∃ v, Boxed W w.heap.size 64 v ∧ W.ownsRow w.heap.size 3 1 v k ((l.take k).map vi)) ∧ Fr [Bn] w W) ?hI ?h0
    (fun x => { tmps := #[.slice none 0 0, .func (.func gf) #[] lb, .pointer (some ⟨w.heap.size, 0, none⟩), undef, .slice none 0 0, x, .func (.func gf) #[] lb, x, undef, undef, undef, undef, undef], defers := [] }) ?assign ?body ?done
  case hI => exact (abide_held hBn (Nat.le_refl _) (by simp)).and (abide_fr (by simp))
  case h0 => exact ⟨⟨_, Boxed.new _ _ _, World.ownsRow_nil _ _ _ _⟩, (Fr.alloc w _).mono (by simp)⟩
  case assign =>
    intro l x W K hx hK
    obtain ⟨z, hz, rfl⟩ := List.mem_map.1 hx
    unfold vi at hK ⊢
    gi_wp2
    exact hK
  case body =>
    rintro L k x W ⟨⟨v, hv, hrow⟩, hB⟩ hx
    have hsz := hB.size
    have hc := hv.cell
    rw [List.getElem?_map] at hx
    obtain ⟨z, hz, rfl⟩ := Option.map_eq_some_iff.1 hx
    have hkl := (List.getElem?_eq_some_iff.1 hz).1
    unfold vi
    gi_wp2_with (gi_at_builtin; refine wpListIn_append_own _ rfl _ _ 64 rfl w.heap.size 3 i0 (.int .i64 0) 1 8 Tryd.underlying64 hi hz0 hz1 hz2 rfl (by decide) _ _ _ rfl (hrow.alloc _) ⟨W.heap.size, 0, none⟩ 1 1 [.int .i64 z] rfl rfl (cell_one_new _ _ _) (by simp [Value.oneCell']) (by unfold maxLen; omega) (by omega) (by simp; omega) ?_; intro v' w1 hown' hgrow _; obtain ⟨g', cap', rfl⟩ := ownsRow_succ hown'; obtain ⟨hv1, hv2, hr2, hk2, hb2⟩ := hv.appended (by decide) hrow hsz (Nat.le_refl _) hown' hgrow; have hc1 := hv1.cell; have hf1 := hv1.frozen)
    have hls : (l.take (k + 1)).map vi = (l.take k).map vi ++ [.int .i64 z] := by
      rw [List.take_succ_eq_append_getElem hkl, List.map_append, (List.getElem?_eq_some_iff.1 hz).2]
      rfl
    exact ⟨hk2.from _, hb2, ⟨_, hv2, by have := hr2; rw [← hls] at this; exact this⟩, hB.belowN hb2⟩
  case done =>
    rintro D W hD ⟨⟨v, hv, hrow⟩, hB⟩ hK
    have hc := hv.cell
    gi_wp2
    rw [List.length_map, List.take_length] at hrow
    obtain ⟨a, cap, rfl, -, -, h5, h6⟩ := owns_sl hrow
    refine ⟨by simp, .inl ⟨_, _, rfl, run_takeDeferred hK, ?_⟩⟩
    exact ⟨_, results_tmp rfl _ _ _, a, cap, rfl, h5, h6, St.ofRow (hB.belowN (belowK_b (w := w) (Nat.le_refl _) W D _ _ (by simp at hD; omega) hK rfl rfl)) (ownsRow_putObj hrow _ hK rfl)⟩

theorem coll_any (gf : Nat) (lb : Array Value) (eg : ∀ args w, (callFunc gf args).run Tryd.prog w = .ok (.enter gf args) w) (l : List Int) (Bn : Nat) (hl : l.length ≤ 100000) (w : World) (hBn : Bn < w.heap.size) (hs : Gives Fence.wide 9 Tryd.prog gf lb (l.map vi) w.heap.size Bn w) :
    Calls Tryd.prog 44 #[.func (.func gf) #[] lb] w fun e w' => ∃ a c, e = .returned (.slice a l.length c) ∧ l.length ≤ c ∧ c ≤ maxLen ∧ St w [Bn] [irow a c l] w' := by
  have cA := Lib.hid (apseq_any gf lb eg l Bn hl w hBn hs)
  clear hs eg
  go_enter Tryd.func44, Tryd.ntmps44
  go_wp2_with (go_at_call 57; (with_reducible refine cA.out.mono ?_); rintro _ w3 ⟨a, c, rfl, h1, h2, h3⟩)
  go_ret
  exact ⟨a, c, rfl, h1, h2, h3⟩

theorem bitsOf_mod (m : Nat) : bitsOf (m % 256) = bitsOf m := by
  unfold bitsOf
  refine List.filter_congr fun i hi => ?_
  have : i < 8 := by simpa using hi
  rw [show (256 : Nat) = 2 ^ 8 by rfl, Nat.testBit_mod_two_pow]
  simp [this]
theorem bitsOf_len (m : Nat) : (bitsOf m).length ≤ 8 := by
  have := List.length_filter_le (fun i => m.testBit i) (List.range 8)
  simpa [bitsOf] using this

/-- A mask's fields. -/
def nums (l : List Nat) : List Int := l.map fun (i : Nat) => (i : Int)
theorem fields_any (m : Nat) (hm : m < 4294967296) (w : World) (h0 : 0 < w.heap.size) (ht : Sl w (some ⟨0, 0, none⟩) (tzTab.map vb)) :
    Calls Tryd.prog 51 #[.int .u32 m] w (IntsRet (nums (bitsOf m)) w) := by
  have e : bits .and .u32 (m : Int) 255 = ((m % 256 : Nat) : Int) := by
    rw [show (255 : Int) = ((255 : Nat) : Int) by rfl, u32_and_nat m 255 hm (by decide), show (255 : Nat) = 2 ^ 8 - 1 by rfl, Nat.and_two_pow_sub_one_eq_mod]
  rw [← bitsOf_mod]
  have hl := bitsOf_len (m % 256)
  have hq : m % 256 < 256 := by omega
  generalize m % 256 = q at *
  have cE := Lib.hid (each_any q w)
  have cC := coll_any 75 #[.pointer (some ⟨w.heap.size, 0, none⟩)] (Go.Proofs.enters_of Tryd.func75 (by kernel_rfl) rfl) (nums (bitsOf q)) w.heap.size (by simp [nums]; omega) (w.alloc (.cells #[.int .u32 q] 25)) (by simp)
    (by
      have := each1_gives 9 (by decide) q hq w.heap.size (w.alloc (.cells #[.int .u32 q] 25)).heap.size (w.alloc (.cells #[.int .u32 q] 25)) (Boxed.new _ _ _) (by simp) h0 (ht.below ((Below.refl _ w).alloc (Nat.le_refl _) _))
      unfold nums
      rw [List.map_map]
      exact this)
  replace cC := Lib.hid cC
  clear ht hl
  have hS := St.start w
  go_enter Tryd.func51, Tryd.ntmps51
  go_wp2_with (first
    | (go_at_call 61; (with_reducible refine cE.out.mono ?_); rintro _ w3 ⟨rfl, rfl⟩)
    | (go_at_call 44; (with_reducible refine cC.out.mono ?_); rintro _ w3 ⟨a, c, rfl, h1, h2, h3⟩))
  go_ret
  have h4 := (hS.alloc #[.int .u32 q] 25).call (A := [_]) [] rfl h3
  exact ⟨a, c, rfl, h1, h2, by simpa using h4⟩
end Go.Proofs.YtneolmnpebiifaaDoor
end

section
/- Rows of one length, one behind the other. -/
set_option linter.unusedSimpArgs false
set_option linter.unusedVariables false
namespace Go.Ofp
theorem flat_len2 {α : Type} (k : Nat) (R : List (List α)) (h : ∀ r ∈ R, r.length = k) : R.flatten.length = R.length * k := by
  induction R with
  | nil => simp
  | cons r R ih => rw [List.flatten_cons, List.length_append, ih (fun x hx => h x (by simp [hx])), h r (by simp), List.length_cons, Nat.add_mul]; omega
theorem flat_take {α : Type} (k : Nat) (R : List (List α)) (h : ∀ r ∈ R, r.length = k) (j : Nat) : R.flatten.take (j * k) = (R.take j).flatten := by
  induction R generalizing j with
  | nil => simp
  | cons r R ih =>
    cases j with
    | zero => simp
    | succ j =>
      have hr := h r (by simp)
      rw [List.flatten_cons, List.take_succ_cons, List.flatten_cons, ← ih (fun x hx => h x (by simp [hx])), List.take_append, List.take_of_length_le (by rw [hr, Nat.add_mul]; omega), hr, show (j + 1) * k - k = j * k by rw [Nat.add_mul]; omega]
theorem flat_drop {α : Type} (k : Nat) (R : List (List α)) (h : ∀ r ∈ R, r.length = k) (j : Nat) : R.flatten.drop (j * k) = (R.drop j).flatten := by
  induction R generalizing j with
  | nil => simp
  | cons r R ih =>
    cases j with
    | zero => simp
    | succ j =>
      have hr := h r (by simp)
      rw [List.flatten_cons, List.drop_succ_cons, ← ih (fun x hx => h x (by simp [hx])), List.drop_append, List.drop_of_length_le (by rw [hr, Nat.add_mul]; omega), List.nil_append, hr, show (j + 1) * k - k = j * k by rw [Nat.add_mul]; omega]
theorem flat_elem {α : Type} (k : Nat) (R : List (List α)) (h : ∀ r ∈ R, r.length = k) (j : Nat) (hj : j < R.length) : (R.flatten.drop (j * k)).take k = R[j] := by
  have hr := h _ (List.getElem_mem hj)
  rw [flat_drop k R h, List.drop_eq_getElem_cons hj, List.flatten_cons, List.take_left' hr]
theorem flat_set {α : Type} (k : Nat) (R : List (List α)) (h : ∀ r ∈ R, r.length = k) (j : Nat) (hj : j < R.length) (x : List α) : R.flatten.take (j * k) ++ x ++ R.flatten.drop (j * k + k) = (R.set j x).flatten := by
  rw [flat_take k R h, show j * k + k = (j + 1) * k by rw [Nat.add_mul]; omega, flat_drop k R h, List.set_eq_take_append_cons_drop, if_pos hj]
  simp
end Go.Ofp
end

section
/- Cards: plain law. -/
set_option linter.unusedSimpArgs false
set_option linter.unusedVariables false
namespace Go.Ofp
/-- A field's value. -/
structure Vl where
  kind : Int
  n : Int
  s : ByteArray
deriving DecidableEq
/-- No value. -/
def Vl.zero : Vl := ⟨0, 0, ⟨#[]⟩⟩
/-- A card. -/
structure Cd where
  id : Int
  ver : Int
  lab : Nat
  f : List Vl
deriving DecidableEq
/-- A patch. -/
structure Pt where
  mask : Nat
  lab : Nat
  f : List Vl
deriving DecidableEq

/-- Some fields of f in the place of out's. -/
def putF (f : List Vl) (out : List Vl) (l : List Nat) : List Vl := l.foldl (fun o i => o.set i (f.getD i Vl.zero)) out
theorem putF_length (f out : List Vl) (l : List Nat) : (putF f out l).length = out.length := by
  unfold putF
  induction l generalizing out with
  | nil => rfl
  | cons i l ih => rw [List.foldl_cons, ih, List.length_set]
theorem putF_snoc (f out : List Vl) (l : List Nat) (i : Nat) : putF f out (l ++ [i]) = (putF f out l).set i (f.getD i Vl.zero) := by simp [putF]
/-- No fields. -/
def noF : List Vl := List.replicate 8 Vl.zero
def Cd.proj (c : Cd) (m : Nat) : Cd := ⟨c.id, c.ver, if m.testBit 8 then c.lab else 0, putF c.f noF (bitsOf m)⟩
def Cd.of (c : Cd) (m : Nat) : Pt := ⟨m, (c.proj m).lab, (c.proj m).f⟩
def Cd.merge (c : Cd) (p : Pt) : Cd := ⟨c.id, if c.ver < 1099511627776 then c.ver + 1 else c.ver, if p.mask.testBit 8 then p.lab else c.lab, putF p.f c.f (bitsOf p.mask)⟩
def Cd.none (id : Int) : Cd := ⟨id, 0, 0, noF⟩
def Pt.fresh (id : Int) (p : Pt) : Cd := (Cd.none id).merge p
end Go.Ofp
namespace Go.Proofs.YtneolmnpebiifaaDoor
open Go.RowKit Go.Ofp
set_option linter.unusedVariables false
set_option maxRecDepth 100000
set_option maxHeartbeats 4000000

/-! ### In memory -/
theorem elem_value : Elem Tryd.prog 27 (.agg #[.int .i64 0, .int .i64 0, .string ⟨#[]⟩]) 3 32 := Elem.mk (by kernel_rfl) (by rfl) (by decide)
def vlRow (v : Vl) : List Value := [.int .i64 v.kind, .int .i64 v.n, .string v.s]
def flRow (f : List Vl) : List Value := (f.map vlRow).flatten
def cdRow (c : Cd) : List Value := .int .i64 c.id :: .int .i64 c.ver :: .int .u32 c.lab :: flRow c.f
def ptRow (p : Pt) : List Value := .int .u32 p.mask :: .int .u32 p.lab :: flRow p.f
theorem vlRow_length (v : Vl) : (vlRow v).length = 3 := rfl
theorem flRow_length (f : List Vl) : (flRow f).length = f.length * 3 := by
  induction f with
  | nil => rfl
  | cons v f ih => simp [flRow, vlRow] at ih ⊢; omega
theorem vl_each (f : List Vl) : ∀ r ∈ f.map vlRow, r.length = 3 := by
  intro r hr
  obtain ⟨v, _, rfl⟩ := List.mem_map.1 hr
  rfl
theorem vl_one (v : Vl) : (vlRow v).all Value.oneCell' = true := rfl
theorem fl_one (f : List Vl) : (flRow f).all Value.oneCell' = true := by
  rw [List.all_eq_true]
  intro x hx
  obtain ⟨r, hr, hxr⟩ := List.mem_flatten.1 hx
  obtain ⟨v, _, rfl⟩ := List.mem_map.1 hr
  exact List.all_eq_true.1 (vl_one v) x hxr
/-- One field, behind h cells. -/
theorem fl_at (H : List Value) (f : List Vl) (i : Nat) (v : Vl) (hv : f[i]? = some v) : ((H ++ flRow f).drop (H.length + i * 3)).take 3 = vlRow v := by
  obtain ⟨hi, rfl⟩ := List.getElem?_eq_some_iff.1 hv
  rw [List.drop_append, List.drop_of_length_le (by omega), List.nil_append, show H.length + i * 3 - H.length = i * 3 by omega, flRow, flat_elem 3 _ (vl_each f) i (by simpa using hi), List.getElem_map]
theorem fl_put (H : List Value) (f : List Vl) (i : Nat) (v : Vl) (hi : i < f.length) : (H ++ flRow f).take (H.length + i * 3) ++ vlRow v ++ (H ++ flRow f).drop (H.length + i * 3 + 3) = H ++ flRow (f.set i v) := by
  have := flat_set 3 _ (vl_each f) i (by simpa using hi) (vlRow v)
  rw [List.take_append, List.take_of_length_le (by omega), List.drop_append, List.drop_of_length_le (by omega), List.nil_append, show H.length + i * 3 - H.length = i * 3 by omega, show H.length + i * 3 + 3 - H.length = i * 3 + 3 by omega,
    List.append_assoc, List.append_assoc, ← List.append_assoc (List.take _ _), flRow, this, ← List.map_set]
  rfl
end Go.Proofs.YtneolmnpebiifaaDoor
end

section
/- Maps of the call's own, keyed by whole numbers: what such a map holds is told as a function. -/
set_option linter.unusedSimpArgs false
set_option linter.unusedVariables false
namespace Go.Ofp
open Go.RowKit Go.Maps

/-- Elements read as themselves. -/
def tokR (v : Value) : Option (DataW Value × List MemPlace) := some (.held v, [])

/-- Block b is a map of at most n entries, keyed by whole numbers, that holds f. -/
def IMap (P : Program) (k : TypeId) (w : World) (b n : Nat) (f : Int → Option Value) : Prop :=
  ∃ D, w.ownsMap P k tokR b n D ∧ ∀ i, (Lit.int .i64 i).wf = true → Maps.has D (.int .i64 i) = (f i).isSome ∧ ∀ v, f i = some v → ∀ z, D.atKey (.int .i64 i) z = .held v

def putM (f : Int → Option Value) (k : Int) (v : Value) : Int → Option Value := fun i => if i = k then some v else f i
def delM (f : Int → Option Value) (k : Int) : Int → Option Value := fun i => if i = k then none else f i
def noM : Int → Option Value := fun _ => none

theorem IMap.lt {P : Program} {k : TypeId} {w : World} {b n : Nat} {f : Int → Option Value} (h : IMap P k w b n f) : b < w.heap.size := by
  obtain ⟨D, h, -⟩ := h
  exact h.lt
theorem IMap.keep {P : Program} {k : TypeId} {w w' : World} {b n : Nat} {f : Int → Option Value} (h : IMap P k w b n f) (hk : w'.heap[b]? = w.heap[b]?) : IMap P k w' b n f := by
  obtain ⟨D, ⟨es, clock, hb, r⟩, hf⟩ := h
  exact ⟨D, ⟨es, clock, hk.trans hb, r⟩, hf⟩
theorem IMap.mono {P : Program} {k : TypeId} {w : World} {b n m : Nat} {f : Int → Option Value} (h : IMap P k w b n f) (hm : n ≤ m) : IMap P k w b m f := by
  obtain ⟨D, h, hf⟩ := h
  exact ⟨D, h.mono hm, hf⟩

/-- A map of the call's own. -/
def Ch.map (P : Program) (k : TypeId) (b n : Nat) (f : Int → Option Value) : Ch where
  foot := [b]
  holds w := IMap P k w b n f
  lt h x hx := by simp at hx; subst hx; exact h.lt
  keep h k := h.keep (k b (by simp))

section
variable {P : Program} {k : TypeId} {w : World} {b n : Nat} {f : Int → Option Value}

theorem isK (i : Int) : WideAt.IsKeyLit (.int .i64 i) := trivial

theorem IMap.made (w : World) (P : Program) (k : TypeId) : IMap P k (w.alloc (.map #[] 0)) w.heap.size 0 noM :=
  ⟨_, World.ownsMap_made w P k tokR, fun i _ => ⟨rfl, fun v hv => by cases hv⟩⟩

theorem IMap.look_ok {t e : TypeId} (h : IMap P k w b n f) (hk : P.underlying k = some (.int .i64)) (ht : P.underlying t = some (.map k e)) {z : Value} (hz : (zeroValue e).run P w = .ok z w) {i : Int} (hi : (Lit.int .i64 i).wf = true) :
    (Instr.lookup t (.map (some b)) (.int .i64 i) true).run P w = .ok (.tuple #[(f i).getD z, .bool (f i).isSome]) w := by
  obtain ⟨D, ⟨es, clock, hb, F, hs, rfl⟩, hf⟩ := h
  obtain ⟨h1, h2⟩ := hf i hi
  rcases Maps.fit_look true (int_keyed hk) ht hz hb F (keyOf_int_mk hk hi) with ⟨hrun, _, hat⟩ | ⟨e0, y, _, _, hrun, hRv, hat, _⟩
  · rw [hrun]
    rw [Maps.has_false_of_atKey hat] at h1
    cases hfi : f i with
    | none => rfl
    | some v => rw [hfi] at h1; cases h1
  · rw [hrun]
    rw [Maps.has_true_of_atKey hat] at h1
    cases hfi : f i with
    | none => rw [hfi] at h1; cases h1
    | some v =>
      have e1 := (h2 v hfi .nil).symm.trans (hat .nil)
      cases hRv
      cases e1
      rfl

theorem IMap.look {t e : TypeId} (h : IMap P k w b n f) (hk : P.underlying k = some (.int .i64)) (ht : P.underlying t = some (.map k e)) {z : Value} (hz : (zeroValue e).run P w = .ok z w) {i : Int} (hi : (Lit.int .i64 i).wf = true) :
    (Instr.lookup t (.map (some b)) (.int .i64 i) false).run P w = .ok ((f i).getD z) w := by
  obtain ⟨D, ⟨es, clock, hb, F, hs, rfl⟩, hf⟩ := h
  obtain ⟨h1, h2⟩ := hf i hi
  rcases Maps.fit_look false (int_keyed hk) ht hz hb F (keyOf_int_mk hk hi) with ⟨hrun, _, hat⟩ | ⟨e0, y, _, _, hrun, hRv, hat, _⟩
  · rw [hrun]
    rw [Maps.has_false_of_atKey hat] at h1
    cases hfi : f i with
    | none => rfl
    | some v => rw [hfi] at h1; cases h1
  · rw [hrun]
    rw [Maps.has_true_of_atKey hat] at h1
    cases hfi : f i with
    | none => rw [hfi] at h1; cases h1
    | some v =>
      have e1 := (h2 v hfi .nil).symm.trans (hat .nil)
      cases hRv
      cases e1
      rfl

theorem IMap.store {t e : TypeId} (h : IMap P k w b n f) (hk : P.underlying k = some (.int .i64)) (ht : P.underlying t = some (.map k e)) (hn : n < maxLen) {i : Int} (hi : (Lit.int .i64 i).wf = true) (v : Value) :
    ∃ w', (Instr.mapUpdate t (.map (some b)) (.int .i64 i) v).run P w = .ok () w' ∧ IMap P k w' b (n + 1) (putM f i v) ∧ w.grownBy w' (some b) := by
  obtain ⟨D, hown, hf⟩ := h
  obtain ⟨w', h1, h2, h3⟩ := hown.update (int_keyed hk) ht hn (keyOf_int_mk hk hi) (val := v) (d := .held v) (ps := []) rfl
  refine ⟨w', h1, ⟨_, h2, fun j hj => ?_⟩, h3⟩
  by_cases e : j = i
  · subst e
    refine ⟨by rw [Maps.has_put_same hown.isMap (isK _)]; simp [putM], fun u hu z => ?_⟩
    rw [Maps.atKey_put_same hown.isMap (isK _)]
    simp [putM] at hu
    rw [hu]
  · have hne : (Lit.int .i64 j) ≠ Lit.int .i64 i := fun h => e (by cases h; rfl)
    refine ⟨by rw [Maps.has_put_other hne, (hf j hj).1]; simp [putM, e], fun u hu z => ?_⟩
    rw [Maps.atKey_put_other hne]
    exact (hf j hj).2 u (by simpa [putM, e] using hu) z

theorem IMap.drop {t e : TypeId} (h : IMap P k w b n f) (hk : P.underlying k = some (.int .i64)) (ht : P.underlying t = some (.map k e)) {i : Int} (hi : (Lit.int .i64 i).wf = true) (ty : TypeId) :
    ∃ w', (Builtin.delete_ #[t, k] ty #[.map (some b), .int .i64 i]).run P w = .ok (.tuple #[]) w' ∧ IMap P k w' b n (delM f i) ∧ w.grownBy w' (some b) := by
  obtain ⟨D, hown, hf⟩ := h
  obtain ⟨w', h1, h2, h3⟩ := hown.drop (int_keyed hk) ht (keyOf_int_mk hk hi) ty
  refine ⟨w', h1, ⟨_, h2, fun j hj => ?_⟩, h3.grown⟩
  by_cases e : j = i
  · subst e
    exact ⟨by rw [Maps.has_del_same]; simp [delM], fun u hu z => by simp [delM] at hu⟩
  · have hne : (Lit.int .i64 j) ≠ Lit.int .i64 i := fun h => e (by cases h; rfl)
    refine ⟨by rw [Maps.has_del_other hne, (hf j hj).1]; simp [delM, e], fun u hu z => ?_⟩
    rw [Maps.atKey_del_other hne]
    exact (hf j hj).2 u (by simpa [delM, e] using hu) z

end

namespace St
variable {P : Program} {k : TypeId} {w0 w w1 : World} {F : List Nat} {L : List Ch} {b n : Nat} {f : Int → Option Value}
theorem makeMap (h : St w0 F L w) (P : Program) (k : TypeId) : St w0 F (Ch.map P k w.heap.size 0 noM :: L) (w.alloc (.map #[] 0)) :=
  h.push (Fr.alloc _ _) (IMap.made w P k) (by simp [Ch.map])
end St

section
variable {P : Program} {w0 w : World} {F : List Nat} {L : List Ch} {ops : Array Oper} {rest : List Oper} {o : Oper} {a : Act} {Q : Exit → Act → World → Prop} {k : TypeId} {b n : Nat} {f : Int → Option Value}

/-- A new map. -/
theorem wpList_makemap_st (hS : St w0 F L w) (hgd : o.guard = none) {t e : TypeId} (ho : o.op = .makeMap t none) (ht : P.underlying t = some (.map k e))
    (h : ∀ g w', St w0 F (Ch.map P k g 0 noM :: L) w' → wpList P ops Q rest (a.put o.dst (.map (some g))) w') : wpList P ops Q (o :: rest) a w := by
  refine wpList_plain hgd fun K hK => ?_
  have hr := @run_makeMap P t w
  unfold Oper.wp execOp
  simp only [ho, Sem.run_bind, hr, Result.andThen_ok, Sem.run_pure]
  exact hK _ _ (h _ _ (hS.makeMap P k))

/-- delete(m, i). -/
theorem wpList_mapdel_st (i : Nat) (hS : St w0 F L w) (hi : L[i]? = some (Ch.map P k b n f)) (hgd : o.guard = none) {t e : TypeId} {x y : Operand} (ho : o.op = .call { callee := .builtin .delete, args := #[x, y], argTypes := #[t, k] }) (hx : a.eval x = .map (some b)) {j : Int} (hy : a.eval y = .int .i64 j)
    (hk : P.underlying k = some (.int .i64)) (ht : P.underlying t = some (.map k e)) (hj : (Lit.int .i64 j).wf = true)
    (h : ∀ w', St w0 F (L.set i (Ch.map P k b n (delM f j))) w' → wpList P ops Q rest (a.put o.dst (.tuple #[])) w') : wpList P ops Q (o :: rest) a w := by
  refine wpList_plain hgd fun K hK => ?_
  obtain ⟨w', hr, h2, h3⟩ := (hS.get i hi).drop (P := P) hk ht hj o.type
  unfold Oper.wp execOp
  simp only [ho, resolve, invoke, builtin, hx, hy, List.map_toArray, List.map_cons, List.map_nil, Sem.run_bind, Sem.run_pure, hr, Result.andThen_ok]
  exact hK _ _ (h w' (hS.upd i hi (Fr.of_grown h3) (by simp [Ch.map]) h2 (by simp [Ch.map])))
end

section
variable {P : Program} {w0 w : World} {F : List Nat} {L : List Ch} {ops : Array Oper} {o : Oper} {a : Act} {Q : Exit → Act → World → Prop} {K : Act → World → Prop} {k : TypeId} {b n : Nat} {f : Int → Option Value}
/-- m[i] = v, at an operation of a drawn region. -/
theorem op_mapput_st (hw : Region.wanted o (yielded ops a.tmps) = true) (i : Nat) (hS : St w0 F L w) (hi : L[i]? = some (Ch.map P k b n f)) {t e : TypeId} {x y v : Operand} (ho : o.op = .mapUpdate t x y v) (hx : a.eval x = .map (some b)) {j : Int} (hy : a.eval y = .int .i64 j) {u : Value} (hv : a.eval v = u)
    (hk : P.underlying k = some (.int .i64)) (ht : P.underlying t = some (.map k e)) (hn : n < maxLen) (hj : (Lit.int .i64 j).wf = true)
    (h : ∀ w', St w0 F (L.set i (Ch.map P k b (n + 1) (putM f j u))) w' → K (a.put o.dst undef) w') : if Region.wanted o (yielded ops a.tmps) = true then Oper.wp P o a w K Q else K (a.put o.dst undef) w := by
  rw [if_pos hw]
  obtain ⟨w', hr, h2, h3⟩ := (hS.get i hi).store (P := P) hk ht hn hj u
  unfold Oper.wp execOp
  simp only [ho, hx, hy, hv, Sem.run_bind, hr, Result.andThen_ok, Sem.run_pure]
  exact h w' (hS.upd i hi (Fr.of_grown h3) (by simp [Ch.map]) h2 (by simp [Ch.map]))
end
theorem wf_of_i64 {z : Int} (h : -9223372036854775808 ≤ z ∧ z ≤ 9223372036854775807) : (Lit.int .i64 z).wf = true := by
  simpa [Lit.wf, IntKind.min, IntKind.max, IntKind.bits, IntKind.signed] using h
end Go.Ofp
end

section
/- The keys of a map of whole numbers, sorted. -/
set_option linter.unusedSimpArgs false
set_option linter.unusedVariables false
namespace Go.Ofp
open Go.RowKit Go.Maps

/-- The keys of f, rising. -/
def IsKeys (f : Int → Option Value) (ks : List Int) : Prop := ks.Pairwise (· < ·) ∧ ∀ x, x ∈ ks ↔ ((Lit.int .i64 x).wf = true ∧ (f x).isSome = true)

theorem rising_unique : ∀ {a b : List Int}, a.Pairwise (· < ·) → b.Pairwise (· < ·) → (∀ x, x ∈ a ↔ x ∈ b) → a = b
  | [], [], _, _, _ => rfl
  | [], y :: b, _, _, h => absurd ((h y).2 (by simp)) (by simp)
  | x :: a, [], _, _, h => absurd ((h x).1 (by simp)) (by simp)
  | x :: a, y :: b, h1, h2, h => by
    obtain ⟨p1, p2⟩ := List.pairwise_cons.1 h1
    obtain ⟨q1, q2⟩ := List.pairwise_cons.1 h2
    have e : x = y := by
      rcases List.mem_cons.1 ((h x).1 (by simp)) with e | hx
      · exact e
      · rcases List.mem_cons.1 ((h y).2 (by simp)) with e | hy
        · exact e.symm
        · have := q1 x hx
          have := p1 y hy
          omega
    subst e
    congr 1
    refine rising_unique p2 q2 fun z => ⟨fun hz => ?_, fun hz => ?_⟩
    · rcases List.mem_cons.1 ((h z).1 (by simp [hz])) with e | k
      · have := p1 z hz; omega
      · exact k
    · rcases List.mem_cons.1 ((h z).2 (by simp [hz])) with e | k
      · have := q1 z hz; omega
      · exact k

theorem IMap.keys {P : Program} {k : TypeId} {w : World} {b n : Nat} {f : Int → Option Value} (h : IMap P k w b n f) (hk : P.underlying k = some (.int .i64)) :
    ∃ D : DataW Value, w.ownsMap P k tokR b n D ∧ Maps.size D ≤ n ∧ ∀ ss : List Int, ss.Perm (intKeys D) → IsKeys f (ss.mergeSort fun x y => decide (x ≤ y)) ∧ ss.length ≤ n := by
  obtain ⟨D, hown, hf⟩ := h
  refine ⟨D, hown, hown.size_le, fun ss hp => ?_⟩
  obtain ⟨es, rfl, hpw, -⟩ := hown.entries (int_keyed hk)
  obtain ⟨es', hD', hko⟩ := hown.keysOf
  obtain rfl : es = es' := by simpa using hD'
  have hi : ∀ p ∈ es, ∃ x, p.1 = .int .i64 x ∧ (Lit.int .i64 x).wf = true := fun p hp => by
    obtain ⟨v, hv⟩ := hko p hp
    obtain ⟨x, _, hx, hw⟩ := Maps.keyOf_i64 hk hv
    exact ⟨x, hx, hw⟩
  have hnd : (intKeys (.map es)).Nodup := by
    show (es.map fun p => intOf p.1).Nodup
    refine List.pairwise_map.2 (hpw.imp_of_mem fun {p q} hp' hq' hne e => hne ?_)
    obtain ⟨x, hx, -⟩ := hi p hp'
    obtain ⟨y, hy, -⟩ := hi q hq'
    rw [hx, hy] at e ⊢
    exact congrArg _ e
  have hsz := hown.size_le
  refine ⟨⟨?_, fun x => ?_⟩, by rw [hp.length_eq]; simpa [intKeys, Maps.size] using hsz⟩
  · have tr : ∀ a b c : Int, decide (a ≤ b) = true → decide (b ≤ c) = true → decide (a ≤ c) = true := fun a b c h1 h2 => by simp only [decide_eq_true_eq] at *; exact Int.le_trans h1 h2
    have tot : ∀ a b : Int, (decide (a ≤ b) || decide (b ≤ a)) = true := fun a b => by simp only [Bool.or_eq_true, decide_eq_true_eq]; exact Int.le_total a b
    have h1 := List.pairwise_mergeSort tr tot ss
    have h2 : (ss.mergeSort fun x y => decide (x ≤ y)).Nodup := (List.mergeSort_perm ss _).nodup_iff.2 (hp.nodup_iff.2 hnd)
    refine (h1.and h2).imp fun {a b} ⟨h3, h4⟩ => ?_
    simp only [decide_eq_true_eq] at h3
    omega
  · rw [(List.mergeSort_perm ss _).mem_iff, hp.mem_iff]
    show x ∈ es.map (fun p => intOf p.1) ↔ _
    rw [List.mem_map]
    constructor
    · rintro ⟨p, hp', rfl⟩
      obtain ⟨a, ha, hw⟩ := hi p hp'
      rw [ha]
      refine ⟨hw, ?_⟩
      show (f a).isSome = true
      rw [← (hf a hw).1, has_eq, List.any_eq_true]
      exact ⟨p, hp', by rw [ha]; simp [Lit.sameKey]⟩
    · rintro ⟨hw, hs⟩
      rw [← (hf x hw).1, has_eq, List.any_eq_true] at hs
      obtain ⟨p, hp', hk'⟩ := hs
      obtain ⟨a, ha, -⟩ := hi p hp'
      rw [ha] at hk'
      exact ⟨p, hp', by rw [ha]; simpa [Lit.sameKey, intOf] using hk'⟩

end Go.Ofp
end
