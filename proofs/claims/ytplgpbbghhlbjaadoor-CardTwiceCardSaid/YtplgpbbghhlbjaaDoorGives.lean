/- Ranges over an iterator that keeps its state in a block of its own: every round goes on. -/
import Derived.Test.YtplgpbbghhlbjaaDoorSt6
import Derived.RangeFuncNested
import Derived.RangeFuncCalls
import Derived.RangeFuncLeaves
import Derived.RangeFuncBox
import Derived.Maps.AppendAt
import Derived.OwnWalkIn
import Derived.TacticsInMore
import Derived.LoopNIn
import Derived.LoopIn
set_option linter.unusedSimpArgs false
set_option linter.unusedVariables false
namespace Go.Ofp
open Go.RowKit
variable {F : Fence} {n : Nat} {P : Program}

/-- What an iterator's value does: yield is called with each of xs in turn, each round goes on; what it writes itself lies in block Bn. A round keeps what lies below n0. -/
def Gives (F : Fence) (n : Nat) (P : Program) (g : Nat) (lb : Array Value) (xs : List Value) (n0 Bn : Nat) (w : World) : Prop :=
  ∀ (l : Nat) (J : Nat → World → Prop) (W : World), Below n0 w W → (∀ k A B, J k A → A.grownBy B (some Bn) → J k B) →
    (∀ k x A, J k A → xs[k]? = some x → YieldAt F (n - 1) P l #[x] A fun e B => e = .returned (.bool true) ∧ J (k + 1) B ∧ Below n0 A B) →
    J 0 W → CallsIn F n P g (#[.func (.yield l) #[] #[]] ++ lb) W fun e B => (∃ v, e = .returned v) ∧ J xs.length B

theorem Gives.later {g : Nat} {lb : Array Value} {xs : List Value} {n0 Bn : Nat} {w w1 : World} (h : Gives F n P g lb xs n0 Bn w) (hb : Below n0 w w1) : Gives F n P g lb xs n0 Bn w1 :=
  fun l J W hW hJ hY h0 => h l J W (hb.trans hW) hJ hY h0

/-- How a round's body ends: it goes on. -/
def goOn (n0 B : Nat) (I : Nat → World → Prop) (k : Nat) (W : World) : Exit → Act → World → Prop
  | .normal, _, W' => KeepsFrom B W W' ∧ Below n0 W W' ∧ I (k + 1) W'
  | _, _, _ => False

/-- What the caller keeps between two rounds abides what the iterator and the loop's own books turn. -/
def Abide (B Bn : Nat) (I : Nat → World → Prop) : Prop :=
  ∀ k A C row, I k A → A.grownBy C row → (∀ r, row = some r → r = Bn ∨ (B ≤ r ∧ ∃ o : Obj, A.heap[r]? = some o ∧ o.isCells = false)) → I k C

theorem Abide.and {B Bn : Nat} {I I' : Nat → World → Prop} (h : Abide B Bn I) (h' : Abide B Bn I') : Abide B Bn (fun k W => I k W ∧ I' k W) :=
  fun k A C row hs hg hr => ⟨h k A C row hs.1 hg hr, h' k A C row hs.2 hg hr⟩
theorem Abide.alloc {B Bn : Nat} {I : Nat → World → Prop} (h : Abide B Bn I) {k : Nat} {A : World} (o : Obj) (hs : I k A) : I k (A.alloc o) := h k A _ none hs (World.grownBy_alloc A o none) (fun r e => by cases e)
theorem Abide.put {B Bn : Nat} {I : Nat → World → Prop} (h : Abide B Bn I) {k l : Nat} {A : World} {o : Obj} (o' : Obj) (hs : I k A) (hB : B ≤ l) (hl : A.heap[l]? = some o) (ho : o.isCells = false) : I k (A.putObj l o') :=
  h k A _ (some l) hs (grownBy_putObj' A l o') (fun r e => by cases e; exact .inr ⟨hB, o, hl, ho⟩)
theorem abide_below {B Bn b : Nat} {w0 : World} (hb : b ≤ B) (hn : b ≤ Bn) : Abide B Bn (fun _ W => Below b w0 W ∧ b ≤ W.heap.size) := fun k A C row hs hg hr =>
  ⟨hs.1.grown hg hs.2 (fun j e => by rcases hr j e with rfl | h <;> omega), Nat.le_trans hs.2 hg.size⟩
theorem abide_fr {B Bn : Nat} {w0 : World} (hB : w0.heap.size ≤ B) : Abide B Bn (fun _ W => Fr [Bn] w0 W) := fun k A C row hs hg hr =>
  ⟨hg.os.trans hs.os, hg.tape.trans hs.tape, hg.output.trans hs.output, Nat.le_trans hs.size hg.size, fun j hj hn =>
    (hg.block j (Nat.lt_of_lt_of_le hj hs.size) (fun e => by
      rcases hr j e.symm with rfl | h
      · simp at hn
      · omega)).trans (hs.block j hj hn)⟩
theorem Fr.belowN {F : List Nat} {w0 A C : World} (h : Fr F w0 A) (k : Below w0.heap.size A C) : Fr F w0 C :=
  ⟨k.os.trans h.os, k.tape.trans h.tape, k.output.trans h.output, Nat.le_trans h.size k.size, fun j hj hn => (k.block j hj).trans (h.block j hj hn)⟩
theorem St.ofRow {F : List Nat} {w0 w : World} {e size n : Nat} {v : Value} {xs : List Value} (h : Fr F w0 w) (ho : w.ownsRow w0.heap.size e size v n xs) : St w0 F [Ch.row e size v n xs] w :=
  ⟨h, fun i c hc => by
      cases i with
      | zero => simp at hc; subst hc; exact ⟨ownsRow_zero ho, fun g hg => .inr (ownsRow_foot ho g hg)⟩
      | succ i => simp at hc,
    fun i j c' d hc hd hij => by cases i <;> cases j <;> simp_all⟩
theorem abide_pure {B Bn : Nat} (p : Nat → Prop) : Abide B Bn (fun k _ => p k) := fun _ _ _ _ hs _ _ => hs

/-- A box of the caller's own that holds a slice of the caller's own abides. -/
theorem abide_held {B Bn b base : Nat} {t e : TypeId} {size : Nat} {f : Nat → List Value} (h1 : Bn < base) (h2 : base ≤ b) (h3 : b < B) : Abide B Bn (fun k W => ∃ v, Boxed W b t v ∧ W.ownsRow base e size v k (f k)) := by
  rintro k A C row ⟨v, hv, hr⟩ hg hrow
  refine ⟨v, hv.kept hg (fun e' => ?_), hr.kept hg ?_⟩
  · rcases hrow b e'.symm with h | h <;> omega
  · rcases hr.2 with ⟨rfl, _⟩ | ⟨g, cap, cur, rfl, hbg, hgb, _⟩
    · exact .inl rfl
    · refine .inr fun e' => ?_
      rcases hrow g (by simpa [Value.ownBlock] using e'.symm) with h | ⟨_, o, ho, hc⟩
      · omega
      · rw [hgb] at ho
        cases ho
        cases hc
theorem abide_boxed {B Bn b : Nat} {t : TypeId} {f : Nat → Value} (h1 : Bn ≠ b) (h3 : b < B) : Abide B Bn (fun k W => Boxed W b t (f k)) := by
  rintro k A C row hv hg hrow
  refine hv.kept hg (fun e' => ?_)
  rcases hrow b e'.symm with h | h <;> omega

section
variable {g : Operand} {ps : Array Tmp} {assign body : Code} {Q : Exit → Act → World → Prop} {a : Act} {w : World}

/-- The statement 'for x := range seq { .. }' whose rounds all go on. -/
theorem wpIn_gives (hro : F.round = none) (h1 : 1 ≤ n) {gf : Nat} {lb : Array Value} (hg : a.eval g = .func (.func gf) #[] lb) (hFg : F.fn gf) (eg : ∀ args w, (callFunc gf args).run P w = .ok (.enter gf args) w)
    {xs : List Value} {n0 Bn : Nat} (hs : Gives F (n - 1) P gf lb xs n0 Bn w) (hBn : Bn < w.heap.size) (hn0 : n0 ≤ w.heap.size) (hps : ps.size = 1)
    (I : Nat → World → Prop) (hI : Abide w.heap.size Bn I) (h0 : I 0 w) (a1 : Value → Act)
    (hassign : ∀ (l : Nat) (x : Value) (W : World) (K : Act → World → Prop), x ∈ xs → K (a1 x) W →
      assign.wpIn (F.inRound l) (n - 1 - 1) P (Exit.then K (fun _ _ _ => False)) { tmps := (ps.zip #[x]).foldl (fun t (p, v) => t.setIfInBounds p v) a.tmps, defers := [] } W)
    (hbody : ∀ (l k : Nat) (x : Value) (W : World), I k W → xs[k]? = some x → body.wpIn (F.inRound l) (n - 1 - 1) P (goOn n0 w.heap.size I k W) (a1 x) W)
    (hdone : ∀ (D : Nat) (W : World), w.heap.size ≤ D → I xs.length W → W.heap[D]? = some (.deferred (some [])) → Q .normal { a with defers := { target := .collected D, args := #[] } :: a.defers } W) :
    (Code.rangeFunc g ps assign body).wpIn F n P Q a w := by
  refine wpIn_rangeFunc fun fn hfn => ?_
  rw [hro]
  obtain ⟨b, hb⟩ : ∃ b, w.heap.size = b := ⟨_, rfl⟩
  obtain ⟨rec, hrec⟩ : ∃ rec : LoopState → Loop, rec = fun st => { state := st, pending := none, fn, tmps := a.tmps, params := ps, assign, body, defers := b } := ⟨_, rfl⟩
  have hst : ∀ s, (rec s).state = s := fun s => by rw [hrec]
  have hto : ∀ s t, { rec s with state := t } = rec t := fun s t => by rw [hrec]
  have hto2 : ∀ s t, { rec s with state := t, pending := none } = rec t := fun s t => by rw [hrec]
  have hpe : ∀ s, (rec s).pending = none := fun s => by rw [hrec]
  obtain ⟨W1, hW1⟩ : ∃ W1, (w.alloc (.deferred (some []))).alloc (.loop (rec .ready)) = W1 := ⟨_, rfl⟩
  have hL1 : W1.heap[b + 1]? = some (.loop (rec .ready)) := by
    rw [← hW1, ← hb]
    have := World.alloc_heap_new (w.alloc (.deferred (some []))) (.loop (rec .ready))
    rwa [World.size_alloc] at this
  have hD1 : W1.heap[b]? = some (.deferred (some [])) := by
    rw [← hW1, ← hb]
    exact (Below.heap_alloc _ _ _ (by simp)).trans (World.alloc_heap_new w _)
  have hI1 : I 0 W1 := by
    rw [← hW1]
    exact hI.alloc _ (hI.alloc _ h0)
  have hB1 : Below n0 w W1 := by
    rw [← hW1]
    exact ((Below.refl _ w).alloc hn0 _).alloc (by simp; omega) _
  have hput : ∀ (A : World) (o o' : Obj), A.heap[b + 1]? = some o → o.isCells = false → Below n0 A (A.putObj (b + 1) o') := fun A o o' h1 h2 =>
    (Below.refl n0 A).grown (grownBy_putObj' A _ o') (by have := (Array.getElem?_eq_some_iff.1 h1).1; omega) (fun j e => by cases e; omega)
  refine ⟨b + 1, [{ target := .collected b, args := #[] }], W1, { target := .fn (.func gf) lb, args := #[.func (.yield (b + 1)) #[] #[]] }, W1, gf,
    #[.func (.yield (b + 1)) #[] #[]] ++ lb, W1, ?_, ?_, ?_, ?_, fun _ => h1, ?_⟩
  · rw [← hW1, hrec, ← hb]
    exact run_enterLoop_outer _ _ _ _ _
  · simp only [resolve, hg]
    simp [go_sem]
  · intro f' hf'
    simp [Target.leads] at hf'
    subst hf'
    exact hFg
  · simp [invoke, go_sem, eg]
  refine (hs (b + 1) (fun k W => I k W ∧ W.heap[b + 1]? = some (.loop (rec .ready)) ∧ W.heap[b]? = some (.deferred (some []))) W1 hB1 ?_ ?_ ⟨hI1, hL1, hD1⟩).mono ?_
  · rintro k A C ⟨h2, h3, h4⟩ hgr
    exact ⟨hI k A C _ h2 hgr (fun r e => by cases e; exact .inl rfl), (hgr.block _ (Array.getElem?_eq_some_iff.1 h3).1 (by simp; omega)).trans h3, (hgr.block _ (Array.getElem?_eq_some_iff.1 h4).1 (by simp; omega)).trans h4⟩
  · rintro k x A ⟨h2, h3, h4⟩ hx
    have hlt := (Array.getElem?_eq_some_iff.1 h3).1
    have hy := run_yield (P := P) (args := #[x]) h3 (by rw [hrec]; simp [hps])
    rw [hrec] at hy
    refine ⟨fn, _, assign, body, hy, roundIn_of_wpIn hfn (hassign _ x A _ (List.mem_of_getElem? hx) ⟨_, run_beginRound h3 (hst _), ?_⟩)⟩
    rw [hto]
    have h5 : (A.putObj (b + 1) (.loop (rec .busy))).heap[b + 1]? = some (.loop (rec .busy)) := World.putObj_heap_same hlt
    have h6 : (A.putObj (b + 1) (.loop (rec .busy))).heap[b]? = some (.deferred (some [])) := (World.putObj_heap_other (by omega)).trans h4
    refine wpIn_mono (hbody _ k x _ (hI.put _ h2 (by omega) h3 rfl) hx) ?_
    rintro e a3 C hp
    cases e with
    | normal =>
      obtain ⟨k1, k2, k3⟩ := hp
      have h7 := k1.same _ _ (by omega) h5 rfl
      have h8 := k1.same _ _ (by omega) h6 rfl
      have hr := run_endRound (P := P) none h7
      rw [Option.isNone_none, if_pos rfl, hto2] at hr
      exact ⟨_, _, hr, rfl, ⟨hI.put _ k3 (by omega) h7 rfl, World.putObj_heap_same (Array.getElem?_eq_some_iff.1 h7).1, (World.putObj_heap_other (by omega)).trans h8⟩,
        ((hput A _ _ h3 rfl).trans k2).trans (hput C _ _ h7 rfl)⟩
    | ret => exact hp.elim
    | exit id => exact hp.elim
    | goto t => exact hp.elim
    | panic c => exact hp.elim
    | outgrown => exact hp.elim
  · rintro e W2 ⟨⟨v, rfl⟩, h2, h3, h4⟩
    refine ⟨none, _, ?_, hdone b _ (by omega) (hI.put (.loop (rec .exhausted)) h2 (by omega) h3 rfl) ((World.putObj_heap_other (by omega)).trans h4)⟩
    have := run_endLoop (P := P) h3 (by rw [hst]; simp)
    rw [hrec] at this ⊢
    exact this
end
end Go.Ofp
