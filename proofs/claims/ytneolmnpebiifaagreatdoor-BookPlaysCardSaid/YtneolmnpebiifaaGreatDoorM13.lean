/- Texts laid together: Gives Each Flat CardMath CardOpen. -/
import Derived.RangeFuncNested
import Derived.RangeFuncCalls
import Derived.RangeFuncLeaves
import Derived.RangeFuncBox
import Derived.Maps.AppendAt
import Derived.OwnWalkIn
import Derived.TacticsInMore
import Derived.LoopNIn
import Derived.LoopIn
import Derived.Shelf.Abstract
import Derived.Laws.BitsAllLaws
import Derived.Test.YtneolmnpebiifaaGreatDoorM1
import Derived.Test.YtneolmnpebiifaaGreatDoorM4
import Derived.Test.YtneolmnpebiifaaGreatDoorM5
import Derived.Test.YtneolmnpebiifaaGreatDoorM8
section
/- Ranges over an iterator that keeps its state in a block of its own: every round goes on. -/
set_option linter.unusedSimpArgs false
set_option linter.unusedVariables false
namespace Go.Ofp
open Go.RowKit
variable {F : Fence} {n : Nat} {P : Program}

/-- What an iterator's value does: yield is called with each of xs in turn, each round goes on; what it writes itself lies in block Bn. A round keeps what lies below n0. -/
def Gives (F : Fence) (n : Nat) (P : Program) (g : Nat) (lb : Array Value) (xs : List Value) (n0 Bn : Nat) (w : World) : Prop :=
  ∀ (l : Nat) (J : Nat → World → Prop) (W : World), Below n0 w W → (∀ k A B, J k A → A.grownBy B (some Bn) → J k B) →
    (∀ k x A, J k A → xs[k]? = some x → YieldAt F (n - 1) P l #[x] A fun e B => e = .returned (.bool true) ∧ J (k + 1) B ∧ Below n0 A B) →
    J 0 W → CallsIn F n P g (#[.func (.yield l) #[] #[]] ++ lb) W fun e B => (∃ v, e = .returned v) ∧ J xs.length B

theorem Gives.later {g : Nat} {lb : Array Value} {xs : List Value} {n0 Bn : Nat} {w w1 : World} (h : Gives F n P g lb xs n0 Bn w) (hb : Below n0 w w1) : Gives F n P g lb xs n0 Bn w1 :=
  fun l J W hW hJ hY h0 => h l J W (hb.trans hW) hJ hY h0

/-- How a round's body ends: it goes on. -/
def goOn (n0 B : Nat) (I : Nat → World → Prop) (k : Nat) (W : World) : Exit → Act → World → Prop
  | .normal, _, W' => KeepsFrom B W W' ∧ Below n0 W W' ∧ I (k + 1) W'
  | _, _, _ => False

/-- What the caller keeps between two rounds abides what the iterator and the loop's own books turn. -/
def Abide (B Bn : Nat) (I : Nat → World → Prop) : Prop :=
  ∀ k A C row, I k A → A.grownBy C row → (∀ r, row = some r → r = Bn ∨ (B ≤ r ∧ ∃ o : Obj, A.heap[r]? = some o ∧ o.isCells = false)) → I k C

theorem Abide.and {B Bn : Nat} {I I' : Nat → World → Prop} (h : Abide B Bn I) (h' : Abide B Bn I') : Abide B Bn (fun k W => I k W ∧ I' k W) :=
  fun k A C row hs hg hr => ⟨h k A C row hs.1 hg hr, h' k A C row hs.2 hg hr⟩
theorem Abide.alloc {B Bn : Nat} {I : Nat → World → Prop} (h : Abide B Bn I) {k : Nat} {A : World} (o : Obj) (hs : I k A) : I k (A.alloc o) := h k A _ none hs (World.grownBy_alloc A o none) (fun r e => by cases e)
theorem Abide.put {B Bn : Nat} {I : Nat → World → Prop} (h : Abide B Bn I) {k l : Nat} {A : World} {o : Obj} (o' : Obj) (hs : I k A) (hB : B ≤ l) (hl : A.heap[l]? = some o) (ho : o.isCells = false) : I k (A.putObj l o') :=
  h k A _ (some l) hs (grownBy_putObj' A l o') (fun r e => by cases e; exact .inr ⟨hB, o, hl, ho⟩)
theorem abide_fr {B Bn : Nat} {w0 : World} (hB : w0.heap.size ≤ B) : Abide B Bn (fun _ W => Fr [Bn] w0 W) := fun k A C row hs hg hr =>
  ⟨hg.os.trans hs.os, hg.tape.trans hs.tape, hg.output.trans hs.output, Nat.le_trans hs.size hg.size, fun j hj hn =>
    (hg.block j (Nat.lt_of_lt_of_le hj hs.size) (fun e => by
      rcases hr j e.symm with rfl | h
      · simp at hn
      · omega)).trans (hs.block j hj hn)⟩
theorem Fr.belowN {F : List Nat} {w0 A C : World} (h : Fr F w0 A) (k : Below w0.heap.size A C) : Fr F w0 C :=
  ⟨k.os.trans h.os, k.tape.trans h.tape, k.output.trans h.output, Nat.le_trans h.size k.size, fun j hj hn => (k.block j hj).trans (h.block j hj hn)⟩
theorem St.ofRow {F : List Nat} {w0 w : World} {e size n : Nat} {v : Value} {xs : List Value} (h : Fr F w0 w) (ho : w.ownsRow w0.heap.size e size v n xs) : St w0 F [Ch.row e size v n xs] w :=
  ⟨h, fun i c hc => by
      cases i with
      | zero => simp at hc; subst hc; exact ⟨ownsRow_zero ho, fun g hg => .inr (ownsRow_foot ho g hg)⟩
      | succ i => simp at hc,
    fun i j c' d hc hd hij => by cases i <;> cases j <;> simp_all⟩
/-- A box of the caller's own that holds a slice of the caller's own abides. -/
theorem abide_held {B Bn b base : Nat} {t e : TypeId} {size : Nat} {f : Nat → List Value} (h1 : Bn < base) (h2 : base ≤ b) (h3 : b < B) : Abide B Bn (fun k W => ∃ v, Boxed W b t v ∧ W.ownsRow base e size v k (f k)) := by
  rintro k A C row ⟨v, hv, hr⟩ hg hrow
  refine ⟨v, hv.kept hg (fun e' => ?_), hr.kept hg ?_⟩
  · rcases hrow b e'.symm with h | h <;> omega
  · rcases hr.2 with ⟨rfl, _⟩ | ⟨g, cap, cur, rfl, hbg, hgb, _⟩
    · exact .inl rfl
    · refine .inr fun e' => ?_
      rcases hrow g (by simpa [Value.ownBlock] using e'.symm) with h | ⟨_, o, ho, hc⟩
      · omega
      · rw [hgb] at ho
        cases ho
        cases hc
section
variable {g : Operand} {ps : Array Tmp} {assign body : Code} {Q : Exit → Act → World → Prop} {a : Act} {w : World}

/-- The statement 'for x := range seq { .. }' whose rounds all go on. -/
theorem wpIn_gives (hro : F.round = none) (h1 : 1 ≤ n) {gf : Nat} {lb : Array Value} (hg : a.eval g = .func (.func gf) #[] lb) (hFg : F.fn gf) (eg : ∀ args w, (callFunc gf args).run P w = .ok (.enter gf args) w)
    {xs : List Value} {n0 Bn : Nat} (hs : Gives F (n - 1) P gf lb xs n0 Bn w) (hBn : Bn < w.heap.size) (hn0 : n0 ≤ w.heap.size) (hps : ps.size = 1)
    (I : Nat → World → Prop) (hI : Abide w.heap.size Bn I) (h0 : I 0 w) (a1 : Value → Act)
    (hassign : ∀ (l : Nat) (x : Value) (W : World) (K : Act → World → Prop), x ∈ xs → K (a1 x) W →
      assign.wpIn (F.inRound l) (n - 1 - 1) P (Exit.then K (fun _ _ _ => False)) { tmps := (ps.zip #[x]).foldl (fun t (p, v) => t.setIfInBounds p v) a.tmps, defers := [] } W)
    (hbody : ∀ (l k : Nat) (x : Value) (W : World), I k W → xs[k]? = some x → body.wpIn (F.inRound l) (n - 1 - 1) P (goOn n0 w.heap.size I k W) (a1 x) W)
    (hdone : ∀ (D : Nat) (W : World), w.heap.size ≤ D → I xs.length W → W.heap[D]? = some (.deferred (some [])) → Q .normal { a with defers := { target := .collected D, args := #[] } :: a.defers } W) :
    (Code.rangeFunc g ps assign body).wpIn F n P Q a w := by
  refine wpIn_rangeFunc fun fn hfn => ?_
  rw [hro]
  obtain ⟨b, hb⟩ : ∃ b, w.heap.size = b := ⟨_, rfl⟩
  obtain ⟨rec, hrec⟩ : ∃ rec : LoopState → Loop, rec = fun st => { state := st, pending := none, fn, tmps := a.tmps, params := ps, assign, body, defers := b } := ⟨_, rfl⟩
  have hst : ∀ s, (rec s).state = s := fun s => by rw [hrec]
  have hto : ∀ s t, { rec s with state := t } = rec t := fun s t => by rw [hrec]
  have hto2 : ∀ s t, { rec s with state := t, pending := none } = rec t := fun s t => by rw [hrec]
  have hpe : ∀ s, (rec s).pending = none := fun s => by rw [hrec]
  obtain ⟨W1, hW1⟩ : ∃ W1, (w.alloc (.deferred (some []))).alloc (.loop (rec .ready)) = W1 := ⟨_, rfl⟩
  have hL1 : W1.heap[b + 1]? = some (.loop (rec .ready)) := by
    rw [← hW1, ← hb]
    have := World.alloc_heap_new (w.alloc (.deferred (some []))) (.loop (rec .ready))
    rwa [World.size_alloc] at this
  have hD1 : W1.heap[b]? = some (.deferred (some [])) := by
    rw [← hW1, ← hb]
    exact (Below.heap_alloc _ _ _ (by simp)).trans (World.alloc_heap_new w _)
  have hI1 : I 0 W1 := by
    rw [← hW1]
    exact hI.alloc _ (hI.alloc _ h0)
  have hB1 : Below n0 w W1 := by
    rw [← hW1]
    exact ((Below.refl _ w).alloc hn0 _).alloc (by simp; omega) _
  have hput : ∀ (A : World) (o o' : Obj), A.heap[b + 1]? = some o → o.isCells = false → Below n0 A (A.putObj (b + 1) o') := fun A o o' h1 h2 =>
    (Below.refl n0 A).grown (grownBy_putObj' A _ o') (by have := (Array.getElem?_eq_some_iff.1 h1).1; omega) (fun j e => by cases e; omega)
  refine ⟨b + 1, [{ target := .collected b, args := #[] }], W1, { target := .fn (.func gf) lb, args := #[.func (.yield (b + 1)) #[] #[]] }, W1, gf,
    #[.func (.yield (b + 1)) #[] #[]] ++ lb, W1, ?_, ?_, ?_, ?_, fun _ => h1, ?_⟩
  · rw [← hW1, hrec, ← hb]
    exact run_enterLoop_outer _ _ _ _ _
  · simp only [resolve, hg]
    simp [go_sem]
  · intro f' hf'
    simp [Target.leads] at hf'
    subst hf'
    exact hFg
  · simp [invoke, go_sem, eg]
  refine (hs (b + 1) (fun k W => I k W ∧ W.heap[b + 1]? = some (.loop (rec .ready)) ∧ W.heap[b]? = some (.deferred (some []))) W1 hB1 ?_ ?_ ⟨hI1, hL1, hD1⟩).mono ?_
  · rintro k A C ⟨h2, h3, h4⟩ hgr
    exact ⟨hI k A C _ h2 hgr (fun r e => by cases e; exact .inl rfl), (hgr.block _ (Array.getElem?_eq_some_iff.1 h3).1 (by simp; omega)).trans h3, (hgr.block _ (Array.getElem?_eq_some_iff.1 h4).1 (by simp; omega)).trans h4⟩
  · rintro k x A ⟨h2, h3, h4⟩ hx
    have hlt := (Array.getElem?_eq_some_iff.1 h3).1
    have hy := run_yield (P := P) (args := #[x]) h3 (by rw [hrec]; simp [hps])
    rw [hrec] at hy
    refine ⟨fn, _, assign, body, hy, roundIn_of_wpIn hfn (hassign _ x A _ (List.mem_of_getElem? hx) ⟨_, run_beginRound h3 (hst _), ?_⟩)⟩
    rw [hto]
    have h5 : (A.putObj (b + 1) (.loop (rec .busy))).heap[b + 1]? = some (.loop (rec .busy)) := World.putObj_heap_same hlt
    have h6 : (A.putObj (b + 1) (.loop (rec .busy))).heap[b]? = some (.deferred (some [])) := (World.putObj_heap_other (by omega)).trans h4
    refine wpIn_mono (hbody _ k x _ (hI.put _ h2 (by omega) h3 rfl) hx) ?_
    rintro e a3 C hp
    cases e with
    | normal =>
      obtain ⟨k1, k2, k3⟩ := hp
      have h7 := k1.same _ _ (by omega) h5 rfl
      have h8 := k1.same _ _ (by omega) h6 rfl
      have hr := run_endRound (P := P) none h7
      rw [Option.isNone_none, if_pos rfl, hto2] at hr
      exact ⟨_, _, hr, rfl, ⟨hI.put _ k3 (by omega) h7 rfl, World.putObj_heap_same (Array.getElem?_eq_some_iff.1 h7).1, (World.putObj_heap_other (by omega)).trans h8⟩,
        ((hput A _ _ h3 rfl).trans k2).trans (hput C _ _ h7 rfl)⟩
    | ret => exact hp.elim
    | exit id => exact hp.elim
    | goto t => exact hp.elim
    | panic c => exact hp.elim
    | outgrown => exact hp.elim
  · rintro e W2 ⟨⟨v, rfl⟩, h2, h3, h4⟩
    refine ⟨none, _, ?_, hdone b _ (by omega) (hI.put (.loop (rec .exhausted)) h2 (by omega) h3 rfl) ((World.putObj_heap_other (by omega)).trans h4)⟩
    have := run_endLoop (P := P) h3 (by rw [hst]; simp)
    rw [hrec] at this ⊢
    exact this
end
end Go.Ofp
end

section
/- The numbers of a set of bits, one behind the other. -/
set_option linter.unusedSimpArgs false
set_option linter.unusedVariables false
namespace Go.Ofp
/-- The library's table. -/
def tzTab : List UInt8 := [0, 1, 28, 2, 29, 14, 24, 3, 30, 22, 20, 15, 25, 17, 4, 8, 31, 27, 13, 23, 21, 19, 16, 7, 26, 12, 18, 6, 11, 5, 10, 9]
/-- The lowest bit's number. -/
def low (n : Nat) : Nat := ((List.range 32).find? fun i => n.testBit i).getD 32
/-- The numbers of a small set. -/
def bitsOf (n : Nat) : List Nat := (List.range 8).filter fun i => n.testBit i
end Go.Ofp
namespace Go.Proofs.YtneolmnpebiifaaGreatDoor
open Go.RowKit Go.Ofp
set_option linter.unusedVariables false
set_option maxRecDepth 100000
set_option maxHeartbeats 4000000

theorem tz_fact : ∀ n : Fin 256, n.val ≠ 0 → (tzTab[(bits .and .u32 (n.val : Int) (-(n.val : Int) % 4294967296) * 125613361 % 4294967296 / 134217728).toNat]?).map (·.toNat) = some (low n.val) ∧ low n.val < 8 := by decide +kernel

theorem tz_any (q : Nat) (w : World) (h0 : q ≠ 0) (h : q < 256) (ht : Sl w (some ⟨0, 0, none⟩) (tzTab.map vb)) : Calls Tryz.prog 188 #[.int .u32 q] w fun e w' => e = .returned (.int .i64 (low q : Nat)) ∧ w = w' := by
  have hz : ((q : Int) == 0) = false := by rw [beq_eq_false_iff_ne]; omega
  obtain ⟨h1, h2⟩ := tz_fact ⟨q, h⟩ h0
  simp only at h1 h2
  obtain ⟨x, hx, hx2⟩ := Option.map_eq_some_iff.1 h1
  obtain ⟨hi, hx3⟩ := List.getElem?_eq_some_iff.1 hx
  have hc := ht.add _ (vb x) (by rw [List.getElem?_map, hx]; rfl)
  rw [Addr.add_lit, Nat.zero_add, vb, hx2] at hc
  generalize low q = t at h2 hc ⊢
  clear ht h1 hx hi hx3 hx2 h0 h
  go_enter Tryz.func188, Tryz.ntmps188
  go_wp2_with fail
  go_ret
  exact ⟨rfl, rfl⟩

theorem bits_fact : ∀ n : Fin 256, n.val ≠ 0 → bitsOf n.val = low n.val :: bitsOf (bits .and .u32 (n.val : Int) ((n.val : Int) - 1)).toNat ∧ (bits .and .u32 (n.val : Int) ((n.val : Int) - 1)).toNat < n.val ∧ 0 ≤ bits .and .u32 (n.val : Int) ((n.val : Int) - 1) := by decide +kernel
theorem bits_none : bitsOf 0 = [] := by decide

/-- What the state's cell holds, as a number. -/
def held (b : Nat) (w : World) : Nat := match w.cell? ⟨b, 0, none⟩ with
  | some (.int _ z) => z.toNat
  | _ => 0

theorem held_eq {b : Nat} {w : World} {t : TypeId} {k : IntKind} {q : Nat} (h : Boxed w b t (.int k q)) : held b w = q := by
  unfold held
  rw [h.cell]
  rfl

attribute [local go_sem] Oper.semAt_some in
theorem each1_gives (n : Nat) (hn : 1 ≤ n) (q : Nat) (h : q < 256) (Bn n0 : Nat) (w : World) (hb : Boxed w Bn 37 (.int .u32 q)) (hB : Bn < n0) (h0 : 0 < Bn) (ht : Sl w (some ⟨0, 0, none⟩) (tzTab.map vb)) :
    Gives Fence.wide n Tryz.prog 187 #[.pointer (some ⟨Bn, 0, none⟩)] ((bitsOf q).map fun i => .int .i64 (i : Nat)) n0 Bn w := by
  intro l J W hW hJ hY hJ0
  have hbW : Boxed W Bn 37 (.int .u32 q) := (hW.block Bn hB).trans hb
  have htW : ∀ A B, Below n0 A B → Sl A (some ⟨0, 0, none⟩) (tzTab.map vb) → Sl B (some ⟨0, 0, none⟩) (tzTab.map vb) := by
    intro A B hAB hA i hi
    obtain ⟨b, off, e, hc⟩ := hA i hi
    cases e
    exact ⟨_, _, rfl, (hAB.cell (p := ⟨_, _, none⟩) (by simp only; omega)).trans hc⟩
  have hT := htW _ _ hW ht
  refine callsIn_of_wp Tryz.func187 rfl trivial ?_ rfl
  simp only [Tryz.ntmps187, List.size_toArray, List.length_cons, List.length_nil, Nat.reduceAdd, Nat.reduceSub, Array.replicate_succ, Array.replicate_zero, List.push_toArray, List.append_toArray, List.nil_append, List.cons_append]
  gi_wp2
  gi_loopw [3] (fun _ wr => ∃ k q' : Nat, q' < 256 ∧ k ≤ (bitsOf q).length ∧ Hid (bitsOf q' = (bitsOf q).drop k) ∧ Boxed wr Bn 37 (.int .u32 q') ∧ Hid (Sl wr (some ⟨0, 0, none⟩) (tzTab.map vb)) ∧ J k wr) (fun _ wr => held Bn wr)
  case atStart => exact ⟨0, q, h, Nat.zero_le _, Lib.hid rfl, hbW, Lib.hid hT, hJ0⟩
  case round =>
    obtain ⟨k, q', hq, hk, hd, hbx, hTr, hJk⟩ := hrel
    have hc := hbx.cell
    by_cases hz : q' = 0
    · subst hz
      have hdo := hd.out
      rw [bits_none] at hdo
      have hlen : (bitsOf q).length = k := by
        have := List.drop_eq_nil_iff.1 hdo.symm
        omega
      gi_wp2
      go_end0
      exact ⟨⟨_, rfl⟩, by rw [List.length_map, hlen]; exact hJk⟩
    · obtain ⟨f1, f2, f3⟩ := bits_fact ⟨q', hq⟩ hz
      simp only at f1 f2 f3
      have hdo := hd.out
      rw [f1] at hdo
      have hkl : k < (bitsOf q).length := by
        rcases Nat.lt_or_ge k (bitsOf q).length with h | h
        · exact h
        · rw [List.drop_eq_nil_of_le h] at hdo; cases hdo
      rw [List.drop_eq_getElem_cons hkl] at hdo
      obtain ⟨e1, e2⟩ := List.cons.inj hdo
      have hxs : ((bitsOf q).map fun i => Value.int .i64 (i : Nat))[k]? = some (.int .i64 (low q' : Nat)) := by
        rw [List.getElem?_map, List.getElem?_eq_getElem hkl, e1]
        rfl
      have hzb : ((q' : Int) != 0) = true := by rw [bne_iff_ne]; omega
      obtain ⟨q2, hq2⟩ := Int.eq_ofNat_of_zero_le f3
      rw [hq2, Int.toNat_natCast] at e2 f2
      have cT := Lib.hid (tz_any q' wr hz hq hTr.out)
      obtain ⟨fn, tmps, assign, body, hy, hR⟩ := hY k _ wr hJk hxs
      have hqe := Lib.hid hq2
      have hqm : ((q' : Int) - 1) % 4294967296 = (q' : Int) - 1 := by omega
      replace e2 := Lib.hid e2
      clear hdo hd f1 f3 hq2 e1 hxs
      gi_wp2_with (refine ⟨trivial, ?_⟩; gi_at_call 188; refine (callsIn_wide.2 cT.out).mono ?_; rintro _ _ ⟨rfl, rfl⟩)
      refine hR.mono ?_
      rintro e W3 ⟨rfl, hJ3, hb3⟩
      have hbx3 : Boxed W3 Bn 37 (.int .u32 q') := (hb3.block Bn hB).trans hbx
      have hT3 := htW _ _ hb3 hTr.out
      have hc3 := hbx3.cell
      have hf3 := hbx3.frozen
      gi_wp2
      have hx4 : Boxed (W3.setCell ⟨Bn, 0, none⟩ (.int .u32 q2)) Bn 37 (.int .u32 q2) := hbx3.set _
      have hT4 : Sl (W3.setCell ⟨Bn, 0, none⟩ (.int .u32 q2)) (some ⟨0, 0, none⟩) (tzTab.map vb) := by
        intro i hi
        obtain ⟨b, off, e, hc⟩ := hT3 i hi
        cases e
        exact ⟨_, _, rfl, (((Below.refl Bn W3).setCell (p := ⟨Bn, 0, none⟩) (Nat.le_refl _) _).cell (p := ⟨_, _, none⟩) h0).trans hc⟩
      have hJ4 := hJ _ _ _ hJ3 (grownBy_setCell' W3 Bn (.int .u32 q2))
      go_roundw
      case rel =>
        rw [hqe.out]
        exact ⟨k + 1, q2, by omega, by omega, e2, hx4, Lib.hid hT4, hJ4⟩
      case measure =>
        rw [hqe.out, held_eq hx4, held_eq hbx]
        exact f2

theorem each_any (q : Nat) (w : World) : Calls Tryz.prog 176 #[.int .u32 q] w fun e w' => e = .returned (.func (.func 187) #[] #[.pointer (some ⟨w.heap.size, 0, none⟩)]) ∧ w' = w.alloc (.cells #[.int .u32 q] 37) := by
  go_enter Tryz.func176, Tryz.ntmps176
  go_wp2_with fail
  go_ret
  exact ⟨rfl, rfl⟩

attribute [local go_sem] Oper.semAt_some in
/-- slices.AppendSeq of nothing and whatever iterator. -/
theorem apseq_any (gf : Nat) (lb : Array Value) (eg : ∀ args w, (callFunc gf args).run Tryz.prog w = .ok (.enter gf args) w) (l : List Int) (Bn : Nat) (hl : l.length ≤ 100000) (w : World) (hBn : Bn < w.heap.size) (hs : Gives Fence.wide 9 Tryz.prog gf lb (l.map vi) w.heap.size Bn w) :
    Calls Tryz.prog 145 #[.slice none 0 0, .func (.func gf) #[] lb] w fun e w' => ∃ a c, e = .returned (.slice a l.length c) ∧ l.length ≤ c ∧ c ≤ maxLen ∧ St w [Bn] [irow a c l] w' := by
  obtain ⟨i0, hi, hz0, hz1, hz2⟩ := info_parts (show (Tryz.prog.info? 3).map (fun i => (i.zero, i.size, i.bytes)) = some (some (.int .i64 0), 1, 8) by kernel_rfl)
  refine (callsIn_wide (n := 10)).1 ?_
  refine callsIn_of_wp_marks Tryz.func145 rfl trivial ?_ rfl
  simp only [Tryz.ntmps145, List.size_toArray, List.length_cons, List.length_nil, Nat.reduceAdd, Nat.reduceSub, Array.replicate_succ, Array.replicate_zero, List.push_toArray, List.append_toArray, List.nil_append, List.cons_append]
  gi_wp2
  have hN := Lib.hid hl
  refine wpIn_gives (n := 10) rfl (by decide) (gf := gf) (lb := lb) rfl trivial eg (xs := l.map vi) (n0 := w.heap.size) (Bn := Bn) (hs.later ((Below.refl _ w).alloc (Nat.le_refl _) _)) (by simp; omega) (by simp) rfl
    (fun k W => (∃ v, Boxed W w.heap.size 46 v ∧ W.ownsRow w.heap.size 3 1 v k ((l.take k).map vi)) ∧ Fr [Bn] w W) ?hI ?h0
    (fun x => { tmps := #[.slice none 0 0, .func (.func gf) #[] lb, .pointer (some ⟨w.heap.size, 0, none⟩), undef, .slice none 0 0, x, .func (.func gf) #[] lb, x, undef, undef, undef, undef, undef], defers := [] }) ?assign ?body ?done
  case hI => exact (abide_held hBn (Nat.le_refl _) (by simp)).and (abide_fr (by simp))
  case h0 => exact ⟨⟨_, Boxed.new _ _ _, World.ownsRow_nil _ _ _ _⟩, (Fr.alloc w _).mono (by simp)⟩
  case assign =>
    intro l x W K hx hK
    obtain ⟨z, hz, rfl⟩ := List.mem_map.1 hx
    unfold vi at hK ⊢
    gi_wp2
    exact hK
  case body =>
    rintro L k x W ⟨⟨v, hv, hrow⟩, hB⟩ hx
    have hsz := hB.size
    have hc := hv.cell
    rw [List.getElem?_map] at hx
    obtain ⟨z, hz, rfl⟩ := Option.map_eq_some_iff.1 hx
    have hkl := (List.getElem?_eq_some_iff.1 hz).1
    unfold vi
    gi_wp2_with (gi_at_builtin; refine wpListIn_append_own _ rfl _ _ 46 rfl w.heap.size 3 i0 (.int .i64 0) 1 8 Tryz.underlying46 hi hz0 hz1 hz2 rfl (by decide) _ _ _ rfl (hrow.alloc _) ⟨W.heap.size, 0, none⟩ 1 1 [.int .i64 z] rfl rfl (cell_one_new _ _ _) (by simp [Value.oneCell']) (by unfold maxLen; omega) (by omega) (by simp; omega) ?_; intro v' w1 hown' hgrow _; obtain ⟨g', cap', rfl⟩ := ownsRow_succ hown'; obtain ⟨hv1, hv2, hr2, hk2, hb2⟩ := hv.appended (by decide) hrow hsz (Nat.le_refl _) hown' hgrow; have hc1 := hv1.cell; have hf1 := hv1.frozen)
    have hls : (l.take (k + 1)).map vi = (l.take k).map vi ++ [.int .i64 z] := by
      rw [List.take_succ_eq_append_getElem hkl, List.map_append, (List.getElem?_eq_some_iff.1 hz).2]
      rfl
    exact ⟨hk2.from _, hb2, ⟨_, hv2, by have := hr2; rw [← hls] at this; exact this⟩, hB.belowN hb2⟩
  case done =>
    rintro D W hD ⟨⟨v, hv, hrow⟩, hB⟩ hK
    have hc := hv.cell
    gi_wp2
    rw [List.length_map, List.take_length] at hrow
    obtain ⟨a, cap, rfl, -, -, h5, h6⟩ := owns_sl hrow
    refine ⟨by simp, .inl ⟨_, _, rfl, run_takeDeferred hK, ?_⟩⟩
    exact ⟨_, results_tmp rfl _ _ _, a, cap, rfl, h5, h6, St.ofRow (hB.belowN (belowK_b (w := w) (Nat.le_refl _) W D _ _ (by simp at hD; omega) hK rfl rfl)) (ownsRow_putObj hrow _ hK rfl)⟩

theorem coll_any (gf : Nat) (lb : Array Value) (eg : ∀ args w, (callFunc gf args).run Tryz.prog w = .ok (.enter gf args) w) (l : List Int) (Bn : Nat) (hl : l.length ≤ 100000) (w : World) (hBn : Bn < w.heap.size) (hs : Gives Fence.wide 9 Tryz.prog gf lb (l.map vi) w.heap.size Bn w) :
    Calls Tryz.prog 108 #[.func (.func gf) #[] lb] w fun e w' => ∃ a c, e = .returned (.slice a l.length c) ∧ l.length ≤ c ∧ c ≤ maxLen ∧ St w [Bn] [irow a c l] w' := by
  have cA := Lib.hid (apseq_any gf lb eg l Bn hl w hBn hs)
  clear hs eg
  go_enter Tryz.func108, Tryz.ntmps108
  go_wp2_with (go_at_call 145; (with_reducible refine cA.out.mono ?_); rintro _ w3 ⟨a, c, rfl, h1, h2, h3⟩)
  go_ret
  exact ⟨a, c, rfl, h1, h2, h3⟩

theorem bitsOf_mod (m : Nat) : bitsOf (m % 256) = bitsOf m := by
  unfold bitsOf
  refine List.filter_congr fun i hi => ?_
  have : i < 8 := by simpa using hi
  rw [show (256 : Nat) = 2 ^ 8 by rfl, Nat.testBit_mod_two_pow]
  simp [this]
theorem bitsOf_len (m : Nat) : (bitsOf m).length ≤ 8 := by
  have := List.length_filter_le (fun i => m.testBit i) (List.range 8)
  simpa [bitsOf] using this

/-- A mask's fields. -/
def nums (l : List Nat) : List Int := l.map fun (i : Nat) => (i : Int)
theorem fields_any (m : Nat) (hm : m < 4294967296) (w : World) (h0 : 0 < w.heap.size) (ht : Sl w (some ⟨0, 0, none⟩) (tzTab.map vb)) :
    Calls Tryz.prog 149 #[.int .u32 m] w (IntsRet (nums (bitsOf m)) w) := by
  have e : bits .and .u32 (m : Int) 255 = ((m % 256 : Nat) : Int) := by
    rw [show (255 : Int) = ((255 : Nat) : Int) by rfl, u32_and_nat m 255 hm (by decide), show (255 : Nat) = 2 ^ 8 - 1 by rfl, Nat.and_two_pow_sub_one_eq_mod]
  rw [← bitsOf_mod]
  have hl := bitsOf_len (m % 256)
  have hq : m % 256 < 256 := by omega
  generalize m % 256 = q at *
  have cE := Lib.hid (each_any q w)
  have cC := coll_any 187 #[.pointer (some ⟨w.heap.size, 0, none⟩)] (Go.Proofs.enters_of Tryz.func187 (by kernel_rfl) rfl) (nums (bitsOf q)) w.heap.size (by simp [nums]; omega) (w.alloc (.cells #[.int .u32 q] 37)) (by simp)
    (by
      have := each1_gives 9 (by decide) q hq w.heap.size (w.alloc (.cells #[.int .u32 q] 37)).heap.size (w.alloc (.cells #[.int .u32 q] 37)) (Boxed.new _ _ _) (by simp) h0 (ht.below ((Below.refl _ w).alloc (Nat.le_refl _) _))
      unfold nums
      rw [List.map_map]
      exact this)
  replace cC := Lib.hid cC
  clear ht hl
  have hS := St.start w
  go_enter Tryz.func149, Tryz.ntmps149
  go_wp2_with (first
    | (go_at_call 176; (with_reducible refine cE.out.mono ?_); rintro _ w3 ⟨rfl, rfl⟩)
    | (go_at_call 108; (with_reducible refine cC.out.mono ?_); rintro _ w3 ⟨a, c, rfl, h1, h2, h3⟩))
  go_ret
  have h4 := (hS.alloc #[.int .u32 q] 37).call (A := [_]) [] rfl h3
  exact ⟨a, c, rfl, h1, h2, by simpa using h4⟩
end Go.Proofs.YtneolmnpebiifaaGreatDoor
end

section
/- Rows of one length, one behind the other. -/
set_option linter.unusedSimpArgs false
set_option linter.unusedVariables false
namespace Go.Ofp
theorem flat_len2 {α : Type} (k : Nat) (R : List (List α)) (h : ∀ r ∈ R, r.length = k) : R.flatten.length = R.length * k := by
  induction R with
  | nil => simp
  | cons r R ih => rw [List.flatten_cons, List.length_append, ih (fun x hx => h x (by simp [hx])), h r (by simp), List.length_cons, Nat.add_mul]; omega
theorem flat_take {α : Type} (k : Nat) (R : List (List α)) (h : ∀ r ∈ R, r.length = k) (j : Nat) : R.flatten.take (j * k) = (R.take j).flatten := by
  induction R generalizing j with
  | nil => simp
  | cons r R ih =>
    cases j with
    | zero => simp
    | succ j =>
      have hr := h r (by simp)
      rw [List.flatten_cons, List.take_succ_cons, List.flatten_cons, ← ih (fun x hx => h x (by simp [hx])), List.take_append, List.take_of_length_le (by rw [hr, Nat.add_mul]; omega), hr, show (j + 1) * k - k = j * k by rw [Nat.add_mul]; omega]
theorem flat_drop {α : Type} (k : Nat) (R : List (List α)) (h : ∀ r ∈ R, r.length = k) (j : Nat) : R.flatten.drop (j * k) = (R.drop j).flatten := by
  induction R generalizing j with
  | nil => simp
  | cons r R ih =>
    cases j with
    | zero => simp
    | succ j =>
      have hr := h r (by simp)
      rw [List.flatten_cons, List.drop_succ_cons, ← ih (fun x hx => h x (by simp [hx])), List.drop_append, List.drop_of_length_le (by rw [hr, Nat.add_mul]; omega), List.nil_append, hr, show (j + 1) * k - k = j * k by rw [Nat.add_mul]; omega]
theorem flat_elem {α : Type} (k : Nat) (R : List (List α)) (h : ∀ r ∈ R, r.length = k) (j : Nat) (hj : j < R.length) : (R.flatten.drop (j * k)).take k = R[j] := by
  have hr := h _ (List.getElem_mem hj)
  rw [flat_drop k R h, List.drop_eq_getElem_cons hj, List.flatten_cons, List.take_left' hr]
theorem flat_set {α : Type} (k : Nat) (R : List (List α)) (h : ∀ r ∈ R, r.length = k) (j : Nat) (hj : j < R.length) (x : List α) : R.flatten.take (j * k) ++ x ++ R.flatten.drop (j * k + k) = (R.set j x).flatten := by
  rw [flat_take k R h, show j * k + k = (j + 1) * k by rw [Nat.add_mul]; omega, flat_drop k R h, List.set_eq_take_append_cons_drop, if_pos hj]
  simp
end Go.Ofp
end

section
/- Cards: plain law. -/
set_option linter.unusedSimpArgs false
set_option linter.unusedVariables false
namespace Go.Ofp
/-- A field's value. -/
structure Vl where
  kind : Int
  n : Int
  s : ByteArray
deriving DecidableEq
/-- No value. -/
def Vl.zero : Vl := ⟨0, 0, ⟨#[]⟩⟩
/-- A card. -/
structure Cd where
  id : Int
  ver : Int
  lab : Nat
  f : List Vl
deriving DecidableEq
/-- A patch. -/
structure Pt where
  mask : Nat
  lab : Nat
  f : List Vl
deriving DecidableEq

/-- Some fields of f in the place of out's. -/
def putF (f : List Vl) (out : List Vl) (l : List Nat) : List Vl := l.foldl (fun o i => o.set i (f.getD i Vl.zero)) out
theorem putF_length (f out : List Vl) (l : List Nat) : (putF f out l).length = out.length := by
  unfold putF
  induction l generalizing out with
  | nil => rfl
  | cons i l ih => rw [List.foldl_cons, ih, List.length_set]
theorem putF_snoc (f out : List Vl) (l : List Nat) (i : Nat) : putF f out (l ++ [i]) = (putF f out l).set i (f.getD i Vl.zero) := by simp [putF]
/-- No fields. -/
def noF : List Vl := List.replicate 8 Vl.zero
def Cd.proj (c : Cd) (m : Nat) : Cd := ⟨c.id, c.ver, if m.testBit 8 then c.lab else 0, putF c.f noF (bitsOf m)⟩
def Cd.of (c : Cd) (m : Nat) : Pt := ⟨m, (c.proj m).lab, (c.proj m).f⟩
def Cd.merge (c : Cd) (p : Pt) : Cd := ⟨c.id, if c.ver < 1099511627776 then c.ver + 1 else c.ver, if p.mask.testBit 8 then p.lab else c.lab, putF p.f c.f (bitsOf p.mask)⟩
def Cd.none (id : Int) : Cd := ⟨id, 0, 0, noF⟩
def Pt.fresh (id : Int) (p : Pt) : Cd := (Cd.none id).merge p
end Go.Ofp
namespace Go.Proofs.YtneolmnpebiifaaGreatDoor
open Go.RowKit Go.Ofp
set_option linter.unusedVariables false
set_option maxRecDepth 100000
set_option maxHeartbeats 4000000

/-! ### In memory -/
theorem elem_value : Elem Tryz.prog 39 (.agg #[.int .i64 0, .int .i64 0, .string ⟨#[]⟩]) 3 32 := Elem.mk (by kernel_rfl) (by rfl) (by decide)
def vlRow (v : Vl) : List Value := [.int .i64 v.kind, .int .i64 v.n, .string v.s]
def flRow (f : List Vl) : List Value := (f.map vlRow).flatten
def cdRow (c : Cd) : List Value := .int .i64 c.id :: .int .i64 c.ver :: .int .u32 c.lab :: flRow c.f
def ptRow (p : Pt) : List Value := .int .u32 p.mask :: .int .u32 p.lab :: flRow p.f
theorem vlRow_length (v : Vl) : (vlRow v).length = 3 := rfl
theorem flRow_length (f : List Vl) : (flRow f).length = f.length * 3 := by
  induction f with
  | nil => rfl
  | cons v f ih => simp [flRow, vlRow] at ih ⊢; omega
theorem vl_each (f : List Vl) : ∀ r ∈ f.map vlRow, r.length = 3 := by
  intro r hr
  obtain ⟨v, _, rfl⟩ := List.mem_map.1 hr
  rfl
theorem vl_one (v : Vl) : (vlRow v).all Value.oneCell' = true := rfl
theorem fl_one (f : List Vl) : (flRow f).all Value.oneCell' = true := by
  rw [List.all_eq_true]
  intro x hx
  obtain ⟨r, hr, hxr⟩ := List.mem_flatten.1 hx
  obtain ⟨v, _, rfl⟩ := List.mem_map.1 hr
  exact List.all_eq_true.1 (vl_one v) x hxr
/-- One field, behind h cells. -/
theorem fl_at (H : List Value) (f : List Vl) (i : Nat) (v : Vl) (hv : f[i]? = some v) : ((H ++ flRow f).drop (H.length + i * 3)).take 3 = vlRow v := by
  obtain ⟨hi, rfl⟩ := List.getElem?_eq_some_iff.1 hv
  rw [List.drop_append, List.drop_of_length_le (by omega), List.nil_append, show H.length + i * 3 - H.length = i * 3 by omega, flRow, flat_elem 3 _ (vl_each f) i (by simpa using hi), List.getElem_map]
theorem fl_put (H : List Value) (f : List Vl) (i : Nat) (v : Vl) (hi : i < f.length) : (H ++ flRow f).take (H.length + i * 3) ++ vlRow v ++ (H ++ flRow f).drop (H.length + i * 3 + 3) = H ++ flRow (f.set i v) := by
  have := flat_set 3 _ (vl_each f) i (by simpa using hi) (vlRow v)
  rw [List.take_append, List.take_of_length_le (by omega), List.drop_append, List.drop_of_length_le (by omega), List.nil_append, show H.length + i * 3 - H.length = i * 3 by omega, show H.length + i * 3 + 3 - H.length = i * 3 + 3 by omega,
    List.append_assoc, List.append_assoc, ← List.append_assoc (List.take _ _), flRow, this, ← List.map_set]
  rfl
end Go.Proofs.YtneolmnpebiifaaGreatDoor
end

section
/- Cards and patches that came in, opened. -/
set_option linter.unusedSimpArgs false
set_option linter.unusedVariables false
namespace Go.Ofp
open Go.RowKit Go.WideShapes
section
variable {H : Type} {enc : TypeId × Value → H} {P : Program} {w : World} {base : Nat} {spare : Nat → Bool} {held : Bool}
theorem field_text {f : TypeId} {o n : Nat} {cs : List Value} {y : DataW H × List MemPlace} (hf : P.underlying f = some .string) (hc : P.cellsOf f = 1) (ho : o < cs.length)
    (h : DataW.trod enc P w base spare held n f ((cs.drop o).take (P.cellsOf f)) = some y) : ∃ s : ByteArray, cs[o]? = some (.string s) ∧ s.size ≤ maxLen := by
  obtain ⟨z, hz, _, hs⟩ := DataW.trod_string hf h
  rw [hc, List.drop_eq_getElem_cons ho] at hz
  simp only [List.take_succ_cons, List.take_zero, List.cons.injEq, and_true] at hz
  exact ⟨z, by rw [List.getElem?_eq_getElem ho, hz], hs⟩
end
/-- What is known of a value that came in. -/
structure VlIn (v : Vl) : Prop where
  kind : -9223372036854775808 ≤ v.kind ∧ v.kind ≤ 9223372036854775807
  n : -9223372036854775808 ≤ v.n ∧ v.n ≤ 9223372036854775807
  s : v.s.size ≤ maxLen
structure CdIn (c : Cd) : Prop where
  id : -9223372036854775808 ≤ c.id ∧ c.id ≤ 9223372036854775807
  ver : -9223372036854775808 ≤ c.ver ∧ c.ver ≤ 9223372036854775807
  lab : c.lab < 4294967296
  len : c.f.length = 8
  f : ∀ v ∈ c.f, VlIn v
structure PtIn (p : Pt) : Prop where
  mask : p.mask < 4294967296
  lab : p.lab < 4294967296
  len : p.f.length = 8
  f : ∀ v ∈ p.f, VlIn v
theorem wf_u32n {z : Int} (h : (Lit.int .u32 z).wf = true) : ∃ x : Nat, z = x ∧ x < 4294967296 := by
  have hb : 0 ≤ z ∧ z ≤ 4294967295 := by simpa [Lit.wf, IntKind.min, IntKind.max, IntKind.bits, IntKind.signed] using h
  exact ⟨z.toNat, by omega, by omega⟩
end Go.Ofp
namespace Go.Proofs.YtneolmnpebiifaaGreatDoor
open Go.RowKit Go.Ofp Go.WideShapes
set_option linter.unusedVariables false
set_option maxRecDepth 100000
set_option maxHeartbeats 1000000
section
variable {H : Type} {enc : TypeId × Value → H} {w : World} {base : Nat} {spare : Nat → Bool} {held : Bool}
theorem read_vl {cs : List Value} (h : ∃ fuel x, DataW.trod enc Tryz.prog w base spare held fuel 39 cs = some x) : ∃ v : Vl, cs = vlRow v ∧ VlIn v := by
  obtain ⟨fuel, x, h⟩ := h
  obtain ⟨hl, hf⟩ := field_read Tryz.underlying39 h
  have hc : Tryz.prog.cellsOf 39 = 3 := by kernel_rfl
  rw [hc] at hl
  obtain ⟨n0, y0, h0⟩ := hf 0 _ rfl
  obtain ⟨n1, y1, h1⟩ := hf 1 _ rfl
  obtain ⟨n2, y2, h2⟩ := hf 2 _ rfl
  obtain ⟨z0, e0, w0⟩ := field_int Tryz.underlying3 (by kernel_rfl) (by rw [hl]; decide) h0
  obtain ⟨z1, e1, w1⟩ := field_int Tryz.underlying3 (by kernel_rfl) (by rw [hl]; decide) h1
  obtain ⟨z2, e2, w2⟩ := field_text Tryz.underlying9 (by kernel_rfl) (by rw [hl]; decide) h2
  match cs, hl with
  | [c0, c1, c2], _ =>
    simp at e0 e1 e2
    exact ⟨⟨z0, z1, z2⟩, by rw [e0, e1, e2]; rfl, wf_i64 w0, wf_i64 w1, w2⟩
theorem read_fl {cs : List Value} (h : ∃ fuel x, DataW.trod enc Tryz.prog w base spare held fuel 40 cs = some x) : ∃ f : List Vl, cs = flRow f ∧ f.length = 8 ∧ ∀ v ∈ f, VlIn v := by
  obtain ⟨fuel, x, h⟩ := h
  obtain ⟨xs, m, _, _, hl, hn, hi⟩ := DataW.trod_array Tryz.underlying40 h
  have hc : Tryz.prog.cellsOf 40 = 24 := by kernel_rfl
  have hv : Tryz.prog.cellsOf 39 = 3 := by kernel_rfl
  rw [hc] at hl
  have key : ∀ i, i < 8 → ∃ y, DataW.trod enc Tryz.prog w base spare held m 39 ((cs.drop (i * 3)).take 3) = some y := by
    intro i hi8
    have := hi i hi8
    rw [hv, List.getElem?_eq_getElem (by omega)] at this
    exact ⟨_, this⟩
  obtain ⟨y0, h0⟩ := key 0 (by decide)
  obtain ⟨y1, h1⟩ := key 1 (by decide)
  obtain ⟨y2, h2⟩ := key 2 (by decide)
  obtain ⟨y3, h3⟩ := key 3 (by decide)
  obtain ⟨y4, h4⟩ := key 4 (by decide)
  obtain ⟨y5, h5⟩ := key 5 (by decide)
  obtain ⟨y6, h6⟩ := key 6 (by decide)
  obtain ⟨y7, h7⟩ := key 7 (by decide)
  match cs, hl with
  | [c0, c1, c2, c3, c4, c5, c6, c7, c8, c9, c10, c11, c12, c13, c14, c15, c16, c17, c18, c19, c20, c21, c22, c23], _ =>
    simp only [Nat.reduceMul, List.drop_succ_cons, List.drop_zero, List.take_succ_cons, List.take_zero] at h0 h1 h2 h3 h4 h5 h6 h7
    obtain ⟨v0, e0, w0⟩ := read_vl ⟨_, _, h0⟩
    obtain ⟨v1, e1, w1⟩ := read_vl ⟨_, _, h1⟩
    obtain ⟨v2, e2, w2⟩ := read_vl ⟨_, _, h2⟩
    obtain ⟨v3, e3, w3⟩ := read_vl ⟨_, _, h3⟩
    obtain ⟨v4, e4, w4⟩ := read_vl ⟨_, _, h4⟩
    obtain ⟨v5, e5, w5⟩ := read_vl ⟨_, _, h5⟩
    obtain ⟨v6, e6, w6⟩ := read_vl ⟨_, _, h6⟩
    obtain ⟨v7, e7, w7⟩ := read_vl ⟨_, _, h7⟩
    simp only [vlRow, List.cons.injEq, and_true] at e0 e1 e2 e3 e4 e5 e6 e7
    refine ⟨[v0, v1, v2, v3, v4, v5, v6, v7], ?_, rfl, ?_⟩
    · simp only [flRow, List.map_cons, List.map_nil, List.flatten_cons, List.flatten_nil, vlRow, List.cons_append, List.nil_append]
      simp only [e0, e1, e2, e3, e4, e5, e6, e7]
    · intro v hv
      simp only [List.mem_cons, List.not_mem_nil, or_false] at hv
      rcases hv with rfl | rfl | rfl | rfl | rfl | rfl | rfl | rfl <;> assumption
theorem read_pt {cs : List Value} (h : ∃ fuel x, DataW.trod enc Tryz.prog w base spare held fuel 42 cs = some x) : ∃ p : Pt, cs = ptRow p ∧ PtIn p := by
  obtain ⟨fuel, x, h⟩ := h
  obtain ⟨hl, hf⟩ := field_read Tryz.underlying42 h
  have hc : Tryz.prog.cellsOf 42 = 26 := by kernel_rfl
  have hc3 : Tryz.prog.cellsOf 40 = 24 := by kernel_rfl
  rw [hc] at hl
  obtain ⟨n0, y0, h0⟩ := hf 0 _ rfl
  obtain ⟨n1, y1, h1⟩ := hf 1 _ rfl
  obtain ⟨n3, y3, h3⟩ := hf 2 _ rfl
  obtain ⟨z0, e0, w0⟩ := field_int Tryz.underlying37 (by kernel_rfl) (by rw [hl]; decide) h0
  obtain ⟨z1, e1, w1⟩ := field_int Tryz.underlying37 (by kernel_rfl) (by rw [hl]; decide) h1
  have h3' : DataW.trod enc Tryz.prog w base spare held n3 40 ((cs.drop 2).take (Tryz.prog.cellsOf 40)) = some y3 := h3
  rw [hc3, List.take_of_length_le (by rw [List.length_drop, hl]; decide)] at h3'
  obtain ⟨f, hf3, hf8, hfi⟩ := read_fl ⟨_, _, h3'⟩
  obtain ⟨x0, rfl, hx0⟩ := wf_u32n w0
  obtain ⟨x1, rfl, hx1⟩ := wf_u32n w1
  match cs, hl with
  | c0 :: c1 :: rest, _ =>
    simp at e0 e1 hf3
    exact ⟨⟨x0, x1, f⟩, by rw [e0, e1, hf3]; rfl, hx0, hx1, hf8, hfi⟩
end
end Go.Proofs.YtneolmnpebiifaaGreatDoor
end
