/- Texts laid together: GivesZ StIn QueueOf QueueWaits QueueShow QueueClone MixG QueuePush QueuePush2 QueueEq QueueEq2 QueueRef QueueRPush. -/
import Derived.Sort.LoopGhostIn
import Derived.Lib.SliceRun
import Derived.OrdersIn
import Derived.Test.YtplgpbbghhlbjaaM1
import Derived.Test.YtplgpbbghhlbjaaM2
import Derived.Test.YtplgpbbghhlbjaaM3
section
/- Ranges over an iterator whose blocks lie behind the caller's: a round keeps them too. -/
set_option linter.unusedSimpArgs false
set_option linter.unusedVariables false
namespace Go.Ofp
open Go.RowKit
variable {F : Fence} {n : Nat} {P : Program}

/-- What an iterator's value does: yield is called with each of xs in turn, each round goes on; what it writes itself lies in block Bn. A round keeps what lies below n0, and the blocks Zs. -/
def GivesZ (F : Fence) (n : Nat) (P : Program) (g : Nat) (lb : Array Value) (xs : List Value) (n0 Bn : Nat) (Zs : List Nat) (w : World) : Prop :=
  ∀ (l : Nat) (J : Nat → World → Prop) (W : World), Below n0 w W → (∀ z ∈ Zs, W.heap[z]? = w.heap[z]?) → (∀ k A B, J k A → A.grownBy B (some Bn) → J k B) →
    (∀ k x A, J k A → xs[k]? = some x → YieldAt F (n - 1) P l #[x] A fun e B => e = .returned (.bool true) ∧ J (k + 1) B ∧ Below n0 A B ∧ ∀ z ∈ Zs, B.heap[z]? = A.heap[z]?) →
    J 0 W → CallsIn F n P g (#[.func (.yield l) #[] #[]] ++ lb) W fun e B => (∃ v, e = .returned v) ∧ J xs.length B

theorem GivesZ.later {g : Nat} {lb : Array Value} {xs : List Value} {n0 Bn : Nat} {Zs : List Nat} {w w1 : World} (h : GivesZ F n P g lb xs n0 Bn Zs w) (hb : Below n0 w w1) (hz : ∀ z ∈ Zs, w1.heap[z]? = w.heap[z]?) : GivesZ F n P g lb xs n0 Bn Zs w1 :=
  fun l J W hW hZ hJ hY h0 => h l J W (hb.trans hW) (fun z h => (hZ z h).trans (hz z h)) hJ hY h0

/-- How a round's body ends: it goes on. -/
def goOnZ (n0 B : Nat) (Zs : List Nat) (I : Nat → World → Prop) (k : Nat) (W : World) : Exit → Act → World → Prop
  | .normal, _, W' => KeepsFrom B W W' ∧ Below n0 W W' ∧ (∀ z ∈ Zs, W'.heap[z]? = W.heap[z]?) ∧ I (k + 1) W'
  | _, _, _ => False

section
variable {g : Operand} {ps : Array Tmp} {assign body : Code} {Q : Exit → Act → World → Prop} {a : Act} {w : World}

end
section
variable {g : Operand} {ps : Array Tmp} {assign body : Code} {Q : Exit → Act → World → Prop} {a : Act} {w : World}

/-- The statement 'for x := range seq { .. }' whose rounds all go on. -/
theorem wpIn_givesM (hro : F.round = none) (h1 : 1 ≤ n) {gf : Nat} {lb : Array Value} (hg : a.eval g = .func (.func gf) #[] lb) (hFg : F.fn gf) (eg : ∀ args w, (callFunc gf args).run P w = .ok (.enter gf args) w)
    {xs : List Value} {n0 Bn : Nat} {Zs : List Nat} (hs : GivesZ F (n - 1) P gf lb xs n0 Bn Zs w) (hBn : Bn < w.heap.size) (hn0 : n0 ≤ w.heap.size) (hz : ∀ z ∈ Zs, z < w.heap.size) (hps : ps.size = 1)
    (I : Nat → World → Prop) (hI : Abide w.heap.size Bn I) (h0 : I 0 w) (Mid : Nat → Act → World → Prop) (hMid : ∀ k a1, Abide w.heap.size Bn (fun _ W => Mid k a1 W))
    (hassign : ∀ (l k : Nat) (x : Value) (W : World) (K : Act → World → Prop), I k W → xs[k]? = some x → (∀ a1 W', KeepsFrom w.heap.size W W' → Below n0 W W' → (∀ z ∈ Zs, W'.heap[z]? = W.heap[z]?) → Mid k a1 W' → K a1 W') →
      assign.wpIn (F.inRound l) (n - 1 - 1) P (Exit.then K (fun _ _ _ => False)) { tmps := (ps.zip #[x]).foldl (fun t (p, v) => t.setIfInBounds p v) a.tmps, defers := [] } W)
    (hbody : ∀ (l k : Nat) (x : Value) (a1 : Act) (W : World), Mid k a1 W → xs[k]? = some x → body.wpIn (F.inRound l) (n - 1 - 1) P (goOnZ n0 w.heap.size Zs I k W) a1 W)
    (hdone : ∀ (D : Nat) (W : World), w.heap.size ≤ D → I xs.length W → W.heap[D]? = some (.deferred (some [])) → Q .normal { a with defers := { target := .collected D, args := #[] } :: a.defers } W) :
    (Code.rangeFunc g ps assign body).wpIn F n P Q a w := by
  refine wpIn_rangeFunc fun fn hfn => ?_
  rw [hro]
  obtain ⟨b, hb⟩ : ∃ b, w.heap.size = b := ⟨_, rfl⟩
  obtain ⟨rec, hrec⟩ : ∃ rec : LoopState → Loop, rec = fun st => { state := st, pending := none, fn, tmps := a.tmps, params := ps, assign, body, defers := b } := ⟨_, rfl⟩
  have hst : ∀ s, (rec s).state = s := fun s => by rw [hrec]
  have hto : ∀ s t, { rec s with state := t } = rec t := fun s t => by rw [hrec]
  have hto2 : ∀ s t, { rec s with state := t, pending := none } = rec t := fun s t => by rw [hrec]
  have hpe : ∀ s, (rec s).pending = none := fun s => by rw [hrec]
  obtain ⟨W1, hW1⟩ : ∃ W1, (w.alloc (.deferred (some []))).alloc (.loop (rec .ready)) = W1 := ⟨_, rfl⟩
  have hL1 : W1.heap[b + 1]? = some (.loop (rec .ready)) := by
    rw [← hW1, ← hb]
    have := World.alloc_heap_new (w.alloc (.deferred (some []))) (.loop (rec .ready))
    rwa [World.size_alloc] at this
  have hD1 : W1.heap[b]? = some (.deferred (some [])) := by
    rw [← hW1, ← hb]
    exact (Below.heap_alloc _ _ _ (by simp)).trans (World.alloc_heap_new w _)
  have hI1 : I 0 W1 := by
    rw [← hW1]
    exact hI.alloc _ (hI.alloc _ h0)
  have hB1 : Below n0 w W1 := by
    rw [← hW1]
    exact ((Below.refl _ w).alloc hn0 _).alloc (by simp; omega) _
  have hZ1 : ∀ z ∈ Zs, W1.heap[z]? = w.heap[z]? := by
    intro z hzz
    rw [← hW1]
    exact (Below.heap_alloc _ _ _ (by have := hz z hzz; simp; omega)).trans (Below.heap_alloc _ _ _ (hz z hzz))
  have hput : ∀ (A : World) (o o' : Obj), A.heap[b + 1]? = some o → o.isCells = false → Below n0 A (A.putObj (b + 1) o') := fun A o o' h1 h2 =>
    (Below.refl n0 A).grown (grownBy_putObj' A _ o') (by have := (Array.getElem?_eq_some_iff.1 h1).1; omega) (fun j e => by cases e; omega)
  refine ⟨b + 1, [{ target := .collected b, args := #[] }], W1, { target := .fn (.func gf) lb, args := #[.func (.yield (b + 1)) #[] #[]] }, W1, gf,
    #[.func (.yield (b + 1)) #[] #[]] ++ lb, W1, ?_, ?_, ?_, ?_, fun _ => h1, ?_⟩
  · rw [← hW1, hrec, ← hb]
    exact run_enterLoop_outer _ _ _ _ _
  · simp only [resolve, hg]
    simp [go_sem]
  · intro f' hf'
    simp [Target.leads] at hf'
    subst hf'
    exact hFg
  · simp [invoke, go_sem, eg]
  refine (hs (b + 1) (fun k W => I k W ∧ W.heap[b + 1]? = some (.loop (rec .ready)) ∧ W.heap[b]? = some (.deferred (some []))) W1 hB1 hZ1 ?_ ?_ ⟨hI1, hL1, hD1⟩).mono ?_
  · rintro k A C ⟨h2, h3, h4⟩ hgr
    exact ⟨hI k A C _ h2 hgr (fun r e => by cases e; exact .inl rfl), (hgr.block _ (Array.getElem?_eq_some_iff.1 h3).1 (by simp; omega)).trans h3, (hgr.block _ (Array.getElem?_eq_some_iff.1 h4).1 (by simp; omega)).trans h4⟩
  · rintro k x A ⟨h2, h3, h4⟩ hx
    have hlt := (Array.getElem?_eq_some_iff.1 h3).1
    have hy := run_yield (P := P) (args := #[x]) h3 (by rw [hrec]; simp [hps])
    rw [hrec] at hy
    refine ⟨fn, _, assign, body, hy, roundIn_of_wpIn hfn (hassign _ k x A _ h2 hx fun a1 A' q1 q2 q3 q4 => ?_)⟩
    have h3' := q1.same _ _ (by omega) h3 rfl
    have h4' := q1.same _ _ (by omega) h4 rfl
    refine ⟨_, run_beginRound h3' (hst _), ?_⟩
    rw [hto]
    have hlt' := (Array.getElem?_eq_some_iff.1 h3').1
    have h5 : (A'.putObj (b + 1) (.loop (rec .busy))).heap[b + 1]? = some (.loop (rec .busy)) := World.putObj_heap_same hlt'
    have h6 : (A'.putObj (b + 1) (.loop (rec .busy))).heap[b]? = some (.deferred (some [])) := (World.putObj_heap_other (by omega)).trans h4'
    refine wpIn_mono (hbody _ k x a1 _ ((hMid k a1).put (k := 0) _ q4 (by omega) h3' rfl) hx) ?_
    rintro e a3 C hp
    cases e with
    | normal =>
      obtain ⟨k1, k2, k4, k3⟩ := hp
      have h7 := k1.same _ _ (by omega) h5 rfl
      have h8 := k1.same _ _ (by omega) h6 rfl
      have hr := run_endRound (P := P) none h7
      rw [Option.isNone_none, if_pos rfl, hto2] at hr
      exact ⟨_, _, hr, rfl, ⟨hI.put _ k3 (by omega) h7 rfl, World.putObj_heap_same (Array.getElem?_eq_some_iff.1 h7).1, (World.putObj_heap_other (by omega)).trans h8⟩,
        ((q2.trans (hput A' _ _ h3' rfl)).trans k2).trans (hput C _ _ h7 rfl), fun z hzz => (World.putObj_heap_other (by have := hz z hzz; omega)).trans ((k4 z hzz).trans ((World.putObj_heap_other (by have := hz z hzz; omega)).trans (q3 z hzz)))⟩
    | ret => exact hp.elim
    | exit id => exact hp.elim
    | goto t => exact hp.elim
    | panic c => exact hp.elim
    | outgrown => exact hp.elim
  · rintro e W2 ⟨⟨v, rfl⟩, h2, h3, h4⟩
    refine ⟨none, _, ?_, hdone b _ (by omega) (hI.put (.loop (rec .exhausted)) h2 (by omega) h3 rfl) ((World.putObj_heap_other (by omega)).trans h4)⟩
    have := run_endLoop (P := P) h3 (by rw [hst]; simp)
    rw [hrec] at this ⊢
    exact this
theorem wpIn_givesM1 {p : Tmp} (hro : F.round = none) (h1 : 1 ≤ n) {gf : Nat} {lb : Array Value} (hg : a.eval g = .func (.func gf) #[] lb) (hFg : F.fn gf) (eg : ∀ args w, (callFunc gf args).run P w = .ok (.enter gf args) w)
    {xs : List Value} {n0 Bn : Nat} {Zs : List Nat} (hs : GivesZ F (n - 1) P gf lb xs n0 Bn Zs w) (hBn : Bn < w.heap.size) (hn0 : n0 ≤ w.heap.size) (hz : ∀ z ∈ Zs, z < w.heap.size)
    (I : Nat → World → Prop) (hI : Abide w.heap.size Bn I) (h0 : I 0 w) (Mid : Nat → Act → World → Prop) (hMid : ∀ k a1, Abide w.heap.size Bn (fun _ W => Mid k a1 W))
    (hassign : ∀ (l k : Nat) (x : Value) (W : World) (K : Act → World → Prop), I k W → xs[k]? = some x → (∀ a1 W', KeepsFrom w.heap.size W W' → Below n0 W W' → (∀ z ∈ Zs, W'.heap[z]? = W.heap[z]?) → Mid k a1 W' → K a1 W') →
      assign.wpIn (F.inRound l) (n - 1 - 1) P (Exit.then K (fun _ _ _ => False)) { tmps := a.tmps.setIfInBounds p x, defers := [] } W)
    (hbody : ∀ (l k : Nat) (x : Value) (a1 : Act) (W : World), Mid k a1 W → xs[k]? = some x → body.wpIn (F.inRound l) (n - 1 - 1) P (goOnZ n0 w.heap.size Zs I k W) a1 W)
    (hdone : ∀ (D : Nat) (W : World), w.heap.size ≤ D → I xs.length W → W.heap[D]? = some (.deferred (some [])) → Q .normal { a with defers := { target := .collected D, args := #[] } :: a.defers } W) :
    (Code.rangeFunc g #[p] assign body).wpIn F n P Q a w := by
  have e : ∀ (x : Value), (#[p].zip #[x]).foldl (fun (t : Array Value) (q : Tmp × Value) => match q with | (p, v) => t.setIfInBounds p v) a.tmps = a.tmps.setIfInBounds p x := fun x => by simp
  exact wpIn_givesM hro h1 hg hFg eg hs hBn hn0 hz rfl I hI h0 Mid hMid (fun l k x W K h1 h2 h3 => by rw [e]; exact hassign l k x W K h1 h2 h3) hbody hdone
end
theorem callsIn_round {n l : Nat} {P : Program} {f : FuncId} {args : Array Value} {w : World} {R : Ending → World → Prop} : CallsIn (Fence.wide.inRound l) n P f args w R ↔ Calls P f args w R := callsIn_wide
end Go.Ofp
end

section
/- The laws of a walk's state inside a fence; what a caller keeps between two rounds. -/
set_option linter.unusedSimpArgs false
set_option linter.unusedVariables false
namespace Go.Ofp
open Go.RowKit
section
variable {F : Fence} {n : Nat} {P : Program} {ops : Array Oper} {rest : List Oper} {o : Oper} {a : Act} {Q : Exit → Act → World → Prop} {K : Act → World → Prop} {w w0 : World} {G : List Nat} {L : List Ch}

theorem wpListIn_wanted (hw : Region.wanted o (yielded ops a.tmps) = true)
    (h : ∀ K : Act → World → Prop, (∀ a w, wpListIn F n P ops Q rest a w → K a w) → o.wpIn F n P a w K Q) : wpListIn F n P ops Q (o :: rest) a w :=
  wpListIn_step fun K hK => by rw [if_pos hw]; exact h K hK
theorem about_none (hc : ∀ c, o.op ≠ .call c) : o.about P w a.eval = none := by
  unfold Oper.about
  cases ho : o.op <;> first | rfl | exact absurd ho (hc _)
theorem wpIn_noncall (hc : ∀ c, o.op ≠ .call c) (hd : ∀ c, o.op ≠ .defer c) (h : o.uponIn F n P a K Q ((execOp a.eval o).run P w)) : o.wpIn F n P a w K Q := by
  refine ⟨fun f hf => (by rw [about_none hc] at hf; cases hf), ?_⟩
  rw [Oper.semAt_plain F _ _ hd]
  exact h

/-- A struct or an array out of old memory. -/
theorem wpListIn_rangerow {g j m : Nat} {vs : List Value} (hc : w.rangeAt g j vs) (hw : Region.wanted o (yielded ops a.tmps) = true) {t : TypeId} {x : Operand} (ho : o.op = .load t x) (hx : a.eval x = .pointer (some ⟨g, j, none⟩))
    (hu : rowB P t = true) (hsz : sizeB P t m = true) (hl : vs.length = m) (h : wpListIn F n P ops Q rest (a.put o.dst (.agg vs.toArray)) w) : wpListIn F n P ops Q (o :: rest) a w := by
  refine wpListIn_wanted hw fun K hK => wpIn_noncall (by rw [ho]; intro c h; cases h) (by rw [ho]; intro c h; cases h) ?_
  have hr := run_loadrow (P := P) hu hsz hl hc
  unfold execOp
  simp only [ho, hx, Sem.run_bind, hr, Result.andThen_ok, Sem.run_pure]
  exact hK _ _ h
theorem wpListIn_loadrow_st (i : Nat) {g j T m : Nat} {cs : Array Value} {vs : List Value} (hS : St w0 G L w) (hi : L[i]? = some (Ch.blk g T cs)) (hw : Region.wanted o (yielded ops a.tmps) = true) {t : TypeId} {x : Operand} (ho : o.op = .load t x) (hx : a.eval x = .pointer (some ⟨g, j, none⟩))
    (hu : rowB P t = true) (hsz : sizeB P t m = true) (hv : (cs.toList.drop j).take m = vs) (hl : vs.length = m) (h : wpListIn F n P ops Q rest (a.put o.dst (.agg vs.toArray)) w) : wpListIn F n P ops Q (o :: rest) a w := by
  subst hv
  exact wpListIn_rangerow (Whole.range (hS.get i hi) j (range_extract cs j m)) hw ho hx hu hsz hl h
theorem wpListIn_loadall_st (i : Nat) {g T : Nat} {cs : Array Value} (hS : St w0 G L w) (hi : L[i]? = some (Ch.blk g T cs)) (hw : Region.wanted o (yielded ops a.tmps) = true) {t : TypeId} {x : Operand} (ho : o.op = .load t x) (hx : a.eval x = .pointer (some ⟨g, 0, none⟩))
    (hu : rowB P t = true) (hsz : sizeB P t cs.size = true) (h : wpListIn F n P ops Q rest (a.put o.dst (.agg cs)) w) : wpListIn F n P ops Q (o :: rest) a w := by
  refine wpListIn_loadrow_st (vs := cs.toList) i hS hi hw ho hx hu hsz (by simp; exact List.take_of_length_le (by simp)) (by simp) ?_
  simpa using h
theorem wpListIn_load_st (i : Nat) {g j T : Nat} {cs : Array Value} (hS : St w0 G L w) (hi : L[i]? = some (Ch.blk g T cs)) (hw : Region.wanted o (yielded ops a.tmps) = true) {t : TypeId} {x : Operand} (ho : o.op = .load t x) (hx : a.eval x = .pointer (some ⟨g, j, none⟩))
    (hu : scalarB P t = true) {v : Value} (hv : cs[j]? = some v) (h : wpListIn F n P ops Q rest (a.put o.dst v) w) : wpListIn F n P ops Q (o :: rest) a w := by
  refine wpListIn_wanted hw fun K hK => wpIn_noncall (by rw [ho]; intro c h; cases h) (by rw [ho]; intro c h; cases h) ?_
  have hr := run_load1 (P := P) hu ((hS.cell i hi j).trans hv)
  unfold execOp
  simp only [ho, hx, Sem.run_bind, hr, Result.andThen_ok, Sem.run_pure]
  exact hK _ _ h
theorem wpListIn_store_st (i : Nat) {g j T : Nat} {cs : Array Value} (hS : St w0 G L w) (hi : L[i]? = some (Ch.blk g T cs)) (hw : Region.wanted o (yielded ops a.tmps) = true) {t : TypeId} {x y : Operand} (ho : o.op = .store t x y) (hx : a.eval x = .pointer (some ⟨g, j, none⟩))
    (hu : sizeB P t 1 = true) {v : Value} (hy : Value.scal (a.eval y) = some v) (hj : Nat.ble (j + 1) cs.size = true) (h : ∀ w', St w0 G (L.set i (Ch.blk g T (cs.setIfInBounds j v))) w' → wpListIn F n P ops Q rest (a.put o.dst undef) w') : wpListIn F n P ops Q (o :: rest) a w := by
  refine wpListIn_wanted hw fun K hK => wpIn_noncall (by rw [ho]; intro c h; cases h) (by rw [ho]; intro c h; cases h) ?_
  replace hj : j < cs.size := Nat.le_of_ble_eq_true hj
  obtain ⟨hy, -, hv⟩ := Value.scal_spec hy
  have hr := run_store1 (P := P) hu hv ((hS.cell i hi j).trans (Array.getElem?_eq_getElem hj)) (hS.frozen i hi j)
  unfold execOp
  simp only [ho, hx, hy, Sem.run_bind, hr, Result.andThen_ok, Sem.run_pure]
  exact hK _ _ (h _ (hS.set i hi j v))
theorem wpListIn_storerow_st (i : Nat) {g j T m : Nat} {cs : Array Value} (hS : St w0 G L w) (hi : L[i]? = some (Ch.blk g T cs)) (hw : Region.wanted o (yielded ops a.tmps) = true) {t : TypeId} {x y : Operand} (ho : o.op = .store t x y) (hx : a.eval x = .pointer (some ⟨g, j, none⟩))
    (hsz : sizeB P t m = true) {vs : List Value} (hy : a.eval y = .agg vs.toArray) (hl : vs.length = m) (hv : vs.all Value.oneCell' = true) (hj : Nat.ble (j + m) cs.size = true)
    (h : ∀ w', St w0 G (L.set i (Ch.blk g T (cs.toList.take j ++ vs ++ cs.toList.drop (j + m)).toArray)) w' → wpListIn F n P ops Q rest (a.put o.dst undef) w') : wpListIn F n P ops Q (o :: rest) a w := by
  refine wpListIn_wanted hw fun K hK => wpIn_noncall (by rw [ho]; intro c h; cases h) (by rw [ho]; intro c h; cases h) ?_
  subst hl
  have h3 : (P.info? t).map (·.size) = some vs.length := by simpa [sizeB] using hsz
  obtain ⟨k1, k2, k3⟩ := Whole.setCells (P := P) (hS.get i hi) vs (Nat.le_of_ble_eq_true hj) (fun v hv' => List.all_eq_true.1 hv v hv')
  obtain ⟨ii, hii, hi1⟩ := Option.map_eq_some_iff.1 h3
  generalize w.setRow g (cs.toList.take j ++ vs ++ cs.toList.drop (j + vs.length)).toArray = W at k1 k2 k3
  have hr : (Instr.storeAt t (.pointer (some ⟨g, j, none⟩)) (.agg vs.toArray)).run P w = .ok () W := by
    simp [Instr.storeAt, Instr.sureAddr, storeVar, sizeOf, typeInfo, hii, hi1, Value.cells, k1]
  unfold execOp
  simp only [ho, hx, hy, Sem.run_bind, hr, Result.andThen_ok, Sem.run_pure]
  exact hK _ _ (h _ (hS.upd i hi k3 (by simp [Ch.blk]) k2 (by simp [Ch.blk])))
theorem wpListIn_alloc_st (hS : St w0 G L w) (hw : Region.wanted o (yielded ops a.tmps) = true) {t : TypeId} (ho : o.op = .alloc t) {cs : Array Value} {size bytes : Nat} (he : Elem P t (.agg cs) size bytes)
    (h : ∀ g w', w.heap.size = g → St w0 G (Ch.blk g t cs :: L) w' → wpListIn F n P ops Q rest (a.put o.dst (.pointer (some ⟨g, 0, none⟩))) w') : wpListIn F n P ops Q (o :: rest) a w := by
  refine wpListIn_wanted hw fun K hK => wpIn_noncall (by rw [ho]; intro c h; cases h) (by rw [ho]; intro c h; cases h) ?_
  obtain ⟨ti, hi, hz, -⟩ := he
  have hr : (Instr.alloc t true (.tuple #[])).run P w = .ok (.pointer (some ⟨w.heap.size, 0, none⟩)) (w.alloc (.cells cs t)) := by
    simp [Instr.alloc, zeroValue, typeInfo, hi, hz, go_sem]
  unfold execOp
  simp only [ho, Sem.run_bind, hr, Result.andThen_ok, Sem.run_pure]
  exact hK _ _ (h _ _ rfl (hS.alloc cs t))
theorem wpListIn_alloc1_st (hS : St w0 G L w) (hw : Region.wanted o (yielded ops a.tmps) = true) {t : TypeId} (ho : o.op = .alloc t) {z v : Value} {size bytes : Nat} (he : Elem P t z size bytes) (hz' : Value.scal z = some v)
    (h : ∀ g w', w.heap.size = g → St w0 G (Ch.blk g t #[v] :: L) w' → wpListIn F n P ops Q rest (a.put o.dst (.pointer (some ⟨g, 0, none⟩))) w') : wpListIn F n P ops Q (o :: rest) a w := by
  refine wpListIn_wanted hw fun K hK => wpIn_noncall (by rw [ho]; intro c h; cases h) (by rw [ho]; intro c h; cases h) ?_
  obtain ⟨ti, hi, hz, -⟩ := he
  have hr : (Instr.alloc t true (.tuple #[])).run P w = .ok (.pointer (some ⟨w.heap.size, 0, none⟩)) (w.alloc (.cells z.cells t)) := by
    simp [Instr.alloc, zeroValue, typeInfo, hi, hz, go_sem]
  rw [(Value.scal_spec hz').2.1] at hr
  unfold execOp
  simp only [ho, Sem.run_bind, hr, Result.andThen_ok, Sem.run_pure]
  exact hK _ _ (h _ _ rfl (hS.alloc #[v] t))
theorem wpListIn_box_st (hS : St w0 G L w) (hw : Region.wanted o (yielded ops a.tmps) = true) {t : TypeId} {x : Operand} (ho : o.op = .box t x) {cs : Array Value} (hx : a.eval x = .agg cs)
    (h : ∀ g w', w.heap.size = g → St w0 G (Ch.blk g t cs :: L) w' → wpListIn F n P ops Q rest (a.put o.dst (.pointer (some ⟨g, 0, none⟩))) w') : wpListIn F n P ops Q (o :: rest) a w := by
  refine wpListIn_wanted hw fun K hK => wpIn_noncall (by rw [ho]; intro c h; cases h) (by rw [ho]; intro c h; cases h) ?_
  unfold execOp
  simp only [ho, hx, Instr.box, newVar, newRow, newObj, Sem.run_bind, Sem.run_pure]
  exact hK _ _ (h _ _ rfl (hS.alloc cs t))
/-- A slice written out of known values. -/
theorem wpListIn_buildr_st (hS : St w0 G L w) (hw : Region.wanted o (yielded ops a.tmps) = true) {t : TypeId} {m : Nat} {parts : List (Nat × Operand)} {vals : List (Nat × Value)} {e : TypeId} {cs : Array Value}
    (hr : ∀ w : World, (Instr.buildSlice t m vals.toArray).run P w = .ok (.slice (some ⟨w.heap.size, 0, none⟩) m m) (w.alloc (.cells cs e))) (ho : o.op = .buildSlice t m parts.toArray) (hx : parts.map (fun p => (p.1, a.eval p.2)) = vals)
    (h : ∀ g w', w.heap.size = g → St w0 G (Ch.blk g e cs :: L) w' → wpListIn F n P ops Q rest (a.put o.dst (.slice (some ⟨g, 0, none⟩) m m)) w') : wpListIn F n P ops Q (o :: rest) a w := by
  refine wpListIn_wanted hw fun K hK => wpIn_noncall (by rw [ho]; intro c h; cases h) (by rw [ho]; intro c h; cases h) ?_
  subst hx
  have hr' := hr w
  unfold execOp
  simp only [ho, List.map_toArray, Sem.run_bind, hr', Result.andThen_ok, Sem.run_pure]
  exact hK _ _ (h _ _ rfl (hS.alloc cs e))
end

theorem abide_size {B Bn m : Nat} : Abide B Bn (fun _ W => m ≤ W.heap.size) := fun _ _ _ _ hs hg _ => Nat.le_trans hs hg.size
/-- A piece whose blocks hold cells. -/
def Ch.cellsy (c : Ch) : Prop := ∀ W : World, c.holds W → ∀ g ∈ c.foot, ∃ o : Obj, W.heap[g]? = some o ∧ o.isCells = true
theorem Ch.blk_cellsy (g : Nat) (t : TypeId) (cs : Array Value) : (Ch.blk g t cs).cellsy := by
  intro W hW x hx
  simp [Ch.blk] at hx
  subst hx
  exact ⟨_, hW, rfl⟩
theorem Ch.row_cellsy (e : TypeId) (size : Nat) (v : Value) (n : Nat) (xs : List Value) : (Ch.row e size v n xs).cellsy := by
  intro W hW x hx
  rcases hW.2 with ⟨rfl, _⟩ | ⟨g', cap, cur, rfl, _, hh, _⟩
  · simp [Ch.row, Value.ownBlock] at hx
  · simp [Ch.row, Value.ownBlock] at hx
    subst hx
    exact ⟨_, hh, rfl⟩
theorem abide_st2 {B Bn : Nat} {w0 : World} {L : Nat → List Ch} (hn : w0.heap.size ≤ Bn) (hB : w0.heap.size ≤ B) (hL : ∀ k, ∀ c ∈ L k, Bn ∉ c.foot ∧ c.cellsy) : Abide B Bn (fun k W => St w0 [] (L k) W) := by
  intro k A C row hS hg hr
  have hrow : ∀ r, row = some r → r = Bn ∨ B ≤ r := fun r e => (hr r e).imp id (·.1)
  refine ⟨⟨hg.os.trans hS.fr.os, hg.tape.trans hS.fr.tape, hg.output.trans hS.fr.output, Nat.le_trans hS.fr.size hg.size, fun j hj _ => ?_⟩, fun i c hc => ⟨c.keep (hS.get i hc) fun g hgf => ?_, (hS.own i c hc).2⟩, hS.apart⟩
  · refine (hg.block j (Nat.lt_of_lt_of_le hj hS.fr.size) fun e => ?_).trans (hS.fr.block j hj (by simp))
    rcases hrow j e.symm with h | h <;> omega
  · refine hg.block g (hS.lt i hc g hgf) fun e => ?_
    have h2 := hL k c (List.mem_of_getElem? hc)
    rcases hr g e.symm with h | ⟨_, o, ho, hoc⟩
    · subst h; exact h2.1 hgf
    · obtain ⟨o', ho', hoc'⟩ := h2.2 A (hS.get i hc) g hgf
      rw [ho] at ho'
      cases ho'
      rw [hoc] at hoc'
      cases hoc'
/-- What a round's parts keep. -/
theorem keeps_of {B : Nat} {Zs : List Nat} {L L' : List Ch} {w0 W W' : World} (hS : St w0 [] L W) (hT : St W (feet L) L' W') (hc : ∀ c ∈ L, c.cellsy) (hlt : ∀ g ∈ feet L, g ∉ Zs) (hZ : ∀ z ∈ Zs, z < W.heap.size) :
    KeepsFrom B W W' ∧ Below w0.heap.size W W' ∧ (∀ z ∈ Zs, W'.heap[z]? = W.heap[z]?) ∧ St w0 [] L' W' := by
  have hown : ∀ g ∈ feet L, w0.heap.size ≤ g := by
    intro g hg
    obtain ⟨i, c, hi, hc⟩ := mem_feet.1 hg
    exact ((hS.own i c hi).2 g hc).resolve_left (by simp)
  refine ⟨⟨hT.fr.size, fun k o hk ho hno => ?_⟩, ⟨hT.fr.os, hT.fr.tape, hT.fr.output, hT.fr.size, fun k hk => ?_⟩, fun z hz => ?_, ?_⟩
  · rw [hT.fr.block k (Array.getElem?_eq_some_iff.1 ho).1 (fun h => ?_)]
    · exact ho
    · obtain ⟨i, c, hi, hcf⟩ := mem_feet.1 h
      obtain ⟨o', ho', hoc'⟩ := hc c (List.mem_of_getElem? hi) W (hS.get i hi) k hcf
      rw [ho] at ho'
      cases ho'
      rw [hno] at hoc'
      cases hoc'
  · exact hT.fr.block k (Nat.lt_of_lt_of_le hk hS.fr.size) (fun h => by have := hown k h; omega)
  · exact hT.fr.block z (hZ z hz) (fun h => (hlt z h) hz)
  · have := hS.call L [] (by simp) hT
    simpa using this
theorem St.koldrow {P : Program} {w0 w : World} {L : List Ch} (_ : St w0 [] L w) {g j n : Nat} {vs : List Value} (hc : w0.rangeAt g j vs) {t : TypeId} (hu : rowB P t = true) (hsz : sizeB P t n = true) (hl : vs.length = n) :
    ∀ s : Cl w0 [] L, (Instr.loadAt t (.pointer (some ⟨g, j, none⟩))).run P s.1 = .ok (.agg vs.toArray) s.1 := fun s => run_loadrow hu hsz hl (fun k v hk => s.2.old (hc k v hk) (by simp))
/-- What lies in the call's own stands when an object that holds no cells is put anew. -/
theorem St.putObj {w0 w : World} {L : List Ch} (h : St w0 [] L w) (hc : ∀ c ∈ L, c.cellsy) {D : Nat} {o : Obj} (o' : Obj) (hD : w0.heap.size ≤ D) (hK : w.heap[D]? = some o) (ho : o.isCells = false) : St w0 [] L (w.putObj D o') :=
  (abide_st2 (B := w0.heap.size) (Bn := w.heap.size) (L := fun _ => L) h.fr.size (Nat.le_refl _) (fun _ c hcl => ⟨fun hb => by
    obtain ⟨i, hi, rfl⟩ := List.getElem_of_mem hcl
    have := h.lt i (List.getElem?_eq_getElem hi) _ hb
    omega, hc c hcl⟩)).put (k := 0) o' h hD hK ho
theorem abide_st3 {B Bn : Nat} {w0 : World} {F : List Nat} {L : Nat → List Ch} (hn : Bn ∈ F) (hB : w0.heap.size ≤ B) (hL : ∀ k, ∀ c ∈ L k, Bn ∉ c.foot ∧ c.cellsy) : Abide B Bn (fun k W => St w0 F (L k) W) := by
  intro k A C row hS hg hr
  have hrow : ∀ r, row = some r → r = Bn ∨ B ≤ r := fun r e => (hr r e).imp id (·.1)
  refine ⟨⟨hg.os.trans hS.fr.os, hg.tape.trans hS.fr.tape, hg.output.trans hS.fr.output, Nat.le_trans hS.fr.size hg.size, fun j hj hjF => ?_⟩, fun i c hc => ⟨c.keep (hS.get i hc) fun g hgf => ?_, (hS.own i c hc).2⟩, hS.apart⟩
  · refine (hg.block j (Nat.lt_of_lt_of_le hj hS.fr.size) fun e => ?_).trans (hS.fr.block j hj hjF)
    rcases hrow j e.symm with h | h
    · subst h; exact hjF hn
    · omega
  · refine hg.block g (hS.lt i hc g hgf) fun e => ?_
    have h2 := hL k c (List.mem_of_getElem? hc)
    rcases hr g e.symm with h | ⟨_, o, ho, hoc⟩
    · subst h; exact h2.1 hgf
    · obtain ⟨o', ho', hoc'⟩ := h2.2 A (hS.get i hc) g hgf
      rw [ho] at ho'
      cases ho'
      rw [hoc] at hoc'
      cases hoc'
/-- What a round's parts keep. -/
theorem keeps_of3 {B : Nat} {F : List Nat} {Zs : List Nat} {L L' : List Ch} {w0 W W' : World} (hS : St w0 F L W) (hown : ∀ g ∈ feet L, w0.heap.size ≤ g) (hT : St W (feet L) L' W') (hc : ∀ c ∈ L, c.cellsy) (hlt : ∀ g ∈ feet L, g ∉ Zs) (hZ : ∀ z ∈ Zs, z < W.heap.size) :
    KeepsFrom B W W' ∧ Below w0.heap.size W W' ∧ (∀ z ∈ Zs, W'.heap[z]? = W.heap[z]?) ∧ St w0 F L' W' := by
  refine ⟨⟨hT.fr.size, fun k o hk ho hno => ?_⟩, ⟨hT.fr.os, hT.fr.tape, hT.fr.output, hT.fr.size, fun k hk => ?_⟩, fun z hz => ?_, ?_⟩
  · rw [hT.fr.block k (Array.getElem?_eq_some_iff.1 ho).1 (fun h => ?_)]
    · exact ho
    · obtain ⟨i, c, hi, hcf⟩ := mem_feet.1 h
      obtain ⟨o', ho', hoc'⟩ := hc c (List.mem_of_getElem? hi) W (hS.get i hi) k hcf
      rw [ho] at ho'
      cases ho'
      rw [hno] at hoc'
      cases hoc'
  · exact hT.fr.block k (Nat.lt_of_lt_of_le hk hS.fr.size) (fun h => by have := hown k h; omega)
  · exact hT.fr.block z (hZ z hz) (fun h => (hlt z h) hz)
  · have := hS.call L [] (by simp) hT
    simpa using this
end Go.Ofp
end

section
/- The writes of a card: an iterator. -/
set_option linter.unusedSimpArgs false
set_option linter.unusedVariables false
namespace Go.Proofs.Ytplgpbbghhlbjaa
open Go.RowKit Go.Ofp
set_option linter.unusedVariables false
set_option maxRecDepth 100000
set_option maxHeartbeats 4000000

theorem ofId_at (l : List Wr) (id : Int) (k : Nat) (hk : k < l.length) (h : l[k].id = id) : (ofId l id)[(ofId (l.take k) id).length]? = some l[k] := by
  have e : l = l.take k ++ l[k] :: l.drop (k + 1) := by
    conv => lhs; rw [← List.take_append_drop k l, List.drop_eq_getElem_cons hk]
  have e2 : ofId l id = ofId (l.take k) id ++ l[k] :: ofId (l.drop (k + 1)) id := by
    conv => lhs; rw [e]
    unfold ofId
    rw [List.filter_append, List.filter_cons, if_pos (by simp [Wr.isOf, h])]
  rw [e2, List.getElem?_append_right (Nat.le_refl _), Nat.sub_self]
  rfl
theorem ofId_next (l : List Wr) (id : Int) (k : Nat) (hk : k < l.length) : (ofId (l.take (k + 1)) id).length = (ofId (l.take k) id).length + (if l[k].id = id then 1 else 0) := by
  rw [List.take_succ_eq_append_getElem hk, ofId_snoc]
  split <;> simp

attribute [local go_sem] Oper.semAt_some in
theorem of_gives (m : Nat) (hm : 1 ≤ m) (l : List Wr) (hl : ∀ q ∈ l, q.p.f.length = 8) (a : Option Addr) (n cap : Nat) (id : Int) (hn : l.length = n) (hn1 : n ≤ 1000) (B1 B2 : Nat) (w0 w : World) (hb0 : Below w0.heap.size w0 w) (h1 : Boxed w B1 29 (.slice a n cap)) (h2 : Boxed w B2 3 (.int .i64 id)) (hs : Sl w0 a (qRow l)) :
    GivesZ Fence.wide m Try.prog 88 #[.pointer (some ⟨B1, 0, none⟩), .pointer (some ⟨B2, 0, none⟩)] ((ofId l id).map fun q => .agg (wrRow q).toArray) w0.heap.size B1 [B1, B2] w := by
  intro yl J W hW hZ hJ hY hJ0
  have hWw : Below w0.heap.size w0 W := hb0.trans hW
  have ew := elem_wr
  have g1 : Boxed W B1 29 (.slice a n cap) := (hZ B1 (by simp)).trans h1
  have g2 : Boxed W B2 3 (.int .i64 id) := (hZ B2 (by simp)).trans h2
  have hc1 := g1.cell
  replace hs := Lib.hid hs
  replace hl := Lib.hid hl
  replace hn := Lib.hid hn
  replace hWw := Lib.hid hWw
  replace g1 := Lib.hid g1
  replace g2 := Lib.hid g2
  clear h1 h2 hW hZ hb0
  refine callsIn_of_wp Try.func88 rfl trivial ?_ rfl
  simp only [Try.ntmps88, List.size_toArray, List.length_cons, List.length_nil, Nat.reduceAdd, Nat.reduceSub, Array.replicate_succ, Array.replicate_zero, List.push_toArray, List.append_toArray, List.nil_append, List.cons_append]
  gi_wp2
  gi_loopg [8] n (fun gk vx wr => ∃ k : Nat, k + gk = n ∧ vx = .int .i64 k ∧ Below w0.heap.size w0 wr ∧ Hid (Boxed wr B1 29 (.slice a n cap)) ∧ Hid (Boxed wr B2 3 (.int .i64 id)) ∧ J (ofId (l.take k) id).length wr)
  case atStart => exact ⟨0, Nat.zero_add _, rfl, hWw.out, g1, g2, hJ0⟩
  case round =>
    clear g1 g2
    obtain ⟨k, hkn, rfl, hbw, p1, p2, hJk⟩ := hrel
    by_cases hlt : k < n
    · have hkl : k < l.length := by rw [hn.out]; exact hlt
      have hc2 := p2.out.cell
      have hsr := hs.out.below hbw
      have q1 := qRow_at l hl.out k hkl
      have ql := wrRow_len _ (hl.out _ (List.getElem_mem hkl))
      have qo := wrRow_one l[k]
      have hnx := ofId_next l id k hkl
      have hS := St.start wr
      obtain ⟨g0, o0, ha⟩ := Sl.cells hsr (by intro e; have := congrArg List.length e; rw [qRow_len l hl.out] at this; simp at this; omega)
      subst ha
      have hrg := sl_range hsr q1
      have hxs0 := ofId_at l id k hkl
      generalize l[k] = q at *
      by_cases hid : q.id = id
      · have hxs : ((ofId l id).map fun q => Value.agg (wrRow q).toArray)[(ofId (l.take k) id).length]? = some (.agg (wrRow q).toArray) := by rw [List.getElem?_map, hxs0 hid]; rfl
        rw [if_pos hid] at hnx
        obtain ⟨qi, qb, qp⟩ := q
        simp only at hid
        subst hid
        simp only [wrRow] at hrg ql qo hxs
        generalize ptRow qp = RP at *
        replace hnx := Lib.hid hnx
        replace hxs := Lib.hid hxs
        have hcs : sizeB Try.prog 46 (Value.int .i64 qi :: .int .i64 qb :: RP).toArray.size = true := by rw [List.size_toArray, ql]; kernel_rfl
        have hbw2 := Lib.hid hbw
        clear hbw hxs0 q1 hsr
        gi_wp2_with (first
          | ((with_reducible refine wpListIn_rangerow (m := 28) hrg rfl rfl rfl (by kernel_rfl) (by kernel_rfl) ql ?_))
          | (with_reducible refine wpListIn_alloc_st hS rfl rfl ew ?_; intro g w1 _ hS1; clear hS; have hS := hS1; clear hS1)
          | ((with_reducible refine wpListIn_storerow_st (m := 28) (vs := Value.int .i64 qi :: .int .i64 qb :: RP) 0 hS rfl rfl rfl rfl (by kernel_rfl) rfl ql qo (by kernel_rfl) ?_); intro w1 hS1; clear hS; have hS := hS1; clear hS1; simp only [List.set_cons_zero, List.take_zero, List.nil_append, List.drop_succ_cons, List.drop_zero, List.drop_nil, List.append_nil] at hS; have hc3 := hS.old hc2 (by simp); clear hc2; have hJ1 := hJ _ _ _ hJk ⟨hS.fr.os, hS.fr.tape, hS.fr.output, hS.fr.size, fun k hk _ => hS.fr.block k hk (by simp)⟩; obtain ⟨fn, tmps, assign, body, hy, hR⟩ := hY _ _ w1 hJ1 hxs.out)
          | ((with_reducible refine wpListIn_load_st 0 hS rfl rfl rfl rfl ?_ rfl ?_); focus (simp [scalarB, go_sem]; done))
          | ((with_reducible refine wpListIn_loadall_st 0 hS rfl (by with_unfolding_all rfl) rfl rfl ?_ hcs ?_); focus (simp [rowB, go_sem]; done)))
        have r1 : Boxed w1 B1 29 (.slice (some ⟨g0, o0, none⟩) n cap) := (hS.fr.block B1 (Array.getElem?_eq_some_iff.1 p1.out).1 (by simp)).trans p1.out
        have r2 : Boxed w1 B2 3 (.int .i64 qi) := (hS.fr.block B2 (Array.getElem?_eq_some_iff.1 p2.out).1 (by simp)).trans p2.out
        refine hR.mono ?_
        rintro e W3 ⟨rfl, hJ3, hb3, hz3⟩
        have s1 : Boxed W3 B1 29 (.slice (some ⟨g0, o0, none⟩) n cap) := (hz3 B1 (by simp)).trans r1
        have s2 : Boxed W3 B2 3 (.int .i64 qi) := (hz3 B2 (by simp)).trans r2
        gi_wp2
        go_roundg (n - (k + 1))
        case measure => omega
        case rel => exact ⟨k + 1, by omega, by go_num, hbw2.out.trans ((hS.below.mono hbw2.out.size).trans hb3), Lib.hid s1, Lib.hid s2, by rw [hnx.out]; exact hJ3⟩
      · rw [if_neg hid, Nat.add_zero] at hnx
        obtain ⟨qi, qb, qp⟩ := q
        simp only at hid
        simp only [wrRow] at hrg ql qo
        generalize ptRow qp = RP at *
        have hib : (qi == id) = false := by rw [beq_eq_false_iff_ne]; exact hid
        replace hnx := Lib.hid hnx
        have hbw2 := Lib.hid hbw
        clear hbw hxs0 q1 hsr hid
        gi_wp2_with (first
          | ((with_reducible refine wpListIn_rangerow (m := 28) hrg rfl rfl rfl (by kernel_rfl) (by kernel_rfl) ql ?_))
          | (with_reducible refine wpListIn_alloc_st hS rfl rfl ew ?_; intro g w1 _ hS1; clear hS; have hS := hS1; clear hS1)
          | ((with_reducible refine wpListIn_storerow_st (m := 28) (vs := Value.int .i64 qi :: .int .i64 qb :: RP) 0 hS rfl rfl rfl rfl (by kernel_rfl) rfl ql qo (by kernel_rfl) ?_); intro w1 hS1; clear hS; have hS := hS1; clear hS1; simp only [List.set_cons_zero, List.take_zero, List.nil_append, List.drop_succ_cons, List.drop_zero, List.drop_nil, List.append_nil] at hS; have hc3 := hS.old hc2 (by simp); clear hc2; have hJ1 := hJ _ _ _ hJk ⟨hS.fr.os, hS.fr.tape, hS.fr.output, hS.fr.size, fun k hk _ => hS.fr.block k hk (by simp)⟩)
          | ((with_reducible refine wpListIn_load_st 0 hS rfl rfl rfl rfl ?_ rfl ?_); focus (simp [scalarB, go_sem]; done)))
        refine ⟨(fun f hf => by cases hf), ?_⟩
        gi_wp2
        have r1 : Boxed w1 B1 29 (.slice (some ⟨g0, o0, none⟩) n cap) := (hS.fr.block B1 (Array.getElem?_eq_some_iff.1 p1.out).1 (by simp)).trans p1.out
        have r2 : Boxed w1 B2 3 (.int .i64 id) := (hS.fr.block B2 (Array.getElem?_eq_some_iff.1 p2.out).1 (by simp)).trans p2.out
        go_roundg (n - (k + 1))
        case measure => omega
        case rel => exact ⟨k + 1, by omega, by go_num, hbw2.out.trans (hS.below.mono hbw2.out.size), Lib.hid r1, Lib.hid r2, by rw [hnx.out]; exact hJ1⟩
    · obtain rfl : k = n := by omega
      have hlen : (ofId (l.take k) id).length = ((ofId l id).map fun q => Value.agg (wrRow q).toArray).length := by rw [List.take_of_length_le (by rw [hn.out]; exact Nat.le_refl _), List.length_map]
      rw [hlen] at hJk
      gi_wp2
      go_end0
      exact ⟨⟨_, rfl⟩, hJk⟩

theorem seqof_any (l : List Wr) (a : Option Addr) (n cap : Nat) (id : Int) (w : World) :
    Calls Try.prog 59 #[.slice a n cap, .int .i64 id] w fun e w' => ∃ B1 B2, e = .returned (.func (.func 88) #[] #[.pointer (some ⟨B1, 0, none⟩), .pointer (some ⟨B2, 0, none⟩)]) ∧ St w [] [Ch.blk B2 3 #[.int .i64 id], Ch.blk B1 29 #[.slice a n cap]] w' := by
  have hS := St.start w
  go_enter Try.func59, Try.ntmps59
  go_wp2_with (first
    | (with_reducible refine wpList_box1_st (L := []) hS rfl rfl rfl ?_; intro B1 w1 hS1; clear hS; have hS := hS1; clear hS1)
    | (with_reducible refine wpList_box1_st (L := [_]) hS rfl rfl rfl ?_; intro B2 w1 hS1; clear hS; have hS := hS1; clear hS1))
  go_ret
  exact ⟨B1, B2, rfl, hS⟩
end Go.Proofs.Ytplgpbbghhlbjaa
end

section
/- How many writes of a card wait. -/
set_option linter.unusedSimpArgs false
set_option linter.unusedVariables false
namespace Go.Proofs.Ytplgpbbghhlbjaa
open Go.RowKit Go.Ofp
set_option linter.unusedVariables false
set_option maxRecDepth 100000
set_option maxHeartbeats 4000000
theorem elem_n : Elem Try.prog 3 (.int .i64 0) 1 8 := Elem.mk (by kernel_rfl) (by rfl) (by decide)

end Go.Proofs.Ytplgpbbghhlbjaa
end

section
/- A card, as it is with what waits. -/
set_option linter.unusedSimpArgs false
set_option linter.unusedVariables false
namespace Go.Ofp
end Go.Ofp
namespace Go.Proofs.Ytplgpbbghhlbjaa
open Go.RowKit Go.Ofp
set_option linter.unusedVariables false
set_option maxRecDepth 100000
set_option maxHeartbeats 4000000

end Go.Proofs.Ytplgpbbghhlbjaa
end

section
/- Writes copied. -/
set_option linter.unusedSimpArgs false
set_option linter.unusedVariables false
namespace Go.Proofs.Ytplgpbbghhlbjaa
open Go.RowKit Go.Ofp
set_option linter.unusedVariables false
set_option maxRecDepth 100000
set_option maxHeartbeats 4000000
theorem qRow_one (l : List Wr) : ∀ u ∈ qRow l, u.oneCell' = true := by
  intro u hu
  obtain ⟨r, hr, hur⟩ := List.mem_flatten.1 hu
  obtain ⟨q, -, rfl⟩ := List.mem_map.1 hr
  exact List.all_eq_true.1 (wrRow_one q) u hur
/-- Writes that a callee made. -/
def WrRet (T : TypeId) (l : List Wr) (w : World) (e : Ending) (w' : World) : Prop := ∃ a c, e = .returned (.slice a l.length c) ∧ l.length ≤ c ∧ c ≤ maxLen ∧ St w [] [Ch.row T 28 (.slice a l.length c) l.length (qRow l)] w'
theorem eql_wrs_nil (a : Option Addr) (n c : Nat) (W : World) : (binOp .eql 29 (.slice a n c) (.slice none 0 0)).run Try.prog W = .ok (.bool a.isNone) W := Go.Lib.run_eql_slice_nil W _ _ a n c 0 0 Try.underlying29
theorem clone_any (l : List Wr) (hl : ∀ q ∈ l, q.p.f.length = 8) (a : Option Addr) (n cap : Nat) (hn : l.length = n) (hn1 : n ≤ 1000) (w : World) (hs : Sl w a (qRow l)) (hnil : a = none → n = 0 ∧ cap = 0) :
    Calls Try.prog 60 #[.slice a n cap] w (WrRet 46 l w) := by
  have hS := St.start w
  have ew := elem_wr
  have hq := qRow_len l hl
  have ho := qRow_one l
  cases a with
  | none =>
    obtain ⟨rfl, rfl⟩ := hnil rfl
    have hl0 : l = [] := List.length_eq_zero_iff.1 hn
    subst hl0
    have hE := eql_wrs_nil none 0 0
    simp only [Option.isNone_none] at hE
    go_enter Try.func60, Try.ntmps60
    go_wp2_with fail
    go_ret
    exact ⟨none, 0, rfl, Nat.le_refl _, by unfold maxLen; omega, hS.nilrow 46 28⟩
  | some ad =>
    rw [hn] at hq
    unfold WrRet
    rw [hn]
    replace ho := Lib.hid ho
    replace hq := Lib.hid hq
    replace hs := Lib.hid hs
    clear hl hnil
    have hE := eql_wrs_nil (some ad) n cap
    simp only [Option.isNone_some] at hE
    go_enter Try.func60, Try.ntmps60
    go_wp2_with (first
      | ((with_reducible refine wpList_build0_st hS rfl rfl Try.underlying29 ew ?_); intro g1 w3 hS1; clear hS; have hS := hS1; clear hS1)
      | (at_builtin; (with_reducible refine wpList_app_st 0 hS rfl rfl rfl Try.underlying29 ew rfl (Src.slice Try.underlying29 (hS.sl hs.out) hq.out) rfl ho.out (by omega) (by unfold maxLen; omega) ?_); intro v5 w3 hS1; clear hS; have hS := hS1; clear hS1; obtain ⟨a5, c5, rfl, -⟩ := hS.row 0 rfl))
    go_ret
    obtain ⟨_, _, e2, -, -, h1, h2⟩ := hS.row 0 rfl
    cases e2
    simp only [Nat.zero_add, List.set_cons_zero, List.nil_append] at *
    exact ⟨_, _, rfl, h1, h2, hS⟩
end Go.Proofs.Ytplgpbbghhlbjaa
end

section
/- Regions that draw their order, inside the wide fence. -/
set_option linter.unusedSimpArgs false
set_option linter.unusedVariables false
namespace Go.Ofp
open Go.RowKit
section
variable {P : Program} {ops : Array Oper} {Q : Exit → Act → World → Prop} {md : Region.Mode} {S : World → Prop} {n : Nat}
theorem wide_of_wp {o : Oper} {a : Act} {w : World} {K : Act → World → Prop} (h : o.wp P a w K Q) : o.wpIn Fence.wide n P a w K Q := by
  refine ⟨fun _ _ => trivial, ?_⟩
  show o.uponIn Fence.wide n P a K Q ((execOp a.eval o).run P w)
  unfold Oper.wp at h
  generalize (execOp a.eval o).run P w = r at h ⊢
  cases r with
  | ok x w' =>
    cases x <;> simp only [Oper.upon, Oper.uponIn] at h ⊢
    case value u => exact h
    case skip => exact h
    case defer d => exact h
    case enter f args => exact ⟨fun e => (by cases e), callsIn_wide.2 h⟩
    case row row args => exact ⟨fun e => (by cases e), fun c cs _ => by obtain ⟨v, w1, r, s⟩ := h c cs; exact ⟨v, w1, r, stepsIn_wide.2 s⟩⟩
  | halt x w' =>
    cases x <;> simp only [Oper.upon, Oper.uponIn] at h ⊢
    case panic u => exact h
theorem round_of_wp {l : Nat} {o : Oper} {a : Act} {w : World} {K : Act → World → Prop} (hd : ∀ c, o.op ≠ .defer c) (h : o.wp P a w K Q) : o.wpIn (Fence.wide.inRound l) n P a w K Q := by
  refine ⟨fun _ _ => trivial, ?_⟩
  rw [Oper.semAt_plain _ _ _ hd]
  unfold Oper.wp at h
  generalize (execOp a.eval o).run P w = r at h ⊢
  cases r with
  | ok x w' =>
    cases x <;> simp only [Oper.upon, Oper.uponIn] at h ⊢
    case value u => exact h
    case skip => exact h
    case defer d => exact h
    case enter f args => exact ⟨fun e => (by cases e), callsIn_round.2 h⟩
    case row row args => exact ⟨fun e => (by cases e), fun c cs _ => by obtain ⟨v, w1, r, s⟩ := h c cs; exact ⟨v, w1, r, stepsIn_wide.2 s⟩⟩
  | halt x w' =>
    cases x <;> simp only [Oper.upon, Oper.uponIn] at h ⊢
    case panic u => exact h
/-- An operation of a round, by the law of a drawn region. -/
theorem wpListIn_of_op {l : Nat} {o : Oper} {rest : List Oper} {a : Act} {w : World} (hd : ∀ c, o.op ≠ .defer c) (hw : Region.wanted o (yielded ops a.tmps) = true)
    (h : ∀ K : Act → World → Prop, (∀ a w, wpListIn (Fence.wide.inRound l) n P ops Q rest a w → K a w) → if Region.wanted o (yielded ops a.tmps) = true then Oper.wp P o a w K Q else K (a.put o.dst undef) w) : wpListIn (Fence.wide.inRound l) n P ops Q (o :: rest) a w :=
  wpListIn_wanted hw fun K hK => round_of_wp hd (by have := h K hK; rwa [if_pos hw] at this)
/-- One operation, wanted or not. -/
def wpOpS (P : Program) (ops : Array Oper) (Q : Exit → Act → World → Prop) (i : Nat) (K : Act → World → Prop) (a : Act) (w : World) : Prop :=
  match ops[i]? with
  | none => K a w
  | some o => if Region.wanted o (yielded ops a.tmps) then o.wp P a w K Q else K (a.put o.dst undef) w
theorem wpOpS_mono {i : Nat} {a : Act} {w : World} {K K' : Act → World → Prop} (h : ∀ a w, K a w → K' a w) (hh : wpOpS P ops Q i K a w) : wpOpS P ops Q i K' a w := by
  unfold wpOpS at *
  split
  · exact h _ _ (by simpa [*] using hh)
  · rename_i o ho
    simp only [ho] at hh
    split
    · rename_i hw; simp only [hw, if_true] at hh; exact Oper.wp_mono h hh
    · rename_i hw; simp only [hw] at hh; exact h _ _ hh
def wpAnyG (P : Program) (md : Region.Mode) (ops : Array Oper) (Q : Exit → Act → World → Prop) (S : World → Prop) : Nat → Array Bool → Act → World → Prop
  | 0, listed, a, w => Region.ready md ops listed = [] ∧ Q .normal a w
  | fuel + 1, listed, a, w =>
    (Region.ready md ops listed = [] → Q .normal a w) ∧
    ∀ i ∈ Region.ready md ops listed, wpOpS P ops Q i (fun a' w' => S w' ∧ wpAnyG P md ops Q S fuel (listed.setIfInBounds i true) a' w') a w
theorem wpOpIn_of_S {i : Nat} {a : Act} {w : World} {K K' : Act → World → Prop} (h : ∀ a w, K a w → K' a w) (hh : wpOpS P ops Q i K a w) : wpOpIn Fence.wide n P ops Q i K' a w := by
  have hh2 := wpOpS_mono h hh
  unfold wpOpS at hh2
  unfold wpOpIn
  split
  · simpa [*] using hh2
  · rename_i o ho
    simp only [ho] at hh2
    split
    · rename_i hw; simp only [hw, if_true] at hh2; exact wide_of_wp hh2
    · rename_i hw; simp only [hw] at hh2; exact ⟨fun _ _ => trivial, hh2⟩
theorem wpAnyIn_of_G : ∀ (fuel : Nat) (listed : Array Bool) (a : Act) (w : World), wpAnyG P md ops Q S fuel listed a w → wpAnyIn Fence.wide n P md ops Q fuel listed a w
  | 0, _, _, _, h => h
  | fuel + 1, _, _, _, h => ⟨h.1, fun i hi => wpOpIn_of_S (fun a' w' h' => wpAnyIn_of_G fuel _ a' w' h'.2) (h.2 i hi)⟩
theorem YieldsIf.wpOpS {i : Nat} {o : Oper} {v : Value} {a : Act} (hi : ops[i]? = some o) (hy : YieldsIf P ops S o v a)
    {K : Act → World → Prop} {w : World} (hS : S w) (h : K (a.put o.dst v) w) : wpOpS P ops Q i K a w := by
  unfold Go.Ofp.wpOpS
  simp only [hi]
  rcases hy with ⟨hw, hv⟩ | ⟨hw, rfl⟩
  · simp only [hw, if_true, Oper.wp, hv w hS, Oper.upon]; exact h
  · simp only [hw, Bool.false_eq_true, if_false]; exact h
theorem wpOpS_putIf {j : Nat} {oi oj : Oper} {v : Value} (hj : ops[j]? = some oj) (hap : oi.apart ops oj = true)
    (hsi : ∀ cs b, oi.op ≠ .select cs b) (hsj : ∀ cs b, oj.op ≠ .select cs b)
    (hQ : ∀ c a w, Q (.panic c) (a.put oi.dst v) w → Q (.panic c) a w) {K : Act → World → Prop} {a : Act} {w : World}
    (hy : YieldsIf P ops S oi v a) (h : wpOpS P ops Q j K (a.put oi.dst v) w) :
    wpOpS P ops Q j (fun a' w' => YieldsIf P ops S oi v a' ∧ K (a'.put oi.dst v) w') a w := by
  obtain ⟨h1, h2, h3⟩ := Oper.apart_spec hap
  have keep : ∀ (a : Act), YieldsIf P ops S oi v a → ∀ u, YieldsIf P ops S oi v (a.put oj.dst u) := fun a hy u =>
    hy.of_same (execOp_put oi hsi a oj.dst u h3) (wanted_put oi a oj.dst u h3)
  have keepD : ∀ d, YieldsIf P ops S oi v { a with defers := d :: a.defers } := fun d => hy.of_same rfl rfl
  unfold wpOpS at *
  simp only [hj] at *
  rw [wanted_put oj a oi.dst v h1] at h
  split
  · rename_i hw
    simp only [hw, if_true] at h
    unfold Oper.wp at *
    rw [execOp_put oj hsj a oi.dst v h1] at h
    generalize (execOp a.eval oj).run P w = r at *
    cases r with
    | ok n w' =>
      cases n <;> simp only [Oper.upon] at h ⊢
      case value u => exact ⟨keep a hy u, by rw [← Act.put_comm a v u h2]; exact h⟩
      case skip => exact ⟨keep a hy _, by rw [← Act.put_comm a v undef h2]; exact h⟩
      case defer d =>
        refine ⟨keep _ (keepD d) _, ?_⟩
        rw [← Act.put_comm _ v undef h2, ← Act.put_defers]
        exact h
      case enter f args =>
        refine Calls.mono h fun e w'' he => ?_
        cases e with
        | returned u => exact ⟨keep a hy u, by rw [← Act.put_comm a v u h2]; exact he⟩
        | panicked c => exact hQ _ _ _ he
        | outgrown => exact he
      case row row args => exact Rows.mono h fun u w'' he => ⟨keep a hy u, by rw [← Act.put_comm a v u h2]; exact he⟩
    | halt x w' =>
      cases x <;> simp only [Oper.upon] at h ⊢
      case panic u => exact hQ _ _ _ h
  · rename_i hw
    simp only [hw] at h
    exact ⟨keep a hy _, by rw [← Act.put_comm a v undef h2]; exact h⟩
theorem wpAnyG_first {i : Nat} {oi : Oper} {v : Value} (hi : ops[i]? = some oi) (hsel : ∀ (j : Nat) (o : Oper) cs b, ops[j]? = some o → o.op ≠ .select cs b)
    (hQ : ∀ c a w, Q (.panic c) (a.put oi.dst v) w → Q (.panic c) a w) :
    ∀ (fuel : Nat) (listed : Array Bool) (a : Act) (w : World),
      (∀ j oj, ops[j]? = some oj → j ≠ i → listed.getD j true = false → (∀ e ∈ oj.after, Region.binds md e = true → e.on ≠ i) → oi.apart ops oj = true) →
      i ∈ Region.ready md ops listed → YieldsIf P ops S oi v a → S w →
      wpAnyG P md ops Q S fuel (listed.setIfInBounds i true) (a.put oi.dst v) w → wpAnyG P md ops Q S (fuel + 1) listed a w := by
  intro fuel
  induction fuel with
  | zero =>
    intro listed a w _ hr hy hS H
    refine ⟨fun h => (by rw [h] at hr; cases hr), fun j hj => ?_⟩
    by_cases hji : j = i
    · subst hji; exact YieldsIf.wpOpS hi hy hS ⟨hS, H⟩
    · have := ready_mono hj hji
      rw [H.1] at this
      cases this
  | succ fuel ih =>
    intro listed a w hfree hr hy hS H
    refine ⟨fun h => (by rw [h] at hr; cases hr), fun j hj => ?_⟩
    by_cases hji : j = i
    · subst hji; exact YieldsIf.wpOpS hi hy hS ⟨hS, H⟩
    · have h1 := H.2 j (ready_mono hj hji)
      obtain ⟨hjun, oj, hoj, hall⟩ := mem_ready.1 hj
      have hnot : ∀ e ∈ oj.after, Region.binds md e = true → e.on ≠ i := fun e he hb heq => by
        have h1 := hall e he hb
        have h0 := (mem_ready.1 hr).1
        rw [heq] at h1
        rcases Nat.lt_or_ge i listed.size with h' | h'
        · simp [h'] at h0 h1; rw [h0] at h1; cases h1
        · simp [Array.getElem?_eq_none h'] at h1
      have h2 := wpOpS_putIf hoj (hfree j oj hoj hji hjun hnot) (fun cs b => hsel i oi cs b hi) (fun cs b => hsel j oj cs b hoj) hQ hy h1
      have hfree' : ∀ k ok, ops[k]? = some ok → k ≠ i → (listed.setIfInBounds j true).getD k true = false →
          (∀ e ∈ ok.after, Region.binds md e = true → e.on ≠ i) → oi.apart ops ok = true := fun k ok hk hki hun hno => by
        refine hfree k ok hk hki ?_ hno
        by_cases hjk : j = k
        · subst hjk; exact hjun
        · rw [getD_set_ne true hjk] at hun; exact hun
      refine wpOpS_mono (fun a' w' h3 => ⟨h3.2.1, ih (listed.setIfInBounds j true) a' w' hfree' (ready_mono hr (Ne.symm hji)) h3.1 h3.2.1 ?_⟩) h2
      rw [Array.setIfInBounds_comm _ _ hji]
      exact h3.2.2
/-- A post that lets nothing out but the way on. -/
def onlyN (Q : Exit → Act → World → Prop) : Exit → Act → World → Prop
  | .normal, a, w => Q .normal a w
  | _, _, _ => False
theorem wpAnyG_done {listed : Array Bool} {a : Act} {w : World} (hr : Region.ready md ops listed = []) (h : Q .normal a w) :
    ∀ fuel, wpAnyG P md ops (onlyN Q) S fuel listed a w
  | 0 => ⟨hr, h⟩
  | _ + 1 => ⟨fun _ => h, by rw [hr]; simp⟩
theorem wpAnyG_mono {S S' : World → Prop} (h : ∀ w, S' w → S w) :
    ∀ (fuel : Nat) (listed : Array Bool) (a : Act) (w : World), wpAnyG P md ops Q S' fuel listed a w → wpAnyG P md ops Q S fuel listed a w
  | 0, _, _, _, k => k
  | fuel + 1, _, _, _, k => ⟨k.1, fun i hi => wpOpS_mono (fun _ _ hh => ⟨h _ hh.1, wpAnyG_mono h fuel _ _ _ hh.2⟩) (k.2 i hi)⟩
end
section
variable {P : Program} {Q : Exit → Act → World → Prop} {w0 w : World} {F : List Nat} {L : List Ch} {ops : Array Oper} {fuel n : Nat} {listed : Array Bool} {a : Act} {oi : Oper}
theorem mixg_begin {id : Nat} {l : List Oper} {a : Act} (hm : P.follows .mixedOrders = true) (hS : St w0 F L w)
    (h : ∀ w', St w0 F L w' → wpAnyG P .any l.toArray (onlyN Q) (fun w' => St w0 F L w') l.length (Array.replicate l.length false) a w') : (Code.region id l.toArray true).wpIn Fence.wide n P Q a w := by
  refine wpIn_mono (wpIn_region_any (Q := onlyN Q) hm (wpAnyIn_of_G (S := fun w' => St w0 F L w') _ _ _ _ ?_)) (fun e a w h => by cases e <;> first | exact h | exact h.elim)
  simpa using h w.drew hS.drew
theorem mixg_take (i : Nat) {v : Value} (hi : ops[i]? = some oi) (hok : (Region.noSelect ops && (Region.free .any ops listed i && (Region.ready .any ops listed).contains i)) = true)
    (hQ : ∀ c a w, Q (.panic c) (a.put oi.dst v) w → Q (.panic c) a w) (hw : Region.wanted oi (yielded ops a.tmps) = true) (hS : St w0 F L w)
    (hy : ∀ s : Cl w0 F L, (execOp a.eval oi).run P s.1 = .ok (.value v) s.1)
    (h : wpAnyG P .any ops Q (fun w' => St w0 F L w') fuel (listed.setIfInBounds i true) (a.put oi.dst v) w) :
    wpAnyG P .any ops Q (fun w' => St w0 F L w') (fuel + 1) listed a w := by
  simp only [Bool.and_eq_true] at hok
  exact wpAnyG_first hi (Region.noSelect_spec hok.1) hQ fuel listed a w (Region.free_spec hi hok.2.1) (by simpa using hok.2.2) (Or.inl ⟨hw, fun w' h' => hy ⟨w', h'⟩⟩) hS h
/-- Numbers rs may come up; behind each the class may be a narrower one. -/
theorem mixg_ready {rs : List Nat} (hr : Region.ready .any ops listed = rs) (hne : rs ≠ [])
    (h : ∀ i ∈ rs, ∃ o, ops[i]? = some o ∧ ∀ K' : Act → World → Prop, Shut (∀ (L' : List Ch) a w1, (∀ x, St w0 F L' x → St w0 F L x) → St w0 F L' w1 → (St w0 F L' w1 → wpAnyG P .any ops Q (fun w' => St w0 F L' w') fuel (listed.setIfInBounds i true) a w1) → K' a w1) →
      if Region.wanted o (yielded ops a.tmps) = true then Oper.wp P o a w K' Q else K' (a.put o.dst undef) w) :
    wpAnyG P .any ops Q (fun w' => St w0 F L w') (fuel + 1) listed a w := by
  refine ⟨fun h0 => absurd (hr ▸ h0) hne, fun i hi => ?_⟩
  obtain ⟨o, ho, hk⟩ := h i (hr ▸ hi)
  have := hk (fun a' w' => St w0 F L w' ∧ wpAnyG P .any ops Q (fun w' => St w0 F L w') fuel (listed.setIfInBounds i true) a' w') (fun L' a1 w1 hL hb hc => ⟨hL _ hb, wpAnyG_mono (fun _ h => hL _ h) _ _ _ _ (hc hb)⟩)
  unfold wpOpS
  rw [ho]
  exact this
theorem mixg_one (i : Nat) {o : Oper} (hr : Region.ready .any ops listed = [i]) (ho : ops[i]? = some o)
    (h : ∀ K' : Act → World → Prop, Shut (∀ (L' : List Ch) a w1, (∀ x, St w0 F L' x → St w0 F L x) → St w0 F L' w1 → (St w0 F L' w1 → wpAnyG P .any ops Q (fun w' => St w0 F L' w') fuel (listed.setIfInBounds i true) a w1) → K' a w1) →
      if Region.wanted o (yielded ops a.tmps) = true then Oper.wp P o a w K' Q else K' (a.put o.dst undef) w) :
    wpAnyG P .any ops Q (fun w' => St w0 F L w') (fuel + 1) listed a w :=
  mixg_ready hr (by simp) (by intro k hk; simp at hk; subst hk; exact ⟨o, ho, h⟩)
theorem mixg_two (i j : Nat) {oi oj : Oper} (hr : Region.ready .any ops listed = [i, j]) (hio : ops[i]? = some oi) (hjo : ops[j]? = some oj)
    (hi : ∀ K' : Act → World → Prop, Shut (∀ (L' : List Ch) a w1, (∀ x, St w0 F L' x → St w0 F L x) → St w0 F L' w1 → (St w0 F L' w1 → wpAnyG P .any ops Q (fun w' => St w0 F L' w') fuel (listed.setIfInBounds i true) a w1) → K' a w1) →
      if Region.wanted oi (yielded ops a.tmps) = true then Oper.wp P oi a w K' Q else K' (a.put oi.dst undef) w)
    (hj : ∀ K' : Act → World → Prop, Shut (∀ (L' : List Ch) a w1, (∀ x, St w0 F L' x → St w0 F L x) → St w0 F L' w1 → (St w0 F L' w1 → wpAnyG P .any ops Q (fun w' => St w0 F L' w') fuel (listed.setIfInBounds j true) a w1) → K' a w1) →
      if Region.wanted oj (yielded ops a.tmps) = true then Oper.wp P oj a w K' Q else K' (a.put oj.dst undef) w) :
    wpAnyG P .any ops Q (fun w' => St w0 F L w') (fuel + 1) listed a w :=
  mixg_ready hr (by simp) (by
    intro k hk
    simp at hk
    rcases hk with rfl | rfl
    · exact ⟨oi, hio, hi⟩
    · exact ⟨oj, hjo, hj⟩)
end
end Go.Ofp
end

section
/- A write put behind all. -/
set_option linter.unusedSimpArgs false
set_option linter.unusedVariables false
namespace Go.Proofs.Ytplgpbbghhlbjaa
open Go.RowKit Go.Ofp
set_option linter.unusedVariables false
set_option maxRecDepth 100000
set_option maxHeartbeats 4000000

theorem fill_wr (T : TypeId) (i b : Int) (RP : List Value) (hl : RP.length = 26) :
    RP.zipIdx.foldl (fun cs x => cs.setIfInBounds (2 + x.2) x.1) #[Value.int .i64 i, .int .i64 b, .int .u32 0, .int .u32 0, .int .i64 0, .int .i64 0, .string ⟨#[]⟩, .int .i64 0, .int .i64 0, .string ⟨#[]⟩, .int .i64 0, .int .i64 0, .string ⟨#[]⟩, .int .i64 0, .int .i64 0, .string ⟨#[]⟩, .int .i64 0, .int .i64 0, .string ⟨#[]⟩, .int .i64 0, .int .i64 0, .string ⟨#[]⟩, .int .i64 0, .int .i64 0, .string ⟨#[]⟩, .int .i64 0, .int .i64 0, .string ⟨#[]⟩] = (Value.int .i64 i :: .int .i64 b :: RP).toArray := by
  rw [foldl_put 2 RP 0 _ (by rw [hl]; exact Nat.le_refl _), hl]
  simp
attribute [local go_sem] Oper.semAt_some in
theorem push_main (c : Cd) (hc : c.f.length = 8) (p : Pt) (hpf : p.f.length = 8) (hpm : p.mask < 4294967296) (hpl : p.lab < 4294967296) (hck : p.check = 0) (l : List Wr) (hl : ∀ q ∈ l, q.p.f.length = 8) (hlb : ∀ q ∈ l, -4611686018427387904 ≤ q.base ∧ q.base ≤ 4611686018427387904) (a : Option Addr) (n cap : Nat) (hn : l.length = n) (hn12 : n < 12) (hnil : a = none → n = 0 ∧ cap = 0) (w : World) (hs : Sl w a (qRow l)) :
    Calls Try.prog 21 #[.slice a n cap, .agg (cdRow c).toArray, .agg (ptRow p).toArray] w fun e w' => ∃ a' c', e = .returned (.tuple #[.slice a' (n + 1) c', .int .i64 0]) ∧ n + 1 ≤ c' ∧ c' ≤ maxLen ∧ St w [] [Ch.row 46 28 (.slice a' (n + 1) c') (n + 1) (qRow (l ++ [⟨c.id, nextBase c.ver (ofId l c.id), p⟩]))] w' := by
  have hS := St.start w
  have cO := Lib.hid (fun W : World => seqof_any l a n cap c.id W)
  have cK := fun W : World => cp_any p hpf hpm hpl W
  rw [hck] at cK
  replace cK := Lib.hid cK
  have ew := elem_wr
  have en := elem_n
  have d12 : decide ((12 : Int) ≤ (n : Int)) = false := decide_eq_false (by omega)
  have hpn : (ptRow p).length = 26 := by simp [ptRow, flRow_length, hpf]
  obtain ⟨id, ver, lab, f⟩ := c
  simp only [cdRow] at *
  have hps : sizeB Try.prog 40 (ptRow p).toArray.size = true := by rw [List.size_toArray, hpn]; kernel_rfl
  refine (callsIn_wide (n := 10)).1 ?_
  refine callsIn_of_wp_marks Try.func21 rfl trivial ?_ rfl
  simp only [Try.ntmps21, List.size_toArray, List.length_cons, List.length_nil, Nat.reduceAdd, Nat.reduceSub, Array.replicate_succ, Array.replicate_zero, List.push_toArray, List.append_toArray, List.nil_append, List.cons_append]
  gi_wp2_with (first
    | (refine ⟨trivial, ?_⟩; gi_at_call 59; refine (callsIn_wide.2 (cO.out _)).mono ?_; rintro _ w2 ⟨B1, B2, rfl, hO⟩)
    | (refine ⟨trivial, ?_⟩; gi_at_call 58; refine (callsIn_wide.2 (cK.out _)).mono ?_; rintro _ w9 ⟨rfl, hk9⟩; have hS1 := hS.keepB hk9; clear hk9 hS; have hS := hS1; clear hS1)
    | (with_reducible refine wpListIn_box_st (L := []) hS rfl rfl rfl ?_; intro b4 w1 _ hS1; clear hS; have hS := hS1; clear hS1)
    | (with_reducible refine wpListIn_box_st (L := [_]) hS rfl rfl rfl ?_; intro b5 w1 _ hS1; clear hS; have hS := hS1; clear hS1)
    | (with_reducible refine wpListIn_alloc1_st (L := [_, _]) hS rfl rfl en rfl ?_; intro b9 w1 _ hS1; clear hS; have hS := hS1; clear hS1)
    | ((with_reducible refine wpListIn_loadall_st 0 hS rfl rfl rfl rfl ?_ hps ?_); focus (simp [rowB, go_sem]; done))
    | ((with_reducible refine wpListIn_load_st 1 hS rfl rfl rfl rfl ?_ rfl ?_); focus (simp [scalarB, go_sem]; done))
    | ((with_reducible refine wpListIn_load_st 2 hS rfl rfl rfl rfl ?_ rfl ?_); focus (simp [scalarB, go_sem]; done))
    | ((with_reducible refine wpListIn_store_st 0 hS rfl rfl rfl rfl (by kernel_rfl) rfl rfl ?_); intro w1 hS1; clear hS; have hS := hS1; clear hS1; simp only [List.set_cons_zero, List.set_cons_succ, List.setIfInBounds_toArray] at hS))
  have hS2 := hS.made hO
  simp only [List.cons_append, List.nil_append] at hS2
  have lo1 := ((hS2.own 1 _ rfl).2 B1 (by simp [Ch.blk])).resolve_left (by simp)
  have lt1 := hS2.lt 1 rfl B1 (by simp [Ch.blk])
  have lt2 := hS2.lt 0 rfl B2 (by simp [Ch.blk])
  have n19 : B1 ≠ b9 := fun e => hS2.apart 1 2 _ _ rfl rfl (by decide) B1 (by simp [Ch.blk]) (by simp [Ch.blk, e])
  have n15 : B1 ≠ b5 := fun e => hS2.apart 1 3 _ _ rfl rfl (by decide) B1 (by simp [Ch.blk]) (by simp [Ch.blk, e])
  have n14 : B1 ≠ b4 := fun e => hS2.apart 1 4 _ _ rfl rfl (by decide) B1 (by simp [Ch.blk]) (by simp [Ch.blk, e])
  have n29 : B2 ≠ b9 := fun e => hS2.apart 0 2 _ _ rfl rfl (by decide) B2 (by simp [Ch.blk]) (by simp [Ch.blk, e])
  have n25 : B2 ≠ b5 := fun e => hS2.apart 0 3 _ _ rfl rfl (by decide) B2 (by simp [Ch.blk]) (by simp [Ch.blk, e])
  have n24 : B2 ≠ b4 := fun e => hS2.apart 0 4 _ _ rfl rfl (by decide) B2 (by simp [Ch.blk]) (by simp [Ch.blk, e])
  have hg := of_gives 9 (by decide) l hl a n cap id hn (by omega) B1 B2 w w2 hS2.below (hS2.get 1 rfl) (hS2.get 0 rfl) hs
  have hI0 : St w [] [Ch.blk b9 3 #[.int .i64 (nextBase ver ((ofId l id).take 0))], Ch.blk b5 40 (ptRow p).toArray, Ch.blk b4 38 (Value.int .i64 id :: .int .i64 ver :: .int .u32 lab :: flRow f).toArray] w2 := hS2.drop.drop
  have hlow := hS2.below.size
  have hcc : ∀ k, ∀ c ∈ ([Ch.blk b9 3 #[.int .i64 (nextBase ver ((ofId l id).take k))], Ch.blk b5 40 (ptRow p).toArray, Ch.blk b4 38 (Value.int .i64 id :: .int .i64 ver :: .int .u32 lab :: flRow f).toArray] : List Ch), B1 ∉ c.foot ∧ c.cellsy := fun k => List.forall_mem_cons.2 ⟨⟨by simp [Ch.blk, n19], Ch.blk_cellsy _ _ _⟩, List.forall_mem_cons.2 ⟨⟨by simp [Ch.blk, n15], Ch.blk_cellsy _ _ _⟩, List.forall_mem_cons.2 ⟨⟨by simp [Ch.blk, n14], Ch.blk_cellsy _ _ _⟩, fun _ h => absurd h (by simp)⟩⟩⟩
  have hft : ∀ k, ∀ g ∈ feet ([Ch.blk b9 3 #[.int .i64 (nextBase ver ((ofId l id).take k))], Ch.blk b5 40 (ptRow p).toArray, Ch.blk b4 38 (Value.int .i64 id :: .int .i64 ver :: .int .u32 lab :: flRow f).toArray] : List Ch), g ∉ [B1, B2] := by
    intro k g hg
    have : g = b9 ∨ g = b5 ∨ g = b4 := by simpa [feet, Ch.blk] using hg
    rcases this with rfl | rfl | rfl
    · simp; exact ⟨fun e => n19 e.symm, fun e => n29 e.symm⟩
    · simp; exact ⟨fun e => n15 e.symm, fun e => n25 e.symm⟩
    · simp; exact ⟨fun e => n14 e.symm, fun e => n24 e.symm⟩
  have hlb5 := hS2.lt 3 rfl b5 (by simp [Ch.blk])
  have hlb4 := hS2.lt 4 rfl b4 (by simp [Ch.blk])
  have hlb9 := hS2.lt 2 rfl b9 (by simp [Ch.blk])
  replace hl := Lib.hid hl
  replace hlb := Lib.hid hlb
  replace hs := Lib.hid hs
  clear hO hS hS2
  refine wpIn_givesM1 (n := 10) rfl (by decide) (gf := 88) (lb := #[.pointer (some ⟨B1, 0, none⟩), .pointer (some ⟨B2, 0, none⟩)]) rfl trivial (Go.Proofs.enters_of Try.func88 (by kernel_rfl) rfl) (xs := (ofId l id).map fun q => .agg (wrRow q).toArray) (n0 := w.heap.size) (Bn := B1) (Zs := [B1, B2]) hg lt1 hlow (by simp; exact ⟨lt1, lt2⟩)
    (fun k W => St w [] [Ch.blk b9 3 #[.int .i64 (nextBase ver ((ofId l id).take k))], Ch.blk b5 40 (ptRow p).toArray, Ch.blk b4 38 (Value.int .i64 id :: .int .i64 ver :: .int .u32 lab :: flRow f).toArray] W ∧ w2.heap.size ≤ W.heap.size) ?hI ⟨hI0, Nat.le_refl _⟩
    (fun k a1 W => ∃ g q, (ofId l id)[k]? = some q ∧ a1 = { tmps := #[.slice a n cap, .agg (Value.int .i64 id :: .int .i64 ver :: .int .u32 lab :: flRow f).toArray, .agg (ptRow p).toArray, undef, .pointer (some ⟨b4, 0, none⟩), .pointer (some ⟨b5, 0, none⟩), .slice none 0 0, .int .i64 0, .int .i64 0, .pointer (some ⟨b9, 0, none⟩), .pointer (some ⟨g, 0, none⟩), .agg (ptRow p).toArray, .int .i64 0, .int .i64 0, .bool false, undef, .slice a n cap, .int .i64 n, .bool false, .pointer (some ⟨b4, 1, none⟩), .int .i64 ver, .slice a n cap, .pointer (some ⟨b4, 0, none⟩), .int .i64 id, .func (.func 88) #[] #[.pointer (some ⟨B1, 0, none⟩), .pointer (some ⟨B2, 0, none⟩)], .agg (wrRow q).toArray, undef, undef, undef, undef, undef, undef, undef, undef, undef, undef, undef, undef], defers := [] } ∧ w2.heap.size ≤ g ∧ St w [] (Ch.blk g 46 (wrRow q).toArray :: [Ch.blk b9 3 #[.int .i64 (nextBase ver ((ofId l id).take k))], Ch.blk b5 40 (ptRow p).toArray, Ch.blk b4 38 (Value.int .i64 id :: .int .i64 ver :: .int .u32 lab :: flRow f).toArray]) W ∧ w2.heap.size ≤ W.heap.size) ?hMid ?assign ?body ?done
  case hI => exact Abide.and (abide_st2 lo1 hlow fun k => hcc k) abide_size
  case hMid =>
    rintro k a1 k' A C row ⟨g, q, e1, e2, e3, e4, e5⟩ hg hr
    exact ⟨g, q, e1, e2, e3, abide_st2 (L := fun _ => Ch.blk g 46 (wrRow q).toArray :: [Ch.blk b9 3 #[.int .i64 (nextBase ver ((ofId l id).take k))], Ch.blk b5 40 (ptRow p).toArray, Ch.blk b4 38 (Value.int .i64 id :: .int .i64 ver :: .int .u32 lab :: flRow f).toArray]) lo1 hlow (fun _ => List.forall_mem_cons.2 ⟨⟨by simp [Ch.blk]; omega, Ch.blk_cellsy _ _ _⟩, hcc k⟩) k A C row e4 hg hr, Nat.le_trans e5 hg.size⟩
  case assign =>
    rintro yl k x W K ⟨hS3, hz3⟩ hx hK
    rw [List.getElem?_map] at hx
    obtain ⟨q, hq, rfl⟩ := Option.map_eq_some_iff.1 hx
    have hql := List.mem_of_getElem? hq
    have hq8 : q.p.f.length = 8 := hl.out q (List.mem_filter.1 hql).1
    have ql := wrRow_len q hq8
    have qo := wrRow_one q
    have hT := hS3.pre [Ch.blk b9 3 #[.int .i64 (nextBase ver ((ofId l id).take k))], Ch.blk b5 40 (ptRow p).toArray, Ch.blk b4 38 (Value.int .i64 id :: .int .i64 ver :: .int .u32 lab :: flRow f).toArray] [] rfl
    gi_wp2_with (first
      | (with_reducible refine wpListIn_alloc_st hT rfl rfl ew ?_; intro g w1 hg1 hS1; clear hT; have hT := hS1; clear hS1)
      | ((with_reducible refine wpListIn_storerow_st (m := 28) (vs := wrRow q) 0 hT rfl rfl rfl rfl (by kernel_rfl) rfl ql qo (by kernel_rfl) ?_); intro w1 hS1; clear hT; have hT := hS1; clear hS1; simp only [List.set_cons_zero, List.take_zero, List.nil_append, List.drop_succ_cons, List.drop_zero, List.drop_nil, List.append_nil] at hT))
    obtain ⟨q1, q2, q3, q4⟩ := keeps_of (B := w2.heap.size) (Zs := [B1, B2]) hS3 hT (fun c hc => (hcc k c hc).2) (hft k) (by intro z hz; simp at hz; rcases hz with rfl | rfl <;> omega)
    exact hK _ _ q1 q2 q3 ⟨g, q, hq, rfl, by omega, q4, Nat.le_trans hz3 hT.fr.size⟩
  case body =>
    rintro yl k x a1 W ⟨g, q, e1, rfl, e3, hS3, hz3⟩ hx
    have hql := List.mem_of_getElem? e1
    obtain ⟨hb1, hb2⟩ := hlb.out q (List.mem_filter.1 hql).1
    have hT := hS3.pre (Ch.blk g 46 (wrRow q).toArray :: [Ch.blk b9 3 #[.int .i64 (nextBase ver ((ofId l id).take k))], Ch.blk b5 40 (ptRow p).toArray, Ch.blk b4 38 (Value.int .i64 id :: .int .i64 ver :: .int .u32 lab :: flRow f).toArray]) [] (List.append_nil _).symm
    have hk2 : k < (ofId l id).length := (List.getElem?_eq_some_iff.1 e1).1
    have hmk : nextBase ver ((ofId l id).take (k + 1)) = q.base + 1 := by
      rw [List.take_succ_eq_append_getElem hk2, nextBase_snoc, (List.getElem?_eq_some_iff.1 e1).2]
    have hfin : ∀ W', St W (feet (Ch.blk g 46 (wrRow q).toArray :: [Ch.blk b9 3 #[.int .i64 (nextBase ver ((ofId l id).take k))], Ch.blk b5 40 (ptRow p).toArray, Ch.blk b4 38 (Value.int .i64 id :: .int .i64 ver :: .int .u32 lab :: flRow f).toArray])) [Ch.blk b9 3 #[.int .i64 (nextBase ver ((ofId l id).take (k + 1)))], Ch.blk b5 40 (ptRow p).toArray, Ch.blk b4 38 (Value.int .i64 id :: .int .i64 ver :: .int .u32 lab :: flRow f).toArray] W' → goOnZ w.heap.size w2.heap.size [B1, B2] (fun k W => St w [] [Ch.blk b9 3 #[.int .i64 (nextBase ver ((ofId l id).take k))], Ch.blk b5 40 (ptRow p).toArray, Ch.blk b4 38 (Value.int .i64 id :: .int .i64 ver :: .int .u32 lab :: flRow f).toArray] W ∧ w2.heap.size ≤ W.heap.size) k W .normal { tmps := #[], defers := [] } W' := by
      intro W' hT'
      obtain ⟨q1, q2, q3, q4⟩ := keeps_of (B := w2.heap.size) (Zs := [B1, B2]) hS3 hT' (List.forall_mem_cons.2 ⟨Ch.blk_cellsy _ _ _, fun c hc => (hcc k c hc).2⟩) (by
        intro z hz
        have : z = g ∨ z ∈ feet ([Ch.blk b9 3 #[.int .i64 (nextBase ver ((ofId l id).take k))], Ch.blk b5 40 (ptRow p).toArray, Ch.blk b4 38 (Value.int .i64 id :: .int .i64 ver :: .int .u32 lab :: flRow f).toArray] : List Ch) := by simpa [feet, Ch.blk] using hz
        rcases this with rfl | h
        · simp; omega
        · exact hft k z h) (by intro z hz; simp at hz; rcases hz with rfl | rfl <;> omega)
      exact ⟨q1, q2, q3, q4, Nat.le_trans hz3 hT'.fr.size⟩
    rw [hmk] at hfin
    replace hfin := Lib.hid hfin
    clear hmk hS3 hx e1
    obtain ⟨qi, qb, qp⟩ := q
    simp only [wrRow] at hT hfin hb1 hb2
    gi_wp2_with (first
      | ((with_reducible refine wpListIn_load_st 0 hT rfl rfl rfl rfl ?_ rfl ?_); focus (simp [scalarB, go_sem]; done))
      | ((with_reducible refine wpListIn_store_st 1 hT rfl rfl rfl rfl (by kernel_rfl) rfl rfl ?_); intro w1 hS1; clear hT; have hT := hS1; clear hS1; simp only [List.set_cons_zero, List.set_cons_succ, List.setIfInBounds_toArray] at hT))
    exact hfin.out _ hT.drop
  case done =>
    rintro D W hD ⟨hS3, -⟩ hK
    rw [List.length_map, List.take_length] at hS3
    have hbW := hS3.below
    have hrng := Whole.range (hS3.get 1 rfl) 0 (vs := ptRow p) (fun k v hk => by simpa using hk)
    have c4 := hS3.cell 2 rfl 0
    have c9 := hS3.cell 0 rfl 0
    simp only [List.getElem?_toArray, List.getElem?_cons_zero] at c4 c9
    have hsW := hs.out.below hbW
    generalize hbe : nextBase ver (ofId l id) = base at *
    replace hbe := Lib.hid hbe
    have hbw := fill_wr 46 id base (ptRow p) hpn
    have hwl : (Value.int .i64 id :: .int .i64 base :: ptRow p).length = 28 := by simp [hpn]
    have hwo : ∀ u ∈ (Value.int .i64 id :: .int .i64 base :: ptRow p), u.oneCell' = true := fun u hu => List.all_eq_true.1 (wrRow_one ⟨id, base, p⟩) u hu
    have hb1 := fun W : World => run_build1 (P := Try.prog) W 29 _ Try.underlying29 ew (v := .agg (Value.int .i64 id :: .int .i64 base :: ptRow p).toArray) (by simp [Value.cells, hpn]) (by decide)
    have cC : ∀ W : World, Sl W a (qRow l) → Calls Try.prog 60 #[.slice a n cap] W (fun e w' => ∃ a9 c9, e = .returned (.slice a9 n c9) ∧ St W [] [Ch.row 46 28 (.slice a9 n c9) n (qRow l)] w') := fun W h => by
      have := clone_any l hl.out a n cap hn (by omega) W h hnil
      unfold WrRet at this
      rw [hn] at this
      exact this.mono fun e w' ⟨a9, c9, h1, _, _, h4⟩ => ⟨a9, c9, h1, h4⟩
    replace cC := Lib.hid cC
    replace hb1 := Lib.hid hb1
    replace hsW := Lib.hid hsW
    have hrl : (Value.int .i64 id :: .int .i64 base :: ptRow p).length = 1 * 28 := hwl
    replace hwo := Lib.hid hwo
    have hq1 : qRow (l ++ [⟨id, base, p⟩]) = qRow l ++ (Value.int .i64 id :: .int .i64 base :: ptRow p) := qRow_snoc l ⟨id, base, p⟩
    have hS := St.start W
    have kP := hS.koldrow (P := Try.prog) hrng (t := 40) (by kernel_rfl) (n := 26) (by kernel_rfl) hpn
    have k4 := hS.kold0 c4
    have k9 := hS.kold0 c9
    generalize hRW : (Value.int .i64 id :: .int .i64 base :: ptRow p) = RW at *
    generalize ptRow p = RP at *
    gi_wp2

    refine mixg_begin (by kernel_rfl) hS ?_
    clear hS
    intro w4 hS
    refine mixg_take 0 (v := ?_) rfl (by kernel_rfl) (fun _ _ _ h => h) (by kernel_rfl) (by assumption) (fun s => ?hy) ?_; case hy => (go_simp <;> with_reducible rfl)
    try simp only [List.getElem_toArray, List.getElem_cons_succ, List.getElem_cons_zero, Act.put, List.setIfInBounds_toArray, List.set_cons_zero, List.set_cons_succ]
    refine mixg_take 2 (v := ?_) rfl (by kernel_rfl) (fun _ _ _ h => h) (by kernel_rfl) (by assumption) (fun s => ?hy) ?_; case hy => (go_simp <;> with_reducible rfl)
    try simp only [List.getElem_toArray, List.getElem_cons_succ, List.getElem_cons_zero, Act.put, List.setIfInBounds_toArray, List.set_cons_zero, List.set_cons_succ]
    refine mixg_take 3 (v := ?_) rfl (by kernel_rfl) (fun _ _ _ h => h) (by kernel_rfl) (by assumption) (fun s => ?hy) ?_; case hy => (go_simp <;> with_reducible rfl)
    try simp only [List.getElem_toArray, List.getElem_cons_succ, List.getElem_cons_zero, Act.put, List.setIfInBounds_toArray, List.set_cons_zero, List.set_cons_succ]
    refine mixg_take 4 (v := ?_) rfl (by kernel_rfl) (fun _ _ _ h => h) (by kernel_rfl) (by assumption) (fun s => ?hy) ?_; case hy => (go_simp <;> with_reducible rfl)
    try simp only [List.getElem_toArray, List.getElem_cons_succ, List.getElem_cons_zero, Act.put, List.setIfInBounds_toArray, List.set_cons_zero, List.set_cons_succ]
    refine mixg_take 5 (v := ?_) rfl (by kernel_rfl) (fun _ _ _ h => h) (by kernel_rfl) (by assumption) (fun s => ?hy) ?_; case hy => (refine Eq.trans (take_loadrow s rfl rfl kP) ?_; with_reducible rfl)
    try simp only [List.getElem_toArray, List.getElem_cons_succ, List.getElem_cons_zero, Act.put, List.setIfInBounds_toArray, List.set_cons_zero, List.set_cons_succ]
    refine mixg_take 6 (v := ?_) rfl (by kernel_rfl) (fun _ _ _ h => h) (by kernel_rfl) (by assumption) (fun s => ?hy) ?_; case hy => (go_simp <;> with_reducible rfl)
    try simp only [List.getElem_toArray, List.getElem_cons_succ, List.getElem_cons_zero, Act.put, List.setIfInBounds_toArray, List.set_cons_zero, List.set_cons_succ]
    refine mixg_two 1 7 (by kernel_rfl) rfl rfl (fun K hK => ?_) (fun K hK => ?_)
    · go_simp
      (go_at_call 60; (with_reducible refine (cC.out _ (hS.sl hsW.out)).mono ?_); rintro _ w9 ⟨a9, c9, rfl, hk9⟩; have hS1 := hS.made hk9; clear hk9 hS; have hS := hS1; clear hS1; simp only [List.cons_append, List.nil_append] at hS)
      try clear hC
      refine hK.out _ _ _ (fun _ h => h) (by first | exact hS | exact hS.drop | exact hS.drop.drop | exact hS.drop.drop.drop | exact hS.drop.drop.drop.drop | exact hS.empty | exact hS.one 0 rfl | exact hS.one 1 rfl | exact hS.one 2 rfl | exact hS.one 3 rfl | exact hS.one 4 rfl | exact hS.one 5 rfl | exact hS.one 6 rfl | exact hS.one 7 rfl | exact hS.one 8 rfl | exact hS.one 9 rfl | exact hS.one 10 rfl | exact hS.one 11 rfl) (fun hC => ?_)
      clear hK K
      try simp only [List.getElem_toArray, List.getElem_cons_succ, List.getElem_cons_zero, Act.put, List.setIfInBounds_toArray, List.set_cons_zero, List.set_cons_succ]
      refine mixg_one 7 (by kernel_rfl) rfl (fun K hK => ?_)
      (with_reducible refine op_buildr_st (by kernel_rfl) hS hb1.out rfl rfl ?_; intro gs w1 hS1; clear hS; have hS := hS1; clear hS1)
      try clear hC
      refine hK.out _ _ _ (fun _ h => h) (by first | exact hS | exact hS.drop | exact hS.drop.drop | exact hS.drop.drop.drop | exact hS.drop.drop.drop.drop | exact hS.empty | exact hS.one 0 rfl | exact hS.one 1 rfl | exact hS.one 2 rfl | exact hS.one 3 rfl | exact hS.one 4 rfl | exact hS.one 5 rfl | exact hS.one 6 rfl | exact hS.one 7 rfl | exact hS.one 8 rfl | exact hS.one 9 rfl | exact hS.one 10 rfl | exact hS.one 11 rfl) (fun hC => ?_)
      clear hK K
      try simp only [List.getElem_toArray, List.getElem_cons_succ, List.getElem_cons_zero, Act.put, List.setIfInBounds_toArray, List.set_cons_zero, List.set_cons_succ]
      refine mixg_one 8 (by kernel_rfl) rfl (fun K hK => ?_)
      ((with_reducible refine op_app_st (by kernel_rfl) 1 hS rfl rfl Try.underlying29 ew rfl (Src.slice Try.underlying29 (hS.blksl2 0 rfl) hrl) rfl hwo.out (by omega) (by unfold maxLen; omega) ?_); intro v5 w3 hS1; clear hS; have hS := hS1; clear hS1; simp only [List.set_cons_zero, List.set_cons_succ] at hS; obtain ⟨a5, c5, rfl, -⟩ := hS.row 1 rfl)
      try clear hC
      refine hK.out _ _ _ (fun _ h => h) (by first | exact hS | exact hS.drop | exact hS.drop.drop | exact hS.drop.drop.drop | exact hS.drop.drop.drop.drop | exact hS.empty | exact hS.one 0 rfl | exact hS.one 1 rfl | exact hS.one 2 rfl | exact hS.one 3 rfl | exact hS.one 4 rfl | exact hS.one 5 rfl | exact hS.one 6 rfl | exact hS.one 7 rfl | exact hS.one 8 rfl | exact hS.one 9 rfl | exact hS.one 10 rfl | exact hS.one 11 rfl) (fun hC => ?_)
      clear hK K
      try simp only [List.getElem_toArray, List.getElem_cons_succ, List.getElem_cons_zero, Act.put, List.setIfInBounds_toArray, List.set_cons_zero, List.set_cons_succ]
      refine mixg_take 9 (v := ?_) rfl (by kernel_rfl) (fun _ _ _ h => h) (by kernel_rfl) (by assumption) (fun s => ?hy) ?_; case hy => (go_simp <;> with_reducible rfl)
      try simp only [List.getElem_toArray, List.getElem_cons_succ, List.getElem_cons_zero, Act.put, List.setIfInBounds_toArray, List.set_cons_zero, List.set_cons_succ]
      refine mixg_take 10 (v := ?_) rfl (by kernel_rfl) (fun _ _ _ h => h) (by kernel_rfl) (by assumption) (fun s => ?hy) ?_; case hy => (go_simp <;> with_reducible rfl)
      try simp only [List.getElem_toArray, List.getElem_cons_succ, List.getElem_cons_zero, Act.put, List.setIfInBounds_toArray, List.set_cons_zero, List.set_cons_succ]
      refine wpAnyG_done (by kernel_rfl) ?_ _
      have hR := hS.one 1 rfl
      clear hS hC
      gi_wp2
      obtain ⟨_, _, e2, -, -, h1, h2⟩ := hR.row 0 rfl
      cases e2
      have hK1 := (hR.fr.block D (Array.getElem?_eq_some_iff.1 hK).1 (by simp)).trans hK
      have hF := (hS3.made hR).one 0 rfl
      refine ⟨by simp, .inl ⟨_, _, rfl, run_takeDeferred hK1, ?_⟩⟩
      refine ⟨_, results_tmp2 rfl _ _ _, a5, c5, rfl, h1, h2, ?_⟩
      rw [hbe.out, hq1]
      exact hF.putObj (fun c hc => by simp at hc; subst hc; exact Ch.row_cellsy _ _ _ _ _) _ (Nat.le_trans hlow hD) hK1 rfl
    · (with_reducible refine op_buildr_st (by kernel_rfl) hS hb1.out rfl rfl ?_; intro gs w1 hS1; clear hS; have hS := hS1; clear hS1)
      try clear hC
      refine hK.out _ _ _ (fun _ h => h) (by first | exact hS | exact hS.drop | exact hS.drop.drop | exact hS.drop.drop.drop | exact hS.drop.drop.drop.drop | exact hS.empty | exact hS.one 0 rfl | exact hS.one 1 rfl | exact hS.one 2 rfl | exact hS.one 3 rfl | exact hS.one 4 rfl | exact hS.one 5 rfl | exact hS.one 6 rfl | exact hS.one 7 rfl | exact hS.one 8 rfl | exact hS.one 9 rfl | exact hS.one 10 rfl | exact hS.one 11 rfl) (fun hC => ?_)
      clear hK K
      try simp only [List.getElem_toArray, List.getElem_cons_succ, List.getElem_cons_zero, Act.put, List.setIfInBounds_toArray, List.set_cons_zero, List.set_cons_succ]
      refine mixg_one 1 (by kernel_rfl) rfl (fun K hK => ?_)
      go_simp
      (go_at_call 60; (with_reducible refine (cC.out _ (hS.sl hsW.out)).mono ?_); rintro _ w9 ⟨a9, c9, rfl, hk9⟩; have hS1 := hS.made hk9; clear hk9 hS; have hS := hS1; clear hS1; simp only [List.cons_append, List.nil_append] at hS)
      try clear hC
      refine hK.out _ _ _ (fun _ h => h) (by first | exact hS | exact hS.drop | exact hS.drop.drop | exact hS.drop.drop.drop | exact hS.drop.drop.drop.drop | exact hS.empty | exact hS.one 0 rfl | exact hS.one 1 rfl | exact hS.one 2 rfl | exact hS.one 3 rfl | exact hS.one 4 rfl | exact hS.one 5 rfl | exact hS.one 6 rfl | exact hS.one 7 rfl | exact hS.one 8 rfl | exact hS.one 9 rfl | exact hS.one 10 rfl | exact hS.one 11 rfl) (fun hC => ?_)
      clear hK K
      try simp only [List.getElem_toArray, List.getElem_cons_succ, List.getElem_cons_zero, Act.put, List.setIfInBounds_toArray, List.set_cons_zero, List.set_cons_succ]
      refine mixg_one 8 (by kernel_rfl) rfl (fun K hK => ?_)
      ((with_reducible refine op_app_st (by kernel_rfl) 0 hS rfl rfl Try.underlying29 ew rfl (Src.slice Try.underlying29 (hS.blksl2 1 rfl) hrl) rfl hwo.out (by omega) (by unfold maxLen; omega) ?_); intro v5 w3 hS1; clear hS; have hS := hS1; clear hS1; simp only [List.set_cons_zero, List.set_cons_succ] at hS; obtain ⟨a5, c5, rfl, -⟩ := hS.row 0 rfl)
      try clear hC
      refine hK.out _ _ _ (fun _ h => h) (by first | exact hS | exact hS.drop | exact hS.drop.drop | exact hS.drop.drop.drop | exact hS.drop.drop.drop.drop | exact hS.empty | exact hS.one 0 rfl | exact hS.one 1 rfl | exact hS.one 2 rfl | exact hS.one 3 rfl | exact hS.one 4 rfl | exact hS.one 5 rfl | exact hS.one 6 rfl | exact hS.one 7 rfl | exact hS.one 8 rfl | exact hS.one 9 rfl | exact hS.one 10 rfl | exact hS.one 11 rfl) (fun hC => ?_)
      clear hK K
      try simp only [List.getElem_toArray, List.getElem_cons_succ, List.getElem_cons_zero, Act.put, List.setIfInBounds_toArray, List.set_cons_zero, List.set_cons_succ]
      refine mixg_take 9 (v := ?_) rfl (by kernel_rfl) (fun _ _ _ h => h) (by kernel_rfl) (by assumption) (fun s => ?hy) ?_; case hy => (go_simp <;> with_reducible rfl)
      try simp only [List.getElem_toArray, List.getElem_cons_succ, List.getElem_cons_zero, Act.put, List.setIfInBounds_toArray, List.set_cons_zero, List.set_cons_succ]
      refine mixg_take 10 (v := ?_) rfl (by kernel_rfl) (fun _ _ _ h => h) (by kernel_rfl) (by assumption) (fun s => ?hy) ?_; case hy => (go_simp <;> with_reducible rfl)
      try simp only [List.getElem_toArray, List.getElem_cons_succ, List.getElem_cons_zero, Act.put, List.setIfInBounds_toArray, List.set_cons_zero, List.set_cons_succ]
      refine wpAnyG_done (by kernel_rfl) ?_ _
      have hR := hS.one 0 rfl
      clear hS hC
      gi_wp2
      obtain ⟨_, _, e2, -, -, h1, h2⟩ := hR.row 0 rfl
      cases e2
      have hK1 := (hR.fr.block D (Array.getElem?_eq_some_iff.1 hK).1 (by simp)).trans hK
      have hF := (hS3.made hR).one 0 rfl
      refine ⟨by simp, .inl ⟨_, _, rfl, run_takeDeferred hK1, ?_⟩⟩
      refine ⟨_, results_tmp2 rfl _ _ _, a5, c5, rfl, h1, h2, ?_⟩
      rw [hbe.out, hq1]
      exact hF.putObj (fun c hc => by simp at hc; subst hc; exact Ch.row_cellsy _ _ _ _ _) _ (Nat.le_trans hlow hD) hK1 rfl
end Go.Proofs.Ytplgpbbghhlbjaa
end

section
/- A write put behind all: the other cases. -/
set_option linter.unusedSimpArgs false
set_option linter.unusedVariables false
namespace Go.Ofp
def pushQ (l : List Wr) (c : Cd) (p : Pt) : List Wr × Int :=
  if p.check ≠ 0 then ([], p.check) else if 12 ≤ l.length then ([], 8) else (l ++ [⟨c.id, nextBase c.ver (ofId l c.id), p⟩], 0)
end Go.Ofp
namespace Go.Proofs.Ytplgpbbghhlbjaa
open Go.RowKit Go.Ofp
set_option linter.unusedVariables false
set_option maxRecDepth 100000
set_option maxHeartbeats 4000000

theorem push_bad (c : Cd) (hc : c.f.length = 8) (p : Pt) (hpf : p.f.length = 8) (hpm : p.mask < 4294967296) (hpl : p.lab < 4294967296) (hck : p.check ≠ 0) (a : Option Addr) (n cap : Nat) (w : World) :
    Calls Try.prog 21 #[.slice a n cap, .agg (cdRow c).toArray, .agg (ptRow p).toArray] w fun e w' => e = .returned (.tuple #[.slice none 0 0, .int .i64 p.check]) ∧ Below w.heap.size w w' := by
  have hS := St.start w
  have cK := fun W : World => cp_any p hpf hpm hpl W
  have hnz : (p.check != 0) = true := by rw [bne_iff_ne]; exact hck
  generalize p.check = ch at *
  replace cK := Lib.hid cK
  have hpn : (ptRow p).length = 26 := by simp [ptRow, flRow_length, hpf]
  have hps : sizeB Try.prog 40 (ptRow p).toArray.size = true := by rw [List.size_toArray, hpn]; kernel_rfl
  clear hck
  refine (callsIn_wide (n := 10)).1 ?_
  refine callsIn_of_wp_marks Try.func21 rfl trivial ?_ rfl
  simp only [Try.ntmps21, List.size_toArray, List.length_cons, List.length_nil, Nat.reduceAdd, Nat.reduceSub, Array.replicate_succ, Array.replicate_zero, List.push_toArray, List.append_toArray, List.nil_append, List.cons_append]
  gi_wp2_with (first
    | (refine ⟨trivial, ?_⟩; gi_at_call 58; refine (callsIn_wide.2 (cK.out _)).mono ?_; rintro _ w9 ⟨rfl, hk9⟩; have hS1 := hS.keepB hk9; clear hk9 hS; have hS := hS1; clear hS1)
    | (with_reducible refine wpListIn_box_st (L := []) hS rfl rfl rfl ?_; intro b4 w1 _ hS1; clear hS; have hS := hS1; clear hS1)
    | (with_reducible refine wpListIn_box_st (L := [_]) hS rfl rfl rfl ?_; intro b5 w1 _ hS1; clear hS; have hS := hS1; clear hS1)
    | ((with_reducible refine wpListIn_loadall_st 0 hS rfl rfl rfl rfl ?_ hps ?_); focus (simp [rowB, go_sem]; done)))
  exact ⟨_, results_tmp2 rfl _ _ _, rfl, hS.below⟩

theorem push_full (c : Cd) (hc : c.f.length = 8) (p : Pt) (hpf : p.f.length = 8) (hpm : p.mask < 4294967296) (hpl : p.lab < 4294967296) (hck : p.check = 0) (a : Option Addr) (n cap : Nat) (hn : 12 ≤ n) (w : World) :
    Calls Try.prog 21 #[.slice a n cap, .agg (cdRow c).toArray, .agg (ptRow p).toArray] w fun e w' => e = .returned (.tuple #[.slice none 0 0, .int .i64 8]) ∧ Below w.heap.size w w' := by
  have hS := St.start w
  have cK := fun W : World => cp_any p hpf hpm hpl W
  rw [hck] at cK
  replace cK := Lib.hid cK
  have d12 : decide ((12 : Int) ≤ (n : Int)) = true := decide_eq_true (by omega)
  have hpn : (ptRow p).length = 26 := by simp [ptRow, flRow_length, hpf]
  have hps : sizeB Try.prog 40 (ptRow p).toArray.size = true := by rw [List.size_toArray, hpn]; kernel_rfl
  clear hck
  refine (callsIn_wide (n := 10)).1 ?_
  refine callsIn_of_wp_marks Try.func21 rfl trivial ?_ rfl
  simp only [Try.ntmps21, List.size_toArray, List.length_cons, List.length_nil, Nat.reduceAdd, Nat.reduceSub, Array.replicate_succ, Array.replicate_zero, List.push_toArray, List.append_toArray, List.nil_append, List.cons_append]
  gi_wp2_with (first
    | (refine ⟨trivial, ?_⟩; gi_at_call 58; refine (callsIn_wide.2 (cK.out _)).mono ?_; rintro _ w9 ⟨rfl, hk9⟩; have hS1 := hS.keepB hk9; clear hk9 hS; have hS := hS1; clear hS1)
    | (with_reducible refine wpListIn_box_st (L := []) hS rfl rfl rfl ?_; intro b4 w1 _ hS1; clear hS; have hS := hS1; clear hS1)
    | (with_reducible refine wpListIn_box_st (L := [_]) hS rfl rfl rfl ?_; intro b5 w1 _ hS1; clear hS; have hS := hS1; clear hS1)
    | ((with_reducible refine wpListIn_loadall_st 0 hS rfl rfl rfl rfl ?_ hps ?_); focus (simp [rowB, go_sem]; done)))
  exact ⟨_, results_tmp2 rfl _ _ _, rfl, hS.below⟩
/-- A slice of writes that came back: in old memory. -/
def SlQ (w' : World) (a : Option Addr) (c : Nat) (l : List Wr) : Prop := Sl w' a (qRow l) ∧ (a = none → l.length = 0 ∧ c = 0) ∧ l.length ≤ c ∧ c ≤ maxLen
theorem SlQ.below {w w' : World} {a : Option Addr} {c : Nat} {l : List Wr} (h : SlQ w a c l) (hb : Below w.heap.size w w') : SlQ w' a c l := ⟨h.1.below hb, h.2⟩
theorem SlQ.none (w : World) : SlQ w none 0 [] := ⟨Sl.nil _ _, fun _ => ⟨rfl, rfl⟩, Nat.le_refl _, Nat.zero_le _⟩
theorem SlQ.row {w0 w : World} {F : List Nat} {L : List Ch} {T : TypeId} {a : Option Addr} {n c : Nat} {l : List Wr} (hS : St w0 F L w) (i : Nat) (hn : l.length = n) (hi : L[i]? = some (Ch.row T 28 (.slice a n c) n (qRow l))) : SlQ w a c l := by
  obtain ⟨_, _, e9, -, -, h8, h9⟩ := hS.row i hi
  cases e9
  refine ⟨hS.rowsl i hi, fun ha => ?_, by omega, h9⟩
  subst ha
  obtain ⟨_, h2⟩ := hS.get i hi
  rcases h2 with ⟨h3, h4⟩ | ⟨g, cap, cur, h3, _⟩
  · cases h3
    exact ⟨hn, rfl⟩
  · cases h3
theorem push_any (c : Cd) (hc : c.f.length = 8) (p : Pt) (hpf : p.f.length = 8) (hpm : p.mask < 4294967296) (hpl : p.lab < 4294967296) (l : List Wr) (hl : ∀ q ∈ l, q.p.f.length = 8) (hlb : ∀ q ∈ l, -4611686018427387904 ≤ q.base ∧ q.base ≤ 4611686018427387904) (a : Option Addr) (n cap : Nat) (hn : l.length = n) (w : World) (hs : SlQ w a cap l) :
    Calls Try.prog 21 #[.slice a n cap, .agg (cdRow c).toArray, .agg (ptRow p).toArray] w fun e w' => ∃ a' c', e = .returned (.tuple #[.slice a' (pushQ l c p).1.length c', .int .i64 (pushQ l c p).2]) ∧ SlQ w' a' c' (pushQ l c p).1 ∧ Below w.heap.size w w' := by
  unfold pushQ
  by_cases hck : p.check = 0
  · rw [if_neg (by simpa using hck)]
    by_cases h12 : 12 ≤ l.length
    · rw [if_pos h12]
      exact (push_full c hc p hpf hpm hpl hck a n cap (by omega) w).mono fun e w' ⟨h1, h2⟩ => ⟨none, 0, h1, SlQ.none _, h2⟩
    · rw [if_neg h12]
      refine (push_main c hc p hpf hpm hpl hck l hl hlb a n cap hn (by omega) (fun ha => by have := hs.2.1 ha; omega) w hs.1).mono ?_
      rintro e w' ⟨a', c', h1, -, -, h4⟩
      have hlen : (l ++ [(⟨c.id, nextBase c.ver (ofId l c.id), p⟩ : Wr)]).length = n + 1 := by simp [hn]
      refine ⟨a', c', ?_, SlQ.row h4 0 hlen rfl, h4.below⟩
      rw [hlen]
      exact h1
  · rw [if_pos hck]
    exact (push_bad c hc p hpf hpm hpl hck a n cap w).mono fun e w' ⟨h1, h2⟩ => ⟨none, 0, h1, SlQ.none _, h2⟩
end Go.Proofs.Ytplgpbbghhlbjaa
end

section
/- Queues that are the same. -/
set_option linter.unusedSimpArgs false
set_option linter.unusedVariables false
namespace Go.Proofs.Ytplgpbbghhlbjaa
open Go.RowKit Go.Ofp
set_option linter.unusedVariables false
set_option maxRecDepth 100000
set_option maxHeartbeats 4000000

theorem eq_wr (d : Nat) (p q : Wr) (hf : p.p.f.length = 8) (hg : q.p.f.length = 8) (w : World) : (Op.equalIn (d + 5) 46 (.agg (wrRow p).toArray) (.agg (wrRow q).toArray)).run Try.prog w = .ok (decide (p = q)) w := by
  have hp : Try.prog.stoodInHeld 46 = false := by kernel_rfl
  have hff := fields_of Try.underlying46
  have hu : Try.prog.underlying 46 = some (.struct (Try.prog.fieldsOf 46)) := by rw [hff, Try.underlying46]
  rw [run_equalIn_struct w (d + 4) _ _ _ hu hp, hff]
  obtain ⟨a, b, f⟩ := p
  obtain ⟨a', b', g⟩ := q
  simp only at hf hg
  have e3 := eq_pt d f g hf hg w
  have h3 := Try.underlying3
  have e1 : ∀ x y : Int, (Op.equalIn (d + 4) 3 (.int .i64 x) (.int .i64 y)).run Try.prog w = .ok (x == y) w := fun x y => by simp [Op.equalIn, run_underlying h3]
  have pa : ∀ (x y : Int) (R : List Value), (part 3 (Value.int .i64 x :: .int .i64 y :: R).toArray 0).run Try.prog w = .ok (.int .i64 x) w := fun x y R => by go_simp
  have pb : ∀ (x y : Int) (R : List Value), (part 3 (Value.int .i64 x :: .int .i64 y :: R).toArray 1).run Try.prog w = .ok (.int .i64 y) w := fun x y R => by go_simp
  have pc : ∀ (x y : Int) (f : Pt), f.f.length = 8 → (part 40 (Value.int .i64 x :: .int .i64 y :: ptRow f).toArray 2).run Try.prog w = .ok (.agg (ptRow f).toArray) w := fun x y f hf => by
    have := run_part_row (P := Try.prog) (t := 40) (n := 26) (by kernel_rfl) (by kernel_rfl) (Value.int .i64 x :: .int .i64 y :: ptRow f).toArray 2 w
    rw [extract_list, List.drop_succ_cons, List.drop_succ_cons, List.drop_zero, List.take_of_length_le (by simp [ptRow, flRow_length, hf])] at this
    exact this
  simp only [wrRow]
  have pf := pc a b f hf
  have pg := pc a' b' g hg
  generalize ptRow f = RF at *
  generalize ptRow g = RG at *
  simp only [Op.eqFields, ne_eq, String.reduceEq, not_false_eq_true, if_true, Sem.run_bind, pa, pb, pf, pg, e1, e3, Result.andThen_ok]
  by_cases k2 : a = a'
  · subst k2
    by_cases k3 : b = b'
    · subst k3
      by_cases k4 : f = g <;> simp [pb, e1, pf, pg, e3, k4]
    · simp [pb, e1, k3]
  · simp [k2]
theorem neq_wr (p q : Wr) (hf : p.p.f.length = 8) (hg : q.p.f.length = 8) (w : World) : (binOp .neq 46 (.agg (wrRow p).toArray) (.agg (wrRow q).toArray)).run Try.prog w = .ok (.bool (!decide (p = q))) w := by
  rw [run_neq_struct, eq_wr 9995 p q hf hg w]
  rfl
theorem guard_wr (op : BinOp) (x y : Operand) (xs ys : Array Value) (w : World) : (eqGuard op 46 x y (.agg xs) (.agg ys)).run Try.prog w = .ok () w :=
  run_eqGuard_agg w op _ x y xs ys (by kernel_rfl)
end Go.Proofs.Ytplgpbbghhlbjaa
end

section
/- Queues that are the same: the program. -/
set_option linter.unusedSimpArgs false
set_option linter.unusedVariables false
namespace Go.Proofs.Ytplgpbbghhlbjaa
open Go.RowKit Go.Ofp
set_option linter.unusedVariables false
set_option maxRecDepth 100000
set_option maxHeartbeats 4000000

end Go.Proofs.Ytplgpbbghhlbjaa
end

section
/- The reference's queue: Waits. -/
set_option linter.unusedSimpArgs false
set_option linter.unusedVariables false
namespace Go.Ofp
end Go.Ofp
namespace Go.Proofs.Ytplgpbbghhlbjaa
open Go.RowKit Go.Ofp
set_option linter.unusedVariables false
set_option maxRecDepth 100000
set_option maxHeartbeats 4000000

end Go.Proofs.Ytplgpbbghhlbjaa
end

section
/- The reference's queue: Push. -/
set_option linter.unusedSimpArgs false
set_option linter.unusedVariables false
namespace Go.Ofp
open Go.RowKit
section
variable {P : Program} {w w0 : World} {F : List Nat} {L : List Ch} {ops : Array Oper} {rest : List Oper} {o : Oper} {a : Act} {Q : Exit → Act → World → Prop} {K : Act → World → Prop}
end
end Go.Ofp
namespace Go.Proofs.Ytplgpbbghhlbjaa
open Go.RowKit Go.Ofp
set_option linter.unusedVariables false
set_option maxRecDepth 100000
set_option maxHeartbeats 4000000

end Go.Proofs.Ytplgpbbghhlbjaa
end
