/- Texts laid together: MapI MapK TransMath. -/
import Derived.Maps.OwnSet
import Derived.Lib.SlKeysI
import Derived.Test.YtneolmnpebiifaaGreatDoorM13
import Derived.Test.YtneolmnpebiifaaGreatDoorM3
section
/- Maps of the call's own, keyed by whole numbers: what such a map holds is told as a function. -/
set_option linter.unusedSimpArgs false
set_option linter.unusedVariables false
namespace Go.Ofp
open Go.RowKit Go.Maps

/-- Elements read as themselves. -/
def tokR (v : Value) : Option (DataW Value × List MemPlace) := some (.held v, [])

/-- Block b is a map of at most n entries, keyed by whole numbers, that holds f. -/
def IMap (P : Program) (k : TypeId) (w : World) (b n : Nat) (f : Int → Option Value) : Prop :=
  ∃ D, w.ownsMap P k tokR b n D ∧ ∀ i, (Lit.int .i64 i).wf = true → Maps.has D (.int .i64 i) = (f i).isSome ∧ ∀ v, f i = some v → ∀ z, D.atKey (.int .i64 i) z = .held v

def putM (f : Int → Option Value) (k : Int) (v : Value) : Int → Option Value := fun i => if i = k then some v else f i
def delM (f : Int → Option Value) (k : Int) : Int → Option Value := fun i => if i = k then none else f i
def noM : Int → Option Value := fun _ => none

theorem IMap.lt {P : Program} {k : TypeId} {w : World} {b n : Nat} {f : Int → Option Value} (h : IMap P k w b n f) : b < w.heap.size := by
  obtain ⟨D, h, -⟩ := h
  exact h.lt
theorem IMap.keep {P : Program} {k : TypeId} {w w' : World} {b n : Nat} {f : Int → Option Value} (h : IMap P k w b n f) (hk : w'.heap[b]? = w.heap[b]?) : IMap P k w' b n f := by
  obtain ⟨D, ⟨es, clock, hb, r⟩, hf⟩ := h
  exact ⟨D, ⟨es, clock, hk.trans hb, r⟩, hf⟩
theorem IMap.mono {P : Program} {k : TypeId} {w : World} {b n m : Nat} {f : Int → Option Value} (h : IMap P k w b n f) (hm : n ≤ m) : IMap P k w b m f := by
  obtain ⟨D, h, hf⟩ := h
  exact ⟨D, h.mono hm, hf⟩

/-- A map of the call's own. -/
def Ch.map (P : Program) (k : TypeId) (b n : Nat) (f : Int → Option Value) : Ch where
  foot := [b]
  holds w := IMap P k w b n f
  lt h x hx := by simp at hx; subst hx; exact h.lt
  keep h k := h.keep (k b (by simp))

section
variable {P : Program} {k : TypeId} {w : World} {b n : Nat} {f : Int → Option Value}

theorem isK (i : Int) : WideAt.IsKeyLit (.int .i64 i) := trivial

theorem IMap.made (w : World) (P : Program) (k : TypeId) : IMap P k (w.alloc (.map #[] 0)) w.heap.size 0 noM :=
  ⟨_, World.ownsMap_made w P k tokR, fun i _ => ⟨rfl, fun v hv => by cases hv⟩⟩

theorem IMap.look_ok {t e : TypeId} (h : IMap P k w b n f) (hk : P.underlying k = some (.int .i64)) (ht : P.underlying t = some (.map k e)) {z : Value} (hz : (zeroValue e).run P w = .ok z w) {i : Int} (hi : (Lit.int .i64 i).wf = true) :
    (Instr.lookup t (.map (some b)) (.int .i64 i) true).run P w = .ok (.tuple #[(f i).getD z, .bool (f i).isSome]) w := by
  obtain ⟨D, ⟨es, clock, hb, F, hs, rfl⟩, hf⟩ := h
  obtain ⟨h1, h2⟩ := hf i hi
  rcases Maps.fit_look true (int_keyed hk) ht hz hb F (keyOf_int_mk hk hi) with ⟨hrun, _, hat⟩ | ⟨e0, y, _, _, hrun, hRv, hat, _⟩
  · rw [hrun]
    rw [Maps.has_false_of_atKey hat] at h1
    cases hfi : f i with
    | none => rfl
    | some v => rw [hfi] at h1; cases h1
  · rw [hrun]
    rw [Maps.has_true_of_atKey hat] at h1
    cases hfi : f i with
    | none => rw [hfi] at h1; cases h1
    | some v =>
      have e1 := (h2 v hfi .nil).symm.trans (hat .nil)
      cases hRv
      cases e1
      rfl

theorem IMap.look {t e : TypeId} (h : IMap P k w b n f) (hk : P.underlying k = some (.int .i64)) (ht : P.underlying t = some (.map k e)) {z : Value} (hz : (zeroValue e).run P w = .ok z w) {i : Int} (hi : (Lit.int .i64 i).wf = true) :
    (Instr.lookup t (.map (some b)) (.int .i64 i) false).run P w = .ok ((f i).getD z) w := by
  obtain ⟨D, ⟨es, clock, hb, F, hs, rfl⟩, hf⟩ := h
  obtain ⟨h1, h2⟩ := hf i hi
  rcases Maps.fit_look false (int_keyed hk) ht hz hb F (keyOf_int_mk hk hi) with ⟨hrun, _, hat⟩ | ⟨e0, y, _, _, hrun, hRv, hat, _⟩
  · rw [hrun]
    rw [Maps.has_false_of_atKey hat] at h1
    cases hfi : f i with
    | none => rfl
    | some v => rw [hfi] at h1; cases h1
  · rw [hrun]
    rw [Maps.has_true_of_atKey hat] at h1
    cases hfi : f i with
    | none => rw [hfi] at h1; cases h1
    | some v =>
      have e1 := (h2 v hfi .nil).symm.trans (hat .nil)
      cases hRv
      cases e1
      rfl

theorem IMap.store {t e : TypeId} (h : IMap P k w b n f) (hk : P.underlying k = some (.int .i64)) (ht : P.underlying t = some (.map k e)) (hn : n < maxLen) {i : Int} (hi : (Lit.int .i64 i).wf = true) (v : Value) :
    ∃ w', (Instr.mapUpdate t (.map (some b)) (.int .i64 i) v).run P w = .ok () w' ∧ IMap P k w' b (n + 1) (putM f i v) ∧ w.grownBy w' (some b) := by
  obtain ⟨D, hown, hf⟩ := h
  obtain ⟨w', h1, h2, h3⟩ := hown.update (int_keyed hk) ht hn (keyOf_int_mk hk hi) (val := v) (d := .held v) (ps := []) rfl
  refine ⟨w', h1, ⟨_, h2, fun j hj => ?_⟩, h3⟩
  by_cases e : j = i
  · subst e
    refine ⟨by rw [Maps.has_put_same hown.isMap (isK _)]; simp [putM], fun u hu z => ?_⟩
    rw [Maps.atKey_put_same hown.isMap (isK _)]
    simp [putM] at hu
    rw [hu]
  · have hne : (Lit.int .i64 j) ≠ Lit.int .i64 i := fun h => e (by cases h; rfl)
    refine ⟨by rw [Maps.has_put_other hne, (hf j hj).1]; simp [putM, e], fun u hu z => ?_⟩
    rw [Maps.atKey_put_other hne]
    exact (hf j hj).2 u (by simpa [putM, e] using hu) z

theorem IMap.drop {t e : TypeId} (h : IMap P k w b n f) (hk : P.underlying k = some (.int .i64)) (ht : P.underlying t = some (.map k e)) {i : Int} (hi : (Lit.int .i64 i).wf = true) (ty : TypeId) :
    ∃ w', (Builtin.delete_ #[t, k] ty #[.map (some b), .int .i64 i]).run P w = .ok (.tuple #[]) w' ∧ IMap P k w' b n (delM f i) ∧ w.grownBy w' (some b) := by
  obtain ⟨D, hown, hf⟩ := h
  obtain ⟨w', h1, h2, h3⟩ := hown.drop (int_keyed hk) ht (keyOf_int_mk hk hi) ty
  refine ⟨w', h1, ⟨_, h2, fun j hj => ?_⟩, h3.grown⟩
  by_cases e : j = i
  · subst e
    exact ⟨by rw [Maps.has_del_same]; simp [delM], fun u hu z => by simp [delM] at hu⟩
  · have hne : (Lit.int .i64 j) ≠ Lit.int .i64 i := fun h => e (by cases h; rfl)
    refine ⟨by rw [Maps.has_del_other hne, (hf j hj).1]; simp [delM, e], fun u hu z => ?_⟩
    rw [Maps.atKey_del_other hne]
    exact (hf j hj).2 u (by simpa [delM, e] using hu) z

end

namespace St
variable {P : Program} {k : TypeId} {w0 w w1 : World} {F : List Nat} {L : List Ch} {b n : Nat} {f : Int → Option Value}
theorem makeMap (h : St w0 F L w) (P : Program) (k : TypeId) : St w0 F (Ch.map P k w.heap.size 0 noM :: L) (w.alloc (.map #[] 0)) :=
  h.push (Fr.alloc _ _) (IMap.made w P k) (by simp [Ch.map])
end St

section
variable {P : Program} {w0 w : World} {F : List Nat} {L : List Ch} {ops : Array Oper} {rest : List Oper} {o : Oper} {a : Act} {Q : Exit → Act → World → Prop} {k : TypeId} {b n : Nat} {f : Int → Option Value}

/-- A new map. -/
theorem wpList_makemap_st (hS : St w0 F L w) (hgd : o.guard = none) {t e : TypeId} (ho : o.op = .makeMap t none) (ht : P.underlying t = some (.map k e))
    (h : ∀ g w', St w0 F (Ch.map P k g 0 noM :: L) w' → wpList P ops Q rest (a.put o.dst (.map (some g))) w') : wpList P ops Q (o :: rest) a w := by
  refine wpList_plain hgd fun K hK => ?_
  have hr := @run_makeMap P t w
  unfold Oper.wp execOp
  simp only [ho, Sem.run_bind, hr, Result.andThen_ok, Sem.run_pure]
  exact hK _ _ (h _ _ (hS.makeMap P k))

/-- delete(m, i). -/
theorem wpList_mapdel_st (i : Nat) (hS : St w0 F L w) (hi : L[i]? = some (Ch.map P k b n f)) (hgd : o.guard = none) {t e : TypeId} {x y : Operand} (ho : o.op = .call { callee := .builtin .delete, args := #[x, y], argTypes := #[t, k] }) (hx : a.eval x = .map (some b)) {j : Int} (hy : a.eval y = .int .i64 j)
    (hk : P.underlying k = some (.int .i64)) (ht : P.underlying t = some (.map k e)) (hj : (Lit.int .i64 j).wf = true)
    (h : ∀ w', St w0 F (L.set i (Ch.map P k b n (delM f j))) w' → wpList P ops Q rest (a.put o.dst (.tuple #[])) w') : wpList P ops Q (o :: rest) a w := by
  refine wpList_plain hgd fun K hK => ?_
  obtain ⟨w', hr, h2, h3⟩ := (hS.get i hi).drop (P := P) hk ht hj o.type
  unfold Oper.wp execOp
  simp only [ho, resolve, invoke, builtin, hx, hy, List.map_toArray, List.map_cons, List.map_nil, Sem.run_bind, Sem.run_pure, hr, Result.andThen_ok]
  exact hK _ _ (h w' (hS.upd i hi (Fr.of_grown h3) (by simp [Ch.map]) h2 (by simp [Ch.map])))
end

section
variable {P : Program} {w0 w : World} {F : List Nat} {L : List Ch} {ops : Array Oper} {o : Oper} {a : Act} {Q : Exit → Act → World → Prop} {K : Act → World → Prop} {k : TypeId} {b n : Nat} {f : Int → Option Value}
/-- m[i] = v, at an operation of a drawn region. -/
theorem op_mapput_st (hw : Region.wanted o (yielded ops a.tmps) = true) (i : Nat) (hS : St w0 F L w) (hi : L[i]? = some (Ch.map P k b n f)) {t e : TypeId} {x y v : Operand} (ho : o.op = .mapUpdate t x y v) (hx : a.eval x = .map (some b)) {j : Int} (hy : a.eval y = .int .i64 j) {u : Value} (hv : a.eval v = u)
    (hk : P.underlying k = some (.int .i64)) (ht : P.underlying t = some (.map k e)) (hn : n < maxLen) (hj : (Lit.int .i64 j).wf = true)
    (h : ∀ w', St w0 F (L.set i (Ch.map P k b (n + 1) (putM f j u))) w' → K (a.put o.dst undef) w') : if Region.wanted o (yielded ops a.tmps) = true then Oper.wp P o a w K Q else K (a.put o.dst undef) w := by
  rw [if_pos hw]
  obtain ⟨w', hr, h2, h3⟩ := (hS.get i hi).store (P := P) hk ht hn hj u
  unfold Oper.wp execOp
  simp only [ho, hx, hy, hv, Sem.run_bind, hr, Result.andThen_ok, Sem.run_pure]
  exact h w' (hS.upd i hi (Fr.of_grown h3) (by simp [Ch.map]) h2 (by simp [Ch.map]))
end
theorem wf_of_i64 {z : Int} (h : -9223372036854775808 ≤ z ∧ z ≤ 9223372036854775807) : (Lit.int .i64 z).wf = true := by
  simpa [Lit.wf, IntKind.min, IntKind.max, IntKind.bits, IntKind.signed] using h
end Go.Ofp
end

section
/- The keys of a map of whole numbers, sorted. -/
set_option linter.unusedSimpArgs false
set_option linter.unusedVariables false
namespace Go.Ofp
open Go.RowKit Go.Maps

/-- The keys of f, rising. -/
def IsKeys (f : Int → Option Value) (ks : List Int) : Prop := ks.Pairwise (· < ·) ∧ ∀ x, x ∈ ks ↔ ((Lit.int .i64 x).wf = true ∧ (f x).isSome = true)

theorem rising_unique : ∀ {a b : List Int}, a.Pairwise (· < ·) → b.Pairwise (· < ·) → (∀ x, x ∈ a ↔ x ∈ b) → a = b
  | [], [], _, _, _ => rfl
  | [], y :: b, _, _, h => absurd ((h y).2 (by simp)) (by simp)
  | x :: a, [], _, _, h => absurd ((h x).1 (by simp)) (by simp)
  | x :: a, y :: b, h1, h2, h => by
    obtain ⟨p1, p2⟩ := List.pairwise_cons.1 h1
    obtain ⟨q1, q2⟩ := List.pairwise_cons.1 h2
    have e : x = y := by
      rcases List.mem_cons.1 ((h x).1 (by simp)) with e | hx
      · exact e
      · rcases List.mem_cons.1 ((h y).2 (by simp)) with e | hy
        · exact e.symm
        · have := q1 x hx
          have := p1 y hy
          omega
    subst e
    congr 1
    refine rising_unique p2 q2 fun z => ⟨fun hz => ?_, fun hz => ?_⟩
    · rcases List.mem_cons.1 ((h z).1 (by simp [hz])) with e | k
      · have := p1 z hz; omega
      · exact k
    · rcases List.mem_cons.1 ((h z).2 (by simp [hz])) with e | k
      · have := q1 z hz; omega
      · exact k

theorem IMap.keys {P : Program} {k : TypeId} {w : World} {b n : Nat} {f : Int → Option Value} (h : IMap P k w b n f) (hk : P.underlying k = some (.int .i64)) :
    ∃ D : DataW Value, w.ownsMap P k tokR b n D ∧ Maps.size D ≤ n ∧ ∀ ss : List Int, ss.Perm (intKeys D) → IsKeys f (ss.mergeSort fun x y => decide (x ≤ y)) ∧ ss.length ≤ n := by
  obtain ⟨D, hown, hf⟩ := h
  refine ⟨D, hown, hown.size_le, fun ss hp => ?_⟩
  obtain ⟨es, rfl, hpw, -⟩ := hown.entries (int_keyed hk)
  obtain ⟨es', hD', hko⟩ := hown.keysOf
  obtain rfl : es = es' := by simpa using hD'
  have hi : ∀ p ∈ es, ∃ x, p.1 = .int .i64 x ∧ (Lit.int .i64 x).wf = true := fun p hp => by
    obtain ⟨v, hv⟩ := hko p hp
    obtain ⟨x, _, hx, hw⟩ := Maps.keyOf_i64 hk hv
    exact ⟨x, hx, hw⟩
  have hnd : (intKeys (.map es)).Nodup := by
    show (es.map fun p => intOf p.1).Nodup
    refine List.pairwise_map.2 (hpw.imp_of_mem fun {p q} hp' hq' hne e => hne ?_)
    obtain ⟨x, hx, -⟩ := hi p hp'
    obtain ⟨y, hy, -⟩ := hi q hq'
    rw [hx, hy] at e ⊢
    exact congrArg _ e
  have hsz := hown.size_le
  refine ⟨⟨?_, fun x => ?_⟩, by rw [hp.length_eq]; simpa [intKeys, Maps.size] using hsz⟩
  · have tr : ∀ a b c : Int, decide (a ≤ b) = true → decide (b ≤ c) = true → decide (a ≤ c) = true := fun a b c h1 h2 => by simp only [decide_eq_true_eq] at *; exact Int.le_trans h1 h2
    have tot : ∀ a b : Int, (decide (a ≤ b) || decide (b ≤ a)) = true := fun a b => by simp only [Bool.or_eq_true, decide_eq_true_eq]; exact Int.le_total a b
    have h1 := List.pairwise_mergeSort tr tot ss
    have h2 : (ss.mergeSort fun x y => decide (x ≤ y)).Nodup := (List.mergeSort_perm ss _).nodup_iff.2 (hp.nodup_iff.2 hnd)
    refine (h1.and h2).imp fun {a b} ⟨h3, h4⟩ => ?_
    simp only [decide_eq_true_eq] at h3
    omega
  · rw [(List.mergeSort_perm ss _).mem_iff, hp.mem_iff]
    show x ∈ es.map (fun p => intOf p.1) ↔ _
    rw [List.mem_map]
    constructor
    · rintro ⟨p, hp', rfl⟩
      obtain ⟨a, ha, hw⟩ := hi p hp'
      rw [ha]
      refine ⟨hw, ?_⟩
      show (f a).isSome = true
      rw [← (hf a hw).1, has_eq, List.any_eq_true]
      exact ⟨p, hp', by rw [ha]; simp [Lit.sameKey]⟩
    · rintro ⟨hw, hs⟩
      rw [← (hf x hw).1, has_eq, List.any_eq_true] at hs
      obtain ⟨p, hp', hk'⟩ := hs
      obtain ⟨a, ha, -⟩ := hi p hp'
      rw [ha] at hk'
      exact ⟨p, hp', by rw [ha]; simpa [Lit.sameKey, intOf] using hk'⟩

end Go.Ofp
end

section
/- Turns and items: plain law. -/
set_option linter.unusedSimpArgs false
set_option linter.unusedVariables false
namespace Go.Ofp

/-- What a card must be (the same as in CardPatch). -/
def Cd.fine (ok : Cd → Bool) (c : Cd) (id ver : Int) : Bool := ok c && decide (c.id = id ∧ c.ver = ver)

/-- A turn. -/
structure Tn where
  seq : Int
  id : Int
  old : Int
  new : Int
  c : Cd
deriving DecidableEq
/-- An item. -/
structure It where
  kind : Int
  c : Cd
deriving DecidableEq

section
variable (ok : Cd → Bool)
/-- May a turn be? -/
def Tn.may (t : Tn) : Bool :=
  decide (1 ≤ t.seq ∧ t.seq ≤ 1099511627776 ∧ 1 ≤ t.id ∧ t.id < 1073741824 ∧ 0 ≤ t.old ∧ t.old ≤ 1099511627776 ∧ 0 ≤ t.new ∧ t.new ≤ 1099511627776 ∧ t.old ≠ t.new) &&
  (if t.new = 0 then decide (t.c = Cd.none 0) else Cd.fine ok t.c t.id t.new)
end

/-- The last, the first turn of a card. -/
def lastOf (l : List Tn) (id : Int) : Option Tn := l.reverse.find? fun t => decide (t.id = id)
def firstOf (l : List Tn) (id : Int) : Option Tn := l.find? fun t => decide (t.id = id)
theorem lastOf_snoc (l : List Tn) (t : Tn) (id : Int) : lastOf (l ++ [t]) id = if t.id = id then some t else lastOf l id := by
  unfold lastOf
  rw [List.reverse_append]
  simp only [List.reverse_cons, List.reverse_nil, List.nil_append, List.cons_append, List.find?_cons]
  by_cases h : t.id = id <;> simp [h]
theorem lastOf_mem {l : List Tn} {id : Int} {t : Tn} (h : lastOf l id = some t) : t ∈ l ∧ t.id = id := by
  unfold lastOf at h
  have h1 := List.mem_of_find?_eq_some h
  have h2 := List.find?_some h
  exact ⟨by simpa using h1, by simpa using h2⟩
theorem lastOf_none {l : List Tn} {id : Int} : lastOf l id = none ↔ ∀ t ∈ l, t.id ≠ id := by
  unfold lastOf
  simp
theorem firstOf_none {l : List Tn} {id : Int} : firstOf l id = none ↔ ∀ t ∈ l, t.id ≠ id := by
  unfold firstOf
  simp

/-- The step of the last of turns. -/
def seqOf (l : List Tn) : Int := (l.getLast?.map Tn.seq).getD 0
theorem seqOf_snoc (l : List Tn) (t : Tn) : seqOf (l ++ [t]) = t.seq := by simp [seqOf]

section
variable (ok : Cd → Bool)
/-- May a turn go on behind others? -/
def nextOk (p : List Tn) (t : Tn) : Bool := t.may ok && decide (seqOf p < t.seq) && decide ((lastOf p t.id).all fun u => decide (u.new = t.old))
/-- Do turns go on, behind others? -/
def goes : List Tn → List Tn → Bool
  | _, [] => true
  | p, t :: r => nextOk ok p t && goes (p ++ [t]) r
end

section
variable {ok : Cd → Bool}
theorem goes_split : ∀ (p a b : List Tn), goes ok p (a ++ b) = (goes ok p a && goes ok (p ++ a) b)
  | p, [], b => by simp [goes]
  | p, t :: a, b => by simp [goes, goes_split (p ++ [t]) a b, Bool.and_assoc]
/-- What goes on behind more, goes on behind less. -/
theorem goes_behind : ∀ (q p l : List Tn), seqOf p ≤ seqOf q ∨ p = [] → (∀ id u, lastOf p id = some u → lastOf q id = some u) → goes ok q l = true → (p = [] → 0 ≤ seqOf q) → goes ok p l = true
  | _, _, [], _, _, _, _ => rfl
  | q, p, t :: r, hs, hl, h, h0 => by
    simp only [goes, Bool.and_eq_true] at h ⊢
    obtain ⟨h1, h2⟩ := h
    simp only [nextOk, Bool.and_eq_true, decide_eq_true_eq] at h1 ⊢
    obtain ⟨⟨m1, m2⟩, m3⟩ := h1
    refine ⟨⟨⟨m1, ?_⟩, ?_⟩, goes_behind (q ++ [t]) (p ++ [t]) r (.inl (by rw [seqOf_snoc, seqOf_snoc]; exact Int.le_refl _)) (fun id u hu => ?_) h2 (by simp)⟩
    · rcases hs with hs | rfl
      · omega
      · have := h0 rfl
        simp [seqOf]
        omega
    · cases hp : lastOf p t.id with
      | none => rfl
      | some u => rw [hl _ _ hp] at m3; exact m3
    · rw [lastOf_snoc] at hu ⊢
      split
      · rename_i e; rw [if_pos e] at hu; exact hu
      · rename_i e; rw [if_neg e] at hu; exact hl _ _ hu
end

section
variable {ok : Cd → Bool}
theorem goes_may : ∀ (p l : List Tn), goes ok p l = true → ∀ t ∈ l, t.may ok = true
  | _, [], _ => by simp
  | p, u :: r, h => by
    simp only [goes, nextOk, Bool.and_eq_true] at h
    intro t ht
    rcases List.mem_cons.1 ht with rfl | ht
    · exact h.1.1.1
    · exact goes_may _ _ h.2 t ht
end
end Go.Ofp
end
