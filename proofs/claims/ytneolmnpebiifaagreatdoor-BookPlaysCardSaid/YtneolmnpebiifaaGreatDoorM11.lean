import Derived.Test.YtneolmnpebiifaaGreatDoorM10
set_option linter.unusedVariables false
set_option linter.unusedSimpArgs false
set_option maxRecDepth 100000
section
namespace Go.Ofp
def Cd.fine (ok : Cd → Bool) (c : Cd) (id ver : Int) : Bool := ok c && decide (c.id = id ∧ c.ver = ver)
structure Tn where
 seq : Int
 id : Int
 old : Int
 new : Int
 c : Cd
deriving DecidableEq
structure It where
 kind : Int
 c : Cd
deriving DecidableEq
section
variable (ok : Cd → Bool)
def Tn.may (t : Tn) : Bool :=
 decide (1 ≤ t.seq ∧ t.seq ≤ 1099511627776 ∧ 1 ≤ t.id ∧ t.id < 1073741824 ∧ 0 ≤ t.old ∧ t.old ≤ 1099511627776 ∧ 0 ≤ t.new ∧ t.new ≤ 1099511627776 ∧ t.old ≠ t.new) &&
 (if t.new = 0 then decide (t.c = Cd.none 0) else Cd.fine ok t.c t.id t.new)
end
def lastOf (l : List Tn) (id : Int) : Option Tn := l.reverse.find? fun t => decide (t.id = id)
def firstOf (l : List Tn) (id : Int) : Option Tn := l.find? fun t => decide (t.id = id)
theorem lastOf_snoc (l : List Tn) (t : Tn) (id : Int) : lastOf (l ++ [t]) id = if t.id = id then some t else lastOf l id := by
 unfold lastOf
 rw [List.reverse_append]
 simp only [List.reverse_cons, List.reverse_nil, List.nil_append, List.cons_append, List.find?_cons]
 by_cases h : t.id = id <;> simp [h]
theorem lastOf_mem {l : List Tn} {id : Int} {t : Tn} (h : lastOf l id = some t) : t ∈ l ∧ t.id = id := by
 unfold lastOf at h
 have h1 := List.mem_of_find?_eq_some h
 have h2 := List.find?_some h
 exact ⟨by simpa using h1, by simpa using h2⟩
theorem lastOf_none {l : List Tn} {id : Int} : lastOf l id = none ↔ ∀ t ∈ l, t.id ≠ id := by
 unfold lastOf
 simp
theorem firstOf_none {l : List Tn} {id : Int} : firstOf l id = none ↔ ∀ t ∈ l, t.id ≠ id := by
 unfold firstOf
 simp
def seqOf (l : List Tn) : Int := (l.getLast?.map Tn.seq).getD 0
theorem seqOf_snoc (l : List Tn) (t : Tn) : seqOf (l ++ [t]) = t.seq := by simp [seqOf]
section
variable (ok : Cd → Bool)
def nextOk (p : List Tn) (t : Tn) : Bool := t.may ok && decide (seqOf p < t.seq) && decide ((lastOf p t.id).all fun u => decide (u.new = t.old))
def goes : List Tn → List Tn → Bool
 | _, [] => true
 | p, t :: r => nextOk ok p t && goes (p ++ [t]) r
end
section
variable {ok : Cd → Bool}
theorem goes_split : ∀ (p a b : List Tn), goes ok p (a ++ b) = (goes ok p a && goes ok (p ++ a) b)
 | p, [], b => by simp [goes]
 | p, t :: a, b => by simp [goes, goes_split (p ++ [t]) a b, Bool.and_assoc]
theorem goes_behind : ∀ (q p l : List Tn), seqOf p ≤ seqOf q ∨ p = [] → (∀ id u, lastOf p id = some u → lastOf q id = some u) → goes ok q l = true → (p = [] → 0 ≤ seqOf q) → goes ok p l = true
 | _, _, [], _, _, _, _ => rfl
 | q, p, t :: r, hs, hl, h, h0 => by
  simp only [goes, Bool.and_eq_true] at h ⊢
  obtain ⟨h1, h2⟩ := h
  simp only [nextOk, Bool.and_eq_true, decide_eq_true_eq] at h1 ⊢
  obtain ⟨⟨m1, m2⟩, m3⟩ := h1
  refine ⟨⟨⟨m1, ?_⟩, ?_⟩, goes_behind (q ++ [t]) (p ++ [t]) r (.inl (by rw [seqOf_snoc, seqOf_snoc]; exact Int.le_refl _)) (fun id u hu => ?_) h2 (by simp)⟩
  · rcases hs with hs | rfl
    · omega
    · have := h0 rfl
      simp [seqOf]
      omega
  · cases hp : lastOf p t.id with
    | none => rfl
    | some u => rw [hl _ _ hp] at m3; exact m3
  · rw [lastOf_snoc] at hu ⊢
    split
    · rename_i e; rw [if_pos e] at hu; exact hu
    · rename_i e; rw [if_neg e] at hu; exact hl _ _ hu
end
section
variable {ok : Cd → Bool}
theorem goes_may : ∀ (p l : List Tn), goes ok p l = true → ∀ t ∈ l, t.may ok = true
 | _, [], _ => by simp
 | p, u :: r, h => by
  simp only [goes, nextOk, Bool.and_eq_true] at h
  intro t ht
  rcases List.mem_cons.1 ht with rfl | ht
  · exact h.1.1.1
  · exact goes_may _ _ h.2 t ht
end
end Go.Ofp
end
section
namespace Go.Ofp
def RisC (m : List Cd) : Prop := m.Pairwise fun a b => a.id < b.id
def lookC (m : List Cd) (id : Int) : Option Cd := m.find? fun c => decide (c.id = id)
def aheadC : List Cd → Int → Nat
 | [], _ => 0
 | c :: r, id => if c.id < id then aheadC r id + 1 else 0
def thereC (m : List Cd) (id : Int) : Bool := (m[aheadC m id]?).any fun c => decide (c.id = id)
theorem parts : ∀ (m : List Cd) (id : Int), RisC m → (∀ c ∈ m.take (aheadC m id), c.id < id) ∧
 ((thereC m id = true ∧ ∃ c B, m.drop (aheadC m id) = c :: B ∧ c.id = id ∧ ∀ d ∈ B, id < d.id) ∨ (thereC m id = false ∧ ∀ d ∈ m.drop (aheadC m id), id < d.id))
 | [], id, _ => ⟨by simp, .inr ⟨rfl, by simp⟩⟩
 | c :: r, id, h => by
  obtain ⟨h1, h2⟩ := List.pairwise_cons.1 h
  obtain ⟨k1, k2⟩ := parts r id h2
  by_cases hc : c.id < id
  · have e : aheadC (c :: r) id = aheadC r id + 1 := by rw [aheadC]; exact if_pos hc
    have et : thereC (c :: r) id = thereC r id := by unfold thereC; rw [e]; rfl
    rw [e, et]
    refine ⟨fun d hd => ?_, k2⟩
    simp only [List.take_succ_cons, List.mem_cons] at hd
    rcases hd with rfl | hd
    · exact hc
    · exact k1 d hd
  · have e : aheadC (c :: r) id = 0 := by rw [aheadC]; exact if_neg hc
    rw [e]
    refine ⟨by simp, ?_⟩
    by_cases h0 : c.id = id
    · left
      refine ⟨by unfold thereC; rw [e]; simp [h0], c, r, rfl, h0, fun d hd => ?_⟩
      have := h1 d hd
      omega
    · right
      refine ⟨by unfold thereC; rw [e]; simp [h0], fun d hd => ?_⟩
      simp only [List.drop_zero, List.mem_cons] at hd
      rcases hd with rfl | hd
      · omega
      · have := h1 d hd; omega
theorem thereC_iff {m : List Cd} (h : RisC m) (id : Int) : thereC m id = true ↔ ∃ c ∈ m, c.id = id := by
 obtain ⟨h1, h2⟩ := parts m id h
 constructor
 · intro ht
   rcases h2 with ⟨-, c, B, hd, hc, -⟩ | ⟨hf, -⟩
   · exact ⟨c, List.mem_of_mem_drop (i := aheadC m id) (by rw [hd]; simp), hc⟩
   · rw [ht] at hf; cases hf
 · rintro ⟨c, hc, e⟩
   rcases h2 with ⟨ht, -⟩ | ⟨-, hd⟩
   · exact ht
   · rw [← List.take_append_drop (aheadC m id) m] at hc
     rcases List.mem_append.1 hc with hc | hc
     · have := h1 c hc; omega
     · have := hd c hc; omega
theorem lookC_iff : ∀ {m : List Cd}, RisC m → ∀ (id : Int) (c : Cd), lookC m id = some c ↔ c ∈ m ∧ c.id = id
 | [], _, id, c => by simp [lookC]
 | d :: r, h, id, c => by
  obtain ⟨h1, h2⟩ := List.pairwise_cons.1 h
  have ih := lookC_iff h2 id c
  unfold lookC at ih ⊢
  rw [List.find?_cons]
  by_cases e : d.id = id
  · simp only [e, decide_true, Option.some.injEq, List.mem_cons]
    constructor
    · rintro rfl; exact ⟨.inl rfl, e⟩
    · rintro ⟨rfl | hc, e'⟩
      · rfl
      · have := h1 c hc; omega
  · simp only [e, decide_false, List.mem_cons]
    rw [ih]
    constructor
    · rintro ⟨a, b⟩; exact ⟨.inr a, b⟩
    · rintro ⟨rfl | a, b⟩
      · exact absurd b e
      · exact ⟨a, b⟩
/-! ### The map of cards -/
def cdM (row : Cd → List Value) (m : List Cd) : Int → Option Value := fun i => (lookC m i).map fun c => .agg (row c).toArray
section
variable {row : Cd → List Value}
theorem cdM_snoc {m : List Cd} {c : Cd} (h : ∀ d ∈ m, d.id ≠ c.id) : cdM row (m ++ [c]) = putM (cdM row m) c.id (.agg (row c).toArray) := by
 funext i
 unfold cdM putM lookC
 rw [List.find?_append]
 by_cases e : i = c.id
 · subst e
   rw [List.find?_eq_none.2 (fun d hd => by simpa using h d hd)]
   simp
 · rw [if_neg e]
   have : (List.find? (fun d : Cd => decide (d.id = i)) [c]) = none := by simp [Ne.symm e]
   rw [this, Option.or_none]
theorem cdM_some {m : List Cd} (h : RisC m) (i : Int) : (cdM row m i).isSome = thereC m i := by
 rw [Bool.eq_iff_iff, thereC_iff h]
 unfold cdM
 rw [Option.isSome_map]
 constructor
 · intro hs
   obtain ⟨c, hc⟩ := Option.isSome_iff_exists.1 hs
   exact ⟨c, (lookC_iff h i c).1 hc⟩
 · rintro ⟨c, hc⟩
   rw [(lookC_iff h i c).2 hc]
   rfl
theorem cdM_keys {m : List Cd} (h : RisC m) (hw : ∀ c ∈ m, (Lit.int .i64 c.id).wf = true) {ks : List Int} (hk : IsKeys (cdM row m) ks) : ks = m.map Cd.id := by
 refine rising_unique hk.1 (List.pairwise_map.2 h) fun x => ?_
 rw [hk.2, cdM_some h, thereC_iff h, List.mem_map]
 constructor
 · rintro ⟨-, c, hc, e⟩; exact ⟨c, hc, e⟩
 · rintro ⟨c, hc, e⟩; exact ⟨e ▸ hw c hc, c, hc, e⟩
theorem cdM_at {m : List Cd} (h : RisC m) {c : Cd} (hc : c ∈ m) : cdM row m c.id = some (.agg (row c).toArray) := by
 unfold cdM
 rw [(lookC_iff h c.id c).2 ⟨hc, rfl⟩]
 rfl
end
end Go.Ofp
end
section
namespace Go.Ofp
theorem firstOf_append (a b : List Tn) (id : Int) : firstOf (a ++ b) id = (firstOf a id).or (firstOf b id) := by
 unfold firstOf
 rw [List.find?_append]
section
variable {ok : Cd → Bool}
theorem goes_first : ∀ (p l : List Tn), goes ok p l = true → ∀ id t, firstOf l id = some t → ∀ u, lastOf p id = some u → u.new = t.old
 | _, [], _, id, t, h, _, _ => by simp [firstOf] at h
 | p, s :: r, hg, id, t, h, u, hu => by
  simp only [goes, nextOk, Bool.and_eq_true, decide_eq_true_eq] at hg
  obtain ⟨⟨-, h3⟩, hg⟩ := hg
  by_cases e : s.id = id
  · have : firstOf (s :: r) id = some s := by simp [firstOf, e]
    rw [this] at h
    cases h
    rw [e, hu] at h3
    simpa using h3
  · have h' : firstOf r id = some t := by simpa [firstOf, e] using h
    refine goes_first (p ++ [s]) r hg id t h' u ?_
    rw [lastOf_snoc, if_neg e, hu]
theorem goes_seq : ∀ (p l : List Tn), goes ok p l = true → seqOf p ≤ seqOf (p ++ l)
 | p, [], _ => by simp
 | p, t :: r, h => by
  simp only [goes, nextOk, Bool.and_eq_true, decide_eq_true_eq] at h
  have := goes_seq (p ++ [t]) r h.2
  rw [seqOf_snoc] at this
  have e : p ++ [t] ++ r = p ++ t :: r := by simp
  rw [e] at this
  omega
theorem goes_cut {a b : List Tn} (h : goes ok [] (a ++ b) = true) : goes ok [] a = true ∧ goes ok a b = true ∧ goes ok [] b = true := by
 rw [goes_split, Bool.and_eq_true, List.nil_append] at h
 refine ⟨h.1, h.2, ?_⟩
 refine goes_behind a [] b (.inr rfl) (fun id u hu => by simp [lastOf] at hu) h.2 fun _ => ?_
 have := goes_seq [] a h.1
 rw [List.nil_append] at this
 have e : seqOf [] = 0 := rfl
 omega
theorem may_new {t : Tn} (h : t.may ok = true) : (t.new = 0 ∧ t.c = Cd.none 0) ∨ (1 ≤ t.new ∧ ok t.c = true ∧ t.c.id = t.id ∧ t.c.ver = t.new) := by
 unfold Tn.may at h
 simp only [Bool.and_eq_true, decide_eq_true_eq] at h
 obtain ⟨h1, h2⟩ := h
 by_cases e : t.new = 0
 · rw [if_pos e] at h2
   exact .inl ⟨e, by simpa using h2⟩
 · rw [if_neg e] at h2
   simp only [Cd.fine, Bool.and_eq_true, decide_eq_true_eq] at h2
   exact .inr ⟨by omega, h2.1, h2.2.1, h2.2.2⟩
end
def verAt (m : List Cd) (id : Int) : Int := ((lookC m id).map Cd.ver).getD 0
structure FitS (m : List Cd) (l : List Tn) : Prop where
 a : ∀ t ∈ l, ∀ c ∈ m, c.id = t.id → c.ver = t.new → c = t.c
 b : ∀ t ∈ l, ∀ u ∈ l, t.id = u.id → t.new = u.new → t.c = u.c
 c : ∀ id t, firstOf l id = some t → verAt m id = t.old
 d : ∀ c ∈ m, 1 ≤ c.ver
theorem verAt_zero {m : List Cd} (h : RisC m) (hd : ∀ c ∈ m, 1 ≤ c.ver) (id : Int) : verAt m id = 0 ↔ ¬ ∃ c ∈ m, c.id = id := by
 unfold verAt
 cases hl : lookC m id with
 | none =>
  simp only [Option.map_none, Option.getD_none, true_iff]
  rintro ⟨c, hc, e⟩
  rw [(lookC_iff h id c).2 ⟨hc, e⟩] at hl
  cases hl
 | some c =>
  obtain ⟨h1, h2⟩ := (lookC_iff h id c).1 hl
  have := hd c h1
  simp only [Option.map_some, Option.getD_some]
  constructor
  · intro; omega
  · intro hn; exact absurd ⟨c, h1, h2⟩ hn
theorem verAt_mem {m : List Cd} (h : RisC m) {c : Cd} (hc : c ∈ m) : verAt m c.id = c.ver := by
 unfold verAt
 rw [(lookC_iff h c.id c).2 ⟨hc, rfl⟩]
 rfl
section
variable {ok : Cd → Bool}
theorem FitS.left {m : List Cd} {l1 l2 : List Tn} (hf : FitS m (l1 ++ l2)) : FitS m l1 :=
 ⟨fun t ht => hf.a t (List.mem_append_left _ ht), fun t ht u hu => hf.b t (List.mem_append_left _ ht) u (List.mem_append_left _ hu), fun id t h => hf.c id t (by rw [firstOf_append, h]; rfl), hf.d⟩
theorem FitS.right {m m1 : List Cd} {l1 l2 : List Tn} (hm : RisC m) (hf : FitS m (l1 ++ l2)) (hg : goes ok [] (l1 ++ l2) = true) (hm1 : RisC m1)
 (h1 : ∀ c, c ∈ m1 ↔ (c ∈ m ∧ lastOf l1 c.id = none) ∨ ∃ t, lastOf l1 c.id = some t ∧ t.new ≠ 0 ∧ c = t.c) : FitS m1 l2 := by
 have hmay := goes_may _ _ hg
 obtain ⟨-, g2, -⟩ := goes_cut hg
 have hd : ∀ c ∈ m1, 1 ≤ c.ver := by
  intro c hc
  rcases (h1 c).1 hc with ⟨hc, -⟩ | ⟨t, ht, hn, rfl⟩
  · exact hf.d c hc
  · obtain ⟨t1, t2⟩ := lastOf_mem ht
    rcases may_new (hmay t (List.mem_append_left _ t1)) with ⟨h, -⟩ | ⟨h, -, -, h4⟩
    · exact absurd h hn
    · omega
 refine ⟨fun t ht c hc e1 e2 => ?_, fun t ht u hu => hf.b t (List.mem_append_right _ ht) u (List.mem_append_right _ hu), fun id t ht => ?_, hd⟩
 · rcases (h1 c).1 hc with ⟨hc, -⟩ | ⟨u, hu, hn, rfl⟩
   · exact hf.a t (List.mem_append_right _ ht) c hc e1 e2
   · obtain ⟨u1, u2⟩ := lastOf_mem hu
     rcases may_new (hmay u (List.mem_append_left _ u1)) with ⟨h, -⟩ | ⟨h, -, -, h4⟩
     · exact absurd h hn
     · exact hf.b u (List.mem_append_left _ u1) t (List.mem_append_right _ ht) (by omega) (by omega)
 · cases hl : lastOf l1 id with
   | some u =>
    have hu := goes_first l1 l2 g2 id t ht u hl
    obtain ⟨u1, u2⟩ := lastOf_mem hl
    by_cases h0 : u.new = 0
    · rw [(verAt_zero hm1 hd id).2]
      · omega
      · rintro ⟨c, hc, e⟩
        rcases (h1 c).1 hc with ⟨-, h⟩ | ⟨v, hv, hn, -⟩
        · rw [e, hl] at h; cases h
        · rw [e, hl] at hv; cases hv; exact hn h0
    · rcases may_new (hmay u (List.mem_append_left _ u1)) with ⟨h, -⟩ | ⟨h, -, h3, h4⟩
      · exact absurd h h0
      · have hc : u.c ∈ m1 := (h1 u.c).2 (.inr ⟨u, by rw [h3, u2]; exact hl, h0, rfl⟩)
        have := verAt_mem hm1 hc
        rw [h3, u2] at this
        omega
   | none =>
    have hft : firstOf (l1 ++ l2) id = some t := by
     have : firstOf l1 id = none := firstOf_none.2 (lastOf_none.1 hl)
     rw [firstOf_append, this]
     exact ht
    rw [← hf.c id t hft]
    have : lookC m1 id = lookC m id := by
     apply Option.ext
     intro c
     rw [lookC_iff hm1, lookC_iff hm, h1]
     constructor
     · rintro ⟨⟨h, -⟩ | ⟨v, hv, -, -⟩, e⟩
       · exact ⟨h, e⟩
       · rw [e, hl] at hv; cases hv
     · rintro ⟨h, e⟩; exact ⟨.inl ⟨h, by rw [e]; exact hl⟩, e⟩
    unfold verAt
    rw [this]
end
end Go.Ofp
end
section
namespace Go.Ofp
open Go.RowKit
structure Lst {α : Type} (row : α → List Value) (In : α → Prop) (w : World) (a : Option Addr) (n c : Nat) (l : List α) : Prop where
 sl : Sl w a (l.map row).flatten
 len : l.length = n
 le : n ≤ c
 cm : c ≤ maxLen
 mem : ∀ x ∈ l, In x
theorem lst_of {α : Type} {row : α → List Value} {In : α → Prop} {rows : List (List Value)} (h : ∀ cs ∈ rows, ∃ x : α, cs = row x ∧ In x) : ∃ l : List α, rows = l.map row ∧ ∀ x ∈ l, In x := by
 induction rows with
 | nil => exact ⟨[], rfl, by simp⟩
 | cons c cs ih =>
  obtain ⟨p, rfl, hp⟩ := h c (by simp)
  obtain ⟨ps, rfl, hps⟩ := ih (fun x hx => h x (by simp [hx]))
  refine ⟨p :: ps, rfl, ?_⟩
  intro q hq
  rcases List.mem_cons.1 hq with rfl | hq
  · exact hp
  · exact hps q hq
abbrev I64 (z : Int) : Prop := -9223372036854775808 ≤ z ∧ z ≤ 9223372036854775807
structure TnIn (t : Tn) : Prop where
 seq : I64 t.seq
 id : I64 t.id
 old : I64 t.old
 new : I64 t.new
 c : CdIn t.c
structure ItIn (x : It) : Prop where
 kind : I64 x.kind
 c : CdIn x.c
end Go.Ofp
namespace Go.Proofs.YtneolmnpebiifaaGreatDoor
open Go.RowKit Go.Ofp Go.WideShapes
set_option maxHeartbeats 1000000
theorem cdRow_lenT (c : Cd) (h : c.f.length = 8) : (cdRow c).length = 27 := by simp [cdRow, flRow_length, h]
section
variable {H : Type} {enc : TypeId × Value → H}
end
end Go.Proofs.YtneolmnpebiifaaGreatDoor
end
section
namespace Go.Ofp
open Go.RowKit
theorem St.one {w0 w : World} {F : List Nat} {L : List Ch} {c : Ch} (h : St w0 F L w) (i : Nat) (hi : L[i]? = some c) : St w0 F [c] w := by
 refine h.pick (fun _ => i) ?_ ?_
 · intro q d hd
   match q with
   | 0 => simp at hd; subst hd; exact hi
   | q + 1 => simp at hd
 · intro p q hp hq hpq
   simp at hp hq
   omega
theorem mixs_beginC {P : Program} {Q : Exit → Act → World → Prop} {a : Act} {w w0 : World} {F : List Nat} {L : List Ch} {c : Ch} (i : Nat) {id : Nat} {l : List Oper} (hm : P.follows .mixedOrders = true) (hS : St w0 F L w) (hi : L[i]? = some c)
 (h : ∀ w', St w0 F L w' → St w0 F [c] w' → wpAnyH P .any l.toArray Q (fun w' => St w0 F [c] w') l.length (Array.replicate l.length false) a w') : (Code.region id l.toArray true).wp P Q a w := by
 refine wp_region_held (S := fun w' => St w0 F [c] w') hm ?_
 simpa using h w.drew hS.drew (hS.drew.one i hi)
section
variable {P : Program} {w : World}
variable {w0 : World} {F : List Nat} {L : List Ch} {ops : Array Oper} {rest : List Oper} {o : Oper} {a : Act} {Q : Exit → Act → World → Prop} {K : Act → World → Prop}
def Ch.read (g : Nat) (xs : List Value) : Ch where
 foot := [g]
 holds w := g < w.heap.size ∧ Sl w (some ⟨g, 0, none⟩) xs
 lt h x hx := by simp at hx; subst hx; exact h.1
 keep {w w'} h k := by
  have kg := k g (by simp)
  refine ⟨?_, fun i hi => ?_⟩
  · have h1 := Array.getElem?_eq_getElem h.1
    rw [← kg] at h1
    exact (Array.getElem?_eq_some_iff.1 h1).1
  · obtain ⟨b, off, e, hc⟩ := h.2 i hi
    cases e
    exact ⟨g, 0, rfl, by rw [World.cell?_of_block kg]; exact hc⟩
end
end Go.Ofp
end
