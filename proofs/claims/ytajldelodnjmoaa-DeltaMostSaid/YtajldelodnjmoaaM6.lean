/- Texts laid together: TransMath TransApp TransNet TransOpen St8. -/
import Derived.Test.YtajldelodnjmoaaM3
import Derived.Test.YtajldelodnjmoaaM4
import Derived.Test.YtajldelodnjmoaaM5
section
/- Turns and items: plain law. -/
set_option linter.unusedSimpArgs false
set_option linter.unusedVariables false
namespace Go.Ofp

/-- What a card must be (the same as in CardPatch). -/
def Cd.fine (ok : Cd → Bool) (c : Cd) (id ver : Int) : Bool := ok c && decide (c.id = id ∧ c.ver = ver)

/-- A turn. -/
structure Tn where
  seq : Int
  id : Int
  old : Int
  new : Int
  c : Cd
deriving DecidableEq
/-- An item. -/
structure It where
  kind : Int
  c : Cd
deriving DecidableEq

section
variable (ok : Cd → Bool)
/-- May a turn be? -/
def Tn.may (t : Tn) : Bool :=
  decide (1 ≤ t.seq ∧ t.seq ≤ 1099511627776 ∧ 1 ≤ t.id ∧ t.id < 1073741824 ∧ 0 ≤ t.old ∧ t.old ≤ 1099511627776 ∧ 0 ≤ t.new ∧ t.new ≤ 1099511627776 ∧ t.old ≠ t.new) &&
  (if t.new = 0 then decide (t.c = Cd.none 0) else Cd.fine ok t.c t.id t.new)
end

/-- The last, the first turn of a card. -/
def lastOf (l : List Tn) (id : Int) : Option Tn := l.reverse.find? fun t => decide (t.id = id)
def firstOf (l : List Tn) (id : Int) : Option Tn := l.find? fun t => decide (t.id = id)
theorem lastOf_snoc (l : List Tn) (t : Tn) (id : Int) : lastOf (l ++ [t]) id = if t.id = id then some t else lastOf l id := by
  unfold lastOf
  rw [List.reverse_append]
  simp only [List.reverse_cons, List.reverse_nil, List.nil_append, List.cons_append, List.find?_cons]
  by_cases h : t.id = id <;> simp [h]
theorem firstOf_snoc (l : List Tn) (t : Tn) (id : Int) : firstOf (l ++ [t]) id = (firstOf l id).or (if t.id = id then some t else none) := by
  unfold firstOf
  rw [List.find?_append]
  by_cases h : t.id = id <;> simp [h]
theorem lastOf_mem {l : List Tn} {id : Int} {t : Tn} (h : lastOf l id = some t) : t ∈ l ∧ t.id = id := by
  unfold lastOf at h
  have h1 := List.mem_of_find?_eq_some h
  have h2 := List.find?_some h
  exact ⟨by simpa using h1, by simpa using h2⟩
theorem firstOf_mem {l : List Tn} {id : Int} {t : Tn} (h : firstOf l id = some t) : t ∈ l ∧ t.id = id := by
  unfold firstOf at h
  have h1 := List.mem_of_find?_eq_some h
  have h2 := List.find?_some h
  exact ⟨h1, by simpa using h2⟩
theorem lastOf_none {l : List Tn} {id : Int} : lastOf l id = none ↔ ∀ t ∈ l, t.id ≠ id := by
  unfold lastOf
  simp
theorem firstOf_none {l : List Tn} {id : Int} : firstOf l id = none ↔ ∀ t ∈ l, t.id ≠ id := by
  unfold firstOf
  simp

/-- The step of the last of turns. -/
def seqOf (l : List Tn) : Int := (l.getLast?.map Tn.seq).getD 0
theorem seqOf_snoc (l : List Tn) (t : Tn) : seqOf (l ++ [t]) = t.seq := by simp [seqOf]

section
variable (ok : Cd → Bool)
/-- May a turn go on behind others? -/
def nextOk (p : List Tn) (t : Tn) : Bool := t.may ok && decide (seqOf p < t.seq) && decide ((lastOf p t.id).all fun u => decide (u.new = t.old))
/-- Do turns go on, behind others? -/
def goes : List Tn → List Tn → Bool
  | _, [] => true
  | p, t :: r => nextOk ok p t && goes (p ++ [t]) r
end

section
variable {ok : Cd → Bool}
theorem goes_split : ∀ (p a b : List Tn), goes ok p (a ++ b) = (goes ok p a && goes ok (p ++ a) b)
  | p, [], b => by simp [goes]
  | p, t :: a, b => by simp [goes, goes_split (p ++ [t]) a b, Bool.and_assoc]
/-- What goes on behind more, goes on behind less. -/
theorem goes_behind : ∀ (q p l : List Tn), seqOf p ≤ seqOf q ∨ p = [] → (∀ id u, lastOf p id = some u → lastOf q id = some u) → goes ok q l = true → (p = [] → 0 ≤ seqOf q) → goes ok p l = true
  | _, _, [], _, _, _, _ => rfl
  | q, p, t :: r, hs, hl, h, h0 => by
    simp only [goes, Bool.and_eq_true] at h ⊢
    obtain ⟨h1, h2⟩ := h
    simp only [nextOk, Bool.and_eq_true, decide_eq_true_eq] at h1 ⊢
    obtain ⟨⟨m1, m2⟩, m3⟩ := h1
    refine ⟨⟨⟨m1, ?_⟩, ?_⟩, goes_behind (q ++ [t]) (p ++ [t]) r (.inl (by rw [seqOf_snoc, seqOf_snoc]; exact Int.le_refl _)) (fun id u hu => ?_) h2 (by simp)⟩
    · rcases hs with hs | rfl
      · omega
      · have := h0 rfl
        simp [seqOf]
        omega
    · cases hp : lastOf p t.id with
      | none => rfl
      | some u => rw [hl _ _ hp] at m3; exact m3
    · rw [lastOf_snoc] at hu ⊢
      split
      · rename_i e; rw [if_pos e] at hu; exact hu
      · rename_i e; rw [if_neg e] at hu; exact hl _ _ hu
end

/-- What a card's first and last turn come to. -/
def itemOf (old : Int) (t : Tn) : Option It :=
  if old = t.new then none else if old = 0 then some ⟨1, t.c⟩ else if t.new = 0 then some ⟨2, Cd.none t.id⟩ else some ⟨3, t.c⟩
def netAt (l : List Tn) (id : Int) : Option It := (firstOf l id).bind fun a => (lastOf l id).bind fun b => itemOf a.old b
/-- The cards that turns have, rising. -/
def insI (x : Int) : List Int → List Int
  | [] => [x]
  | y :: r => if x < y then x :: y :: r else if x = y then y :: r else y :: insI x r
def idsOf (l : List Tn) : List Int := l.foldl (fun s t => insI t.id s) []
theorem insI_mem (x z : Int) : ∀ l : List Int, z ∈ insI x l ↔ z = x ∨ z ∈ l
  | [] => by simp [insI]
  | y :: r => by
    unfold insI
    split
    · simp
    · split
      · rename_i h; subst h; simp
      · simp only [List.mem_cons, insI_mem x z r]
        constructor
        · rintro (h | h | h) <;> simp [h]
        · rintro (h | h | h) <;> simp [h]
theorem insI_rising (x : Int) : ∀ l : List Int, l.Pairwise (· < ·) → (insI x l).Pairwise (· < ·)
  | [], _ => by simp [insI]
  | y :: r, h => by
    obtain ⟨h1, h2⟩ := List.pairwise_cons.1 h
    unfold insI
    split
    · rename_i hx
      refine List.pairwise_cons.2 ⟨fun z hz => ?_, h⟩
      rcases List.mem_cons.1 hz with rfl | hz
      · exact hx
      · have := h1 z hz; omega
    · split
      · exact h
      · refine List.pairwise_cons.2 ⟨fun z hz => ?_, insI_rising x r h2⟩
        rcases (insI_mem x z r).1 hz with rfl | hz
        · omega
        · exact h1 z hz
theorem idsOf_snoc (l : List Tn) (t : Tn) : idsOf (l ++ [t]) = insI t.id (idsOf l) := by simp [idsOf]
theorem idsOf_spec : ∀ l : List Tn, (idsOf l).Pairwise (· < ·) ∧ ∀ x, x ∈ idsOf l ↔ ∃ t ∈ l, t.id = x := by
  intro l
  induction hn : l.length generalizing l with
  | zero => obtain rfl := List.eq_nil_of_length_eq_zero hn; simp [idsOf]
  | succ n ih =>
    have hne : l ≠ [] := by intro e; subst e; cases hn
    obtain ⟨q, t, rfl⟩ : ∃ q t, l = q ++ [t] := ⟨l.dropLast, l.getLast hne, (List.dropLast_concat_getLast hne).symm⟩
    obtain ⟨h1, h2⟩ := ih q (by simpa using hn)
    rw [idsOf_snoc]
    refine ⟨insI_rising _ _ h1, fun x => ?_⟩
    rw [insI_mem, h2]
    constructor
    · rintro (rfl | ⟨u, hu, e⟩)
      · exact ⟨t, by simp, rfl⟩
      · exact ⟨u, by simp [hu], e⟩
    · rintro ⟨u, hu, e⟩
      rcases List.mem_append.1 hu with hu | hu
      · exact .inr ⟨u, hu, e⟩
      · rw [List.mem_singleton] at hu; subst hu; exact .inl e.symm
theorem ids_unique {l : List Tn} {ks : List Int} (h1 : ks.Pairwise (· < ·)) (h2 : ∀ x, x ∈ ks ↔ ∃ t ∈ l, t.id = x) : ks = idsOf l :=
  rising_unique h1 (idsOf_spec l).1 fun x => (h2 x).trans ((idsOf_spec l).2 x).symm
def netOf (l : List Tn) : List It := (idsOf l).filterMap (netAt l)

/-- One more item, at its place. -/
def putIt (x : It) : List It → List It
  | [] => [x]
  | y :: r => if y.c.id < x.c.id then y :: putIt x r else x :: y :: r
theorem putIt_mem (x z : It) : ∀ l : List It, z ∈ putIt x l ↔ z = x ∨ z ∈ l
  | [] => by simp [putIt]
  | y :: r => by
    unfold putIt
    split
    · simp only [List.mem_cons, putIt_mem x z r]
      constructor
      · rintro (h | h | h) <;> simp [h]
      · rintro (h | h | h) <;> simp [h]
    · simp
theorem putIt_rising (x : It) : ∀ l : List It, l.Pairwise (fun a b => a.c.id < b.c.id) → (∀ y ∈ l, y.c.id ≠ x.c.id) → (putIt x l).Pairwise fun a b => a.c.id < b.c.id
  | [], _, _ => by simp [putIt]
  | y :: r, h, hne => by
    obtain ⟨h1, h2⟩ := List.pairwise_cons.1 h
    unfold putIt
    split
    · rename_i hx
      refine List.pairwise_cons.2 ⟨fun z hz => ?_, putIt_rising x r h2 fun z hz => hne z (by simp [hz])⟩
      rcases (putIt_mem x z r).1 hz with rfl | hz
      · exact hx
      · exact h1 z hz
    · rename_i hx
      have := hne y (by simp)
      refine List.pairwise_cons.2 ⟨fun z hz => ?_, h⟩
      rcases List.mem_cons.1 hz with rfl | hz
      · omega
      · have := h1 z hz; omega
theorem items_unique : ∀ {a b : List It}, a.Pairwise (fun x y => x.c.id < y.c.id) → b.Pairwise (fun x y => x.c.id < y.c.id) → (∀ x, x ∈ a ↔ x ∈ b) → a = b
  | [], [], _, _, _ => rfl
  | [], y :: b, _, _, h => absurd ((h y).2 (by simp)) (by simp)
  | x :: a, [], _, _, h => absurd ((h x).1 (by simp)) (by simp)
  | x :: a, y :: b, h1, h2, h => by
    obtain ⟨p1, p2⟩ := List.pairwise_cons.1 h1
    obtain ⟨q1, q2⟩ := List.pairwise_cons.1 h2
    have e : x = y := by
      rcases List.mem_cons.1 ((h x).1 (by simp)) with e | hx
      · exact e
      · rcases List.mem_cons.1 ((h y).2 (by simp)) with e | hy
        · exact e.symm
        · have := q1 x hx
          have := p1 y hy
          omega
    subst e
    congr 1
    refine items_unique p2 q2 fun z => ⟨fun hz => ?_, fun hz => ?_⟩
    · rcases List.mem_cons.1 ((h z).1 (by simp [hz])) with e | k
      · have := p1 z hz; rw [e] at this; omega
      · exact k
    · rcases List.mem_cons.1 ((h z).2 (by simp [hz])) with e | k
      · have := q1 z hz; rw [e] at this; omega
      · exact k

def refStep (l : List Tn) (out : List It) (i : Nat) : List It := match l[i]? with
  | some t => if (firstOf (l.take i) t.id).isNone then (match netAt l t.id with | some x => putIt x out | none => out) else out
  | none => out
def refNet (l : List Tn) (n : Nat) : List It := (List.range n).foldl (refStep l) []
theorem refNet_succ (l : List Tn) (n : Nat) : refNet l (n + 1) = refStep l (refNet l n) n := by simp [refNet, List.range_succ]

/-- Items bear their cards' numbers. -/
def Named (l : List Tn) : Prop := ∀ id x, netAt l id = some x → x.c.id = id
theorem refNet_spec {l : List Tn} (hN : Named l) : ∀ n, n ≤ l.length → (refNet l n).Pairwise (fun a b => a.c.id < b.c.id) ∧ ∀ x, x ∈ refNet l n ↔ ∃ t ∈ l.take n, netAt l t.id = some x
  | 0, _ => by simp [refNet]
  | n + 1, h => by
    obtain ⟨h1, h2⟩ := refNet_spec hN n (by omega)
    have hg : l[n]? = some l[n] := List.getElem?_eq_getElem (by omega)
    have ht : l.take (n + 1) = l.take n ++ [l[n]] := by rw [List.take_add_one, hg]; rfl
    rw [refNet_succ, ht]
    unfold refStep
    rw [hg]
    dsimp only
    by_cases hf : (firstOf (l.take n) l[n].id).isNone = true
    · rw [if_pos hf]
      have hf' := firstOf_none.1 (Option.isNone_iff_eq_none.1 hf)
      cases hx : netAt l l[n].id with
      | none =>
        dsimp only
        refine ⟨h1, fun x => (h2 x).trans ?_⟩
        constructor
        · rintro ⟨t, ht, e⟩; exact ⟨t, List.mem_append_left _ ht, e⟩
        · rintro ⟨t, ht, e⟩
          rcases List.mem_append.1 ht with ht | ht
          · exact ⟨t, ht, e⟩
          · rw [List.mem_singleton] at ht; subst ht; rw [hx] at e; cases e
      | some y =>
        dsimp only
        refine ⟨putIt_rising y _ h1 fun z hz => ?_, fun x => ?_⟩
        · obtain ⟨t, ht, e⟩ := (h2 z).1 hz
          rw [hN _ _ e, hN _ _ hx]
          exact hf' t ht
        · rw [putIt_mem, h2]
          constructor
          · rintro (rfl | ⟨t, ht, e⟩)
            · exact ⟨l[n], List.mem_append_right _ (List.mem_singleton.2 rfl), hx⟩
            · exact ⟨t, List.mem_append_left _ ht, e⟩
          · rintro ⟨t, ht, e⟩
            rcases List.mem_append.1 ht with ht | ht
            · exact .inr ⟨t, ht, e⟩
            · rw [List.mem_singleton] at ht; subst ht; rw [hx] at e; cases e; exact .inl rfl
    · rw [if_neg hf]
      refine ⟨h1, fun x => (h2 x).trans ?_⟩
      constructor
      · rintro ⟨t, ht, e⟩; exact ⟨t, List.mem_append_left _ ht, e⟩
      · rintro ⟨t, ht, e⟩
        rcases List.mem_append.1 ht with ht | ht
        · exact ⟨t, ht, e⟩
        · rw [List.mem_singleton] at ht
          subst ht
          cases hq : firstOf (l.take n) l[n].id with
          | none => rw [hq] at hf; exact absurd rfl hf
          | some u =>
            obtain ⟨u1, u2⟩ := firstOf_mem hq
            exact ⟨u, u1, by rw [u2]; exact e⟩
theorem netOf_spec {l : List Tn} (hN : Named l) : (netOf l).Pairwise (fun a b => a.c.id < b.c.id) ∧ ∀ x, x ∈ netOf l ↔ ∃ t ∈ l, netAt l t.id = some x := by
  obtain ⟨h1, h2⟩ := idsOf_spec l
  constructor
  · unfold netOf
    rw [List.pairwise_filterMap]
    refine h1.imp fun {a b} hab x hx y hy => ?_
    rw [hN _ _ hx, hN _ _ hy]
    exact hab
  · intro x
    unfold netOf
    rw [List.mem_filterMap]
    constructor
    · rintro ⟨id, hid, e⟩
      obtain ⟨t, ht, rfl⟩ := (h2 id).1 hid
      exact ⟨t, ht, e⟩
    · rintro ⟨t, ht, e⟩
      exact ⟨t.id, (h2 _).2 ⟨t, ht, rfl⟩, e⟩
theorem refNet_eq {l : List Tn} (hN : Named l) : refNet l l.length = netOf l := by
  obtain ⟨h1, h2⟩ := refNet_spec hN l.length (Nat.le_refl _)
  obtain ⟨h3, h4⟩ := netOf_spec hN
  exact items_unique h1 h3 fun x => by rw [h2, h4, List.take_length]

section
variable {ok : Cd → Bool}
theorem goes_may : ∀ (p l : List Tn), goes ok p l = true → ∀ t ∈ l, t.may ok = true
  | _, [], _ => by simp
  | p, u :: r, h => by
    simp only [goes, nextOk, Bool.and_eq_true] at h
    intro t ht
    rcases List.mem_cons.1 ht with rfl | ht
    · exact h.1.1.1
    · exact goes_may _ _ h.2 t ht
theorem named_of_may {l : List Tn} (h : ∀ t ∈ l, t.may ok = true) : Named l := by
  intro id x hx
  unfold netAt at hx
  obtain ⟨a, ha, hx⟩ := Option.bind_eq_some_iff.1 hx
  obtain ⟨b, hb, hx⟩ := Option.bind_eq_some_iff.1 hx
  obtain ⟨hb1, hb2⟩ := lastOf_mem hb
  have hm := h b hb1
  unfold Tn.may at hm
  unfold itemOf at hx
  have hid : b.new ≠ 0 → b.c.id = b.id := fun h0 => by
    rw [if_neg h0] at hm
    simp only [Cd.fine, Bool.and_eq_true, decide_eq_true_eq] at hm
    exact hm.2.2.1
  split at hx
  · cases hx
  · rename_i h1
    split at hx
    · rename_i h2
      cases hx
      show b.c.id = id
      rw [hid (by omega), hb2]
    · split at hx
      · cases hx; exact hb2
      · rename_i h3
        cases hx
        show b.c.id = id
        rw [hid h3, hb2]
end
end Go.Ofp
end

section
/- Items applied to cards: plain law. -/
set_option linter.unusedSimpArgs false
set_option linter.unusedVariables false
namespace Go.Ofp

/-- Cards by rising numbers. -/
def RisC (m : List Cd) : Prop := m.Pairwise fun a b => a.id < b.id
def lookC (m : List Cd) (id : Int) : Option Cd := m.find? fun c => decide (c.id = id)
/-- How many cards stand ahead of a number. -/
def aheadC : List Cd → Int → Nat
  | [], _ => 0
  | c :: r, id => if c.id < id then aheadC r id + 1 else 0
def thereC (m : List Cd) (id : Int) : Bool := (m[aheadC m id]?).any fun c => decide (c.id = id)

theorem parts : ∀ (m : List Cd) (id : Int), RisC m → (∀ c ∈ m.take (aheadC m id), c.id < id) ∧
    ((thereC m id = true ∧ ∃ c B, m.drop (aheadC m id) = c :: B ∧ c.id = id ∧ ∀ d ∈ B, id < d.id) ∨ (thereC m id = false ∧ ∀ d ∈ m.drop (aheadC m id), id < d.id))
  | [], id, _ => ⟨by simp, .inr ⟨rfl, by simp⟩⟩
  | c :: r, id, h => by
    obtain ⟨h1, h2⟩ := List.pairwise_cons.1 h
    obtain ⟨k1, k2⟩ := parts r id h2
    by_cases hc : c.id < id
    · have e : aheadC (c :: r) id = aheadC r id + 1 := by rw [aheadC]; exact if_pos hc
      have et : thereC (c :: r) id = thereC r id := by unfold thereC; rw [e]; rfl
      rw [e, et]
      refine ⟨fun d hd => ?_, k2⟩
      simp only [List.take_succ_cons, List.mem_cons] at hd
      rcases hd with rfl | hd
      · exact hc
      · exact k1 d hd
    · have e : aheadC (c :: r) id = 0 := by rw [aheadC]; exact if_neg hc
      rw [e]
      refine ⟨by simp, ?_⟩
      by_cases h0 : c.id = id
      · left
        refine ⟨by unfold thereC; rw [e]; simp [h0], c, r, rfl, h0, fun d hd => ?_⟩
        have := h1 d hd
        omega
      · right
        refine ⟨by unfold thereC; rw [e]; simp [h0], fun d hd => ?_⟩
        simp only [List.drop_zero, List.mem_cons] at hd
        rcases hd with rfl | hd
        · omega
        · have := h1 d hd; omega

theorem thereC_iff {m : List Cd} (h : RisC m) (id : Int) : thereC m id = true ↔ ∃ c ∈ m, c.id = id := by
  obtain ⟨h1, h2⟩ := parts m id h
  constructor
  · intro ht
    rcases h2 with ⟨-, c, B, hd, hc, -⟩ | ⟨hf, -⟩
    · exact ⟨c, List.mem_of_mem_drop (i := aheadC m id) (by rw [hd]; simp), hc⟩
    · rw [ht] at hf; cases hf
  · rintro ⟨c, hc, e⟩
    rcases h2 with ⟨ht, -⟩ | ⟨-, hd⟩
    · exact ht
    · rw [← List.take_append_drop (aheadC m id) m] at hc
      rcases List.mem_append.1 hc with hc | hc
      · have := h1 c hc; omega
      · have := hd c hc; omega

theorem lookC_iff : ∀ {m : List Cd}, RisC m → ∀ (id : Int) (c : Cd), lookC m id = some c ↔ c ∈ m ∧ c.id = id
  | [], _, id, c => by simp [lookC]
  | d :: r, h, id, c => by
    obtain ⟨h1, h2⟩ := List.pairwise_cons.1 h
    have ih := lookC_iff h2 id c
    unfold lookC at ih ⊢
    rw [List.find?_cons]
    by_cases e : d.id = id
    · simp only [e, decide_true, Option.some.injEq, List.mem_cons]
      constructor
      · rintro rfl; exact ⟨.inl rfl, e⟩
      · rintro ⟨rfl | hc, e'⟩
        · rfl
        · have := h1 c hc; omega
    · simp only [e, decide_false, List.mem_cons]
      rw [ih]
      constructor
      · rintro ⟨a, b⟩; exact ⟨.inr a, b⟩
      · rintro ⟨rfl | a, b⟩
        · exact absurd b e
        · exact ⟨a, b⟩

/-- One item. -/
def oneC (m : List Cd) (x : It) : Option (List Cd) :=
  if x.kind = 1 then (if thereC m x.c.id = true then none else some (m.take (aheadC m x.c.id) ++ x.c :: m.drop (aheadC m x.c.id)))
  else if thereC m x.c.id = true then (if x.kind = 3 then some (m.take (aheadC m x.c.id) ++ x.c :: m.drop (aheadC m x.c.id + 1)) else some (m.take (aheadC m x.c.id) ++ m.drop (aheadC m x.c.id + 1))) else none
def applyC : List Cd → List It → Option (List Cd)
  | m, [] => some m
  | m, x :: r => (oneC m x).bind fun m' => applyC m' r
theorem oneC_spec {m m' : List Cd} {x : It} (h : RisC m) (hx : oneC m x = some m') (hk : x.kind = 1 ∨ x.kind = 2 ∨ x.kind = 3) :
    RisC m' ∧ (x.kind = 1 ↔ thereC m x.c.id = false) ∧ ∀ c, c ∈ m' ↔ (c ∈ m ∧ c.id ≠ x.c.id) ∨ (x.kind ≠ 2 ∧ c = x.c) := by
  obtain ⟨h1, h2⟩ := parts m x.c.id h
  have hm := List.take_append_drop (aheadC m x.c.id) m
  have hr : ∀ A B : List Cd, m = A ++ B → A.Pairwise (fun a b => a.id < b.id) ∧ B.Pairwise (fun a b => a.id < b.id) ∧ ∀ a ∈ A, ∀ b ∈ B, a.id < b.id := fun A B e => by
    have h' : (A ++ B).Pairwise (fun a b : Cd => a.id < b.id) := e ▸ h
    exact List.pairwise_append.1 h'
  have hsplit := hr _ _ hm.symm
  have hmem : ∀ c, c ∈ m ↔ c ∈ m.take (aheadC m x.c.id) ∨ c ∈ m.drop (aheadC m x.c.id) := fun c => by
    constructor
    · intro hc; rw [← hm] at hc; exact List.mem_append.1 hc
    · intro hc; rw [← hm]; exact List.mem_append.2 hc
  have hdd : m.drop (aheadC m x.c.id + 1) = (m.drop (aheadC m x.c.id)).drop 1 := by rw [List.drop_drop]
  unfold oneC at hx
  rw [hdd] at hx
  generalize m.take (aheadC m x.c.id) = A at *
  generalize m.drop (aheadC m x.c.id) = B at *
  clear hdd
  rcases h2 with ⟨ht, c0, B', rfl, hc0, hB⟩ | ⟨ht, hB⟩
  · rw [ht] at hx
    simp only [if_true] at hx
    have hA' : ∀ a ∈ A, a.id ≠ x.c.id := fun a ha => by have := h1 a ha; omega
    have hB' : ∀ a ∈ B', a.id ≠ x.c.id := fun a ha => by have := hB a ha; omega
    obtain ⟨p1, p2, p3⟩ := hsplit
    obtain ⟨q1, q2⟩ := List.pairwise_cons.1 p2
    split at hx
    · cases hx
    · rename_i hk1
      split at hx
      · rename_i hk3
        cases hx
        refine ⟨List.pairwise_append.2 ⟨p1, List.pairwise_cons.2 ⟨fun b hb => hB b hb, q2⟩, fun a ha b hb => ?_⟩, by simp [ht, hk3], fun c => ?_⟩
        · rcases List.mem_cons.1 hb with rfl | hb
          · exact h1 a ha
          · exact p3 a ha b (List.mem_cons_of_mem _ (by simpa using hb))
        · rw [hmem]
          simp only [List.mem_append, List.mem_cons, List.drop_one, List.tail_cons]
          constructor
          · rintro (hc | rfl | hc)
            · exact .inl ⟨.inl hc, hA' c hc⟩
            · exact .inr ⟨by omega, rfl⟩
            · exact .inl ⟨.inr (.inr hc), hB' c hc⟩
          · rintro (⟨hc | rfl | hc, hne⟩ | ⟨-, rfl⟩)
            · exact .inl hc
            · exact absurd hc0 hne
            · exact .inr (.inr hc)
            · exact .inr (.inl rfl)
      · rename_i hk3
        cases hx
        refine ⟨List.pairwise_append.2 ⟨p1, q2, fun a ha b hb => p3 a ha b (by simp at hb; simp [hb])⟩, by simp [ht, hk1], fun c => ?_⟩
        rw [hmem]
        simp only [List.mem_append, List.mem_cons, List.drop_one, List.tail_cons]
        constructor
        · rintro (hc | hc)
          · exact .inl ⟨.inl hc, hA' c hc⟩
          · exact .inl ⟨.inr (.inr hc), hB' c hc⟩
        · rintro (⟨hc | rfl | hc, hne⟩ | ⟨h2, rfl⟩)
          · exact .inl hc
          · exact absurd hc0 hne
          · exact .inr hc
          · omega
  · rw [ht] at hx
    simp only [Bool.false_eq_true, if_false] at hx
    split at hx
    · rename_i hk1
      cases hx
      obtain ⟨p1, p2, p3⟩ := hsplit
      refine ⟨List.pairwise_append.2 ⟨p1, List.pairwise_cons.2 ⟨hB, p2⟩, fun a ha b hb => ?_⟩, by simp [ht, hk1], fun c => ?_⟩
      · rcases List.mem_cons.1 hb with rfl | hb
        · exact h1 a ha
        · exact p3 a ha b hb
      · rw [hmem]
        simp only [List.mem_append, List.mem_cons]
        constructor
        · rintro (hc | rfl | hc)
          · exact .inl ⟨.inl hc, by have := h1 c hc; omega⟩
          · exact .inr ⟨by omega, rfl⟩
          · exact .inl ⟨.inr hc, by have := hB c hc; omega⟩
        · rintro (⟨hc | hc, -⟩ | ⟨-, rfl⟩)
          · exact .inl hc
          · exact .inr (.inr hc)
          · exact .inr (.inl rfl)
    · cases hx

/-- When it can be done. -/
theorem oneC_some {m : List Cd} {x : It} (hc : x.kind = 1 ↔ thereC m x.c.id = false) : ∃ m', oneC m x = some m' := by
  unfold oneC
  cases ht : thereC m x.c.id
  · have h1 : x.kind = 1 := hc.2 ht
    rw [if_pos h1]
    simp
  · have h1 : ¬ x.kind = 1 := fun h => by have := hc.1 h; rw [ht] at this; cases this
    rw [if_neg h1]
    simp only [if_true]
    split <;> simp
def RisI (l : List It) : Prop := l.Pairwise fun a b => a.c.id < b.c.id
theorem applyC_spec : ∀ (m : List Cd) (l : List It), RisC m → RisI l → (∀ x ∈ l, (x.kind = 1 ∨ x.kind = 2 ∨ x.kind = 3) ∧ (x.kind = 1 ↔ ¬ ∃ c ∈ m, c.id = x.c.id)) →
    ∃ m', applyC m l = some m' ∧ RisC m' ∧ ∀ c, c ∈ m' ↔ (c ∈ m ∧ ∀ x ∈ l, c.id ≠ x.c.id) ∨ ∃ x ∈ l, x.kind ≠ 2 ∧ c = x.c
  | m, [], h, _, _ => ⟨m, rfl, h, by simp⟩
  | m, x :: l, h, hl, hx => by
    obtain ⟨l1, l2⟩ := List.pairwise_cons.1 hl
    obtain ⟨x1, x2⟩ := hx x (by simp)
    have ht : x.kind = 1 ↔ thereC m x.c.id = false := by
      rw [x2, ← thereC_iff h]
      simp
    obtain ⟨m1, hm1⟩ := oneC_some ht
    obtain ⟨r1, -, r3⟩ := oneC_spec h hm1 x1
    obtain ⟨m2, h1, h2, h3⟩ := applyC_spec m1 l r1 l2 fun y hy => by
      obtain ⟨y1, y2⟩ := hx y (by simp [hy])
      have hlt := l1 y hy
      refine ⟨y1, y2.trans (not_congr ?_)⟩
      constructor
      · rintro ⟨c, hc, e⟩; exact ⟨c, (r3 c).2 (.inl ⟨hc, by omega⟩), e⟩
      · rintro ⟨c, hc, e⟩
        rcases (r3 c).1 hc with ⟨hc, -⟩ | ⟨-, rfl⟩
        · exact ⟨c, hc, e⟩
        · omega
    refine ⟨m2, by rw [applyC, hm1]; exact h1, h2, fun c => ?_⟩
    rw [h3]
    constructor
    · rintro (⟨hc, hne⟩ | ⟨y, hy, hk, rfl⟩)
      · rcases (r3 c).1 hc with ⟨hc, hn⟩ | ⟨hk, rfl⟩
        · refine .inl ⟨hc, fun y hy => ?_⟩
          rcases List.mem_cons.1 hy with rfl | hy
          · exact hn
          · exact hne y hy
        · exact .inr ⟨x, by simp, hk, rfl⟩
      · exact .inr ⟨y, by simp [hy], hk, rfl⟩
    · rintro (⟨hc, hne⟩ | ⟨y, hy, hk, rfl⟩)
      · exact .inl ⟨(r3 c).2 (.inl ⟨hc, hne x (by simp)⟩), fun y hy => hne y (by simp [hy])⟩
      · rcases List.mem_cons.1 hy with rfl | hy
        · refine .inl ⟨(r3 _).2 (.inr ⟨hk, rfl⟩), fun z hz => ?_⟩
          have := l1 z hz
          omega
        · exact .inr ⟨y, hy, hk, rfl⟩
theorem cards_unique : ∀ {a b : List Cd}, RisC a → RisC b → (∀ x, x ∈ a ↔ x ∈ b) → a = b
  | [], [], _, _, _ => rfl
  | [], y :: b, _, _, h => absurd ((h y).2 (by simp)) (by simp)
  | x :: a, [], _, _, h => absurd ((h x).1 (by simp)) (by simp)
  | x :: a, y :: b, h1, h2, h => by
    obtain ⟨p1, p2⟩ := List.pairwise_cons.1 h1
    obtain ⟨q1, q2⟩ := List.pairwise_cons.1 h2
    have e : x = y := by
      rcases List.mem_cons.1 ((h x).1 (by simp)) with e | hx
      · exact e
      · rcases List.mem_cons.1 ((h y).2 (by simp)) with e | hy
        · exact e.symm
        · have := q1 x hx
          have := p1 y hy
          omega
    subst e
    congr 1
    refine cards_unique p2 q2 fun z => ⟨fun hz => ?_, fun hz => ?_⟩
    · rcases List.mem_cons.1 ((h z).1 (by simp [hz])) with e | k
      · have := p1 z hz; rw [e] at this; omega
      · exact k
    · rcases List.mem_cons.1 ((h z).2 (by simp [hz])) with e | k
      · have := q1 z hz; rw [e] at this; omega
      · exact k

/-! ### The map of cards -/
section
variable {row : Cd → List Value}
end
end Go.Ofp
end

section
/- Nets, one behind the other: plain law. -/
set_option linter.unusedSimpArgs false
set_option linter.unusedVariables false
namespace Go.Ofp

theorem lastOf_append (a b : List Tn) (id : Int) : lastOf (a ++ b) id = (lastOf b id).or (lastOf a id) := by
  unfold lastOf
  rw [List.reverse_append, List.find?_append]
theorem firstOf_append (a b : List Tn) (id : Int) : firstOf (a ++ b) id = (firstOf a id).or (firstOf b id) := by
  unfold firstOf
  rw [List.find?_append]
theorem first_last {l : List Tn} {id : Int} {t : Tn} (h : firstOf l id = some t) : ∃ u, lastOf l id = some u := by
  cases hl : lastOf l id with
  | some u => exact ⟨u, rfl⟩
  | none =>
    obtain ⟨h1, h2⟩ := firstOf_mem h
    exact absurd h2 (lastOf_none.1 hl t h1)
theorem last_first {l : List Tn} {id : Int} {t : Tn} (h : lastOf l id = some t) : ∃ u, firstOf l id = some u := by
  cases hl : firstOf l id with
  | some u => exact ⟨u, rfl⟩
  | none =>
    obtain ⟨h1, h2⟩ := lastOf_mem h
    exact absurd h2 (firstOf_none.1 hl t h1)

section
variable {ok : Cd → Bool}
/-- The turn that opens a card's chain goes on from what stood ahead. -/
theorem goes_first : ∀ (p l : List Tn), goes ok p l = true → ∀ id t, firstOf l id = some t → ∀ u, lastOf p id = some u → u.new = t.old
  | _, [], _, id, t, h, _, _ => by simp [firstOf] at h
  | p, s :: r, hg, id, t, h, u, hu => by
    simp only [goes, nextOk, Bool.and_eq_true, decide_eq_true_eq] at hg
    obtain ⟨⟨-, h3⟩, hg⟩ := hg
    by_cases e : s.id = id
    · have : firstOf (s :: r) id = some s := by simp [firstOf, e]
      rw [this] at h
      cases h
      rw [e, hu] at h3
      simpa using h3
    · have h' : firstOf r id = some t := by simpa [firstOf, e] using h
      refine goes_first (p ++ [s]) r hg id t h' u ?_
      rw [lastOf_snoc, if_neg e, hu]
theorem goes_seq : ∀ (p l : List Tn), goes ok p l = true → seqOf p ≤ seqOf (p ++ l)
  | p, [], _ => by simp
  | p, t :: r, h => by
    simp only [goes, nextOk, Bool.and_eq_true, decide_eq_true_eq] at h
    have := goes_seq (p ++ [t]) r h.2
    rw [seqOf_snoc] at this
    have e : p ++ [t] ++ r = p ++ t :: r := by simp
    rw [e] at this
    omega
theorem goes_cut {a b : List Tn} (h : goes ok [] (a ++ b) = true) : goes ok [] a = true ∧ goes ok a b = true ∧ goes ok [] b = true := by
  rw [goes_split, Bool.and_eq_true, List.nil_append] at h
  refine ⟨h.1, h.2, ?_⟩
  refine goes_behind a [] b (.inr rfl) (fun id u hu => by simp [lastOf] at hu) h.2 fun _ => ?_
  have := goes_seq [] a h.1
  rw [List.nil_append] at this
  have e : seqOf [] = 0 := rfl
  omega

theorem may_new {t : Tn} (h : t.may ok = true) : (t.new = 0 ∧ t.c = Cd.none 0) ∨ (1 ≤ t.new ∧ ok t.c = true ∧ t.c.id = t.id ∧ t.c.ver = t.new) := by
  unfold Tn.may at h
  simp only [Bool.and_eq_true, decide_eq_true_eq] at h
  obtain ⟨h1, h2⟩ := h
  by_cases e : t.new = 0
  · rw [if_pos e] at h2
    exact .inl ⟨e, by simpa using h2⟩
  · rw [if_neg e] at h2
    simp only [Cd.fine, Bool.and_eq_true, decide_eq_true_eq] at h2
    exact .inr ⟨by omega, h2.1, h2.2.1, h2.2.2⟩
theorem may_old {t : Tn} (h : t.may ok = true) : 0 ≤ t.old ∧ t.old ≠ t.new ∧ 1 ≤ t.id ∧ t.id < 1073741824 ∧ 1 ≤ t.seq ∧ t.seq ≤ 1099511627776 ∧ t.old ≤ 1099511627776 := by
  unfold Tn.may at h
  simp only [Bool.and_eq_true, decide_eq_true_eq] at h
  obtain ⟨h1, -⟩ := h
  omega
end

theorem itemOf_none {o : Int} {t : Tn} (h : itemOf o t = none) : o = t.new := by
  unfold itemOf at h
  by_cases h1 : o = t.new
  · exact h1
  · rw [if_neg h1] at h
    by_cases h2 : o = 0
    · rw [if_pos h2] at h; cases h
    · rw [if_neg h2] at h
      by_cases h3 : t.new = 0
      · rw [if_pos h3] at h; cases h
      · rw [if_neg h3] at h; cases h
def verAt (m : List Cd) (id : Int) : Int := ((lookC m id).map Cd.ver).getD 0

/-- Cards fit turns. -/
structure FitS (m : List Cd) (l : List Tn) : Prop where
  a : ∀ t ∈ l, ∀ c ∈ m, c.id = t.id → c.ver = t.new → c = t.c
  b : ∀ t ∈ l, ∀ u ∈ l, t.id = u.id → t.new = u.new → t.c = u.c
  c : ∀ id t, firstOf l id = some t → verAt m id = t.old
  d : ∀ c ∈ m, 1 ≤ c.ver

theorem verAt_zero {m : List Cd} (h : RisC m) (hd : ∀ c ∈ m, 1 ≤ c.ver) (id : Int) : verAt m id = 0 ↔ ¬ ∃ c ∈ m, c.id = id := by
  unfold verAt
  cases hl : lookC m id with
  | none =>
    simp only [Option.map_none, Option.getD_none, true_iff]
    rintro ⟨c, hc, e⟩
    rw [(lookC_iff h id c).2 ⟨hc, e⟩] at hl
    cases hl
  | some c =>
    obtain ⟨h1, h2⟩ := (lookC_iff h id c).1 hl
    have := hd c h1
    simp only [Option.map_some, Option.getD_some]
    constructor
    · intro; omega
    · intro hn; exact absurd ⟨c, h1, h2⟩ hn
theorem verAt_mem {m : List Cd} (h : RisC m) {c : Cd} (hc : c ∈ m) : verAt m c.id = c.ver := by
  unfold verAt
  rw [(lookC_iff h c.id c).2 ⟨hc, rfl⟩]
  rfl
theorem verAt_pos {m : List Cd} (h : RisC m) (id : Int) (hv : verAt m id ≠ 0) : ∃ c ∈ m, c.id = id ∧ c.ver = verAt m id := by
  unfold verAt at hv ⊢
  cases hl : lookC m id with
  | none => rw [hl] at hv; exact absurd rfl hv
  | some c =>
    obtain ⟨h1, h2⟩ := (lookC_iff h id c).1 hl
    exact ⟨c, h1, h2, rfl⟩

section
variable {ok : Cd → Bool}
/-- What a net does. -/
theorem net_apply {m : List Cd} {l : List Tn} (hm : RisC m) (hg : goes ok [] l = true) (hf : FitS m l) :
    ∃ m', applyC m (netOf l) = some m' ∧ RisC m' ∧ ∀ c, c ∈ m' ↔ (c ∈ m ∧ lastOf l c.id = none) ∨ ∃ t, lastOf l c.id = some t ∧ t.new ≠ 0 ∧ c = t.c := by
  have hmay := goes_may _ _ hg
  have hN := named_of_may hmay
  obtain ⟨n1, n2⟩ := netOf_spec hN
  have hitem : ∀ x ∈ netOf l, ∃ a b, firstOf l x.c.id = some a ∧ lastOf l x.c.id = some b ∧ itemOf a.old b = some x ∧ b ∈ l ∧ b.id = x.c.id := by
    intro x hx
    obtain ⟨t, ht, e⟩ := (n2 x).1 hx
    have hid := hN _ _ e
    rw [hid]
    unfold netAt at e
    obtain ⟨a, ha, e⟩ := Option.bind_eq_some_iff.1 e
    obtain ⟨b, hb, e⟩ := Option.bind_eq_some_iff.1 e
    exact ⟨a, b, ha, hb, e, lastOf_mem hb⟩
  have hkind : ∀ (o : Int) (b : Tn) (x : It), itemOf o b = some x → o ≠ b.new ∧ ((x.kind = 1 ∧ o = 0 ∧ x.c = b.c) ∨ (x.kind = 2 ∧ o ≠ 0 ∧ b.new = 0) ∨ (x.kind = 3 ∧ o ≠ 0 ∧ b.new ≠ 0 ∧ x.c = b.c)) := by
    intro o b x h
    unfold itemOf at h
    split at h
    · cases h
    · rename_i h1
      split at h
      · rename_i h2; cases h; exact ⟨h1, .inl ⟨rfl, h2, rfl⟩⟩
      · rename_i h2
        split at h
        · rename_i h3; cases h; exact ⟨h1, .inr (.inl ⟨rfl, h2, h3⟩)⟩
        · rename_i h3; cases h; exact ⟨h1, .inr (.inr ⟨rfl, h2, h3, rfl⟩)⟩
  obtain ⟨m', h1, h2, h3⟩ := applyC_spec m (netOf l) hm n1 fun x hx => by
    obtain ⟨a, b, ha, hb, e, -, -⟩ := hitem x hx
    obtain ⟨k1, k2⟩ := hkind _ _ _ e
    have hv := hf.c _ _ ha
    refine ⟨by omega, ?_⟩
    rw [← verAt_zero hm hf.d, hv]
    omega
  refine ⟨m', h1, h2, fun c => ?_⟩
  rw [h3]
  constructor
  · rintro (⟨hc, hne⟩ | ⟨x, hx, hk, rfl⟩)
    · cases hl : lastOf l c.id with
      | none => exact .inl ⟨hc, rfl⟩
      | some b =>
        right
        obtain ⟨a, ha⟩ := last_first hl
        obtain ⟨b1, b2⟩ := lastOf_mem hl
        have hno : itemOf a.old b = none := by
          cases hi : itemOf a.old b with
          | none => rfl
          | some x =>
            have hx : netAt l c.id = some x := by unfold netAt; rw [ha, hl]; exact hi
            have hx' : netAt l b.id = some x := by rw [b2]; exact hx
            exact absurd (hN _ _ hx).symm (hne x ((n2 x).2 ⟨b, b1, hx'⟩))
        have e : a.old = b.new := by
          exact itemOf_none hno
        have hv := hf.c _ _ ha
        rw [verAt_mem hm hc] at hv
        have hd := hf.d c hc
        exact ⟨b, rfl, by omega, hf.a b b1 c hc b2.symm (by omega)⟩
    · obtain ⟨a, b, ha, hb, e, -, -⟩ := hitem x hx
      obtain ⟨k1, k2⟩ := hkind _ _ _ e
      right
      refine ⟨b, hb, ?_, ?_⟩
      · omega
      · rcases k2 with ⟨-, -, h⟩ | ⟨h, -⟩ | ⟨-, -, -, h⟩
        · exact h
        · exact absurd h hk
        · exact h
  · rintro (⟨hc, hl⟩ | ⟨t, hl, hnew, e⟩)
    · refine .inl ⟨hc, fun x hx e => ?_⟩
      obtain ⟨a, b, -, hb, -, -, -⟩ := hitem x hx
      rw [e, hb] at hl
      cases hl
    · obtain ⟨a, ha⟩ := last_first hl
      obtain ⟨t1, t2⟩ := lastOf_mem hl
      cases hi : itemOf a.old t with
      | none =>
        left
        have ev : a.old = t.new := by
          exact itemOf_none hi
        have hv := hf.c _ _ ha
        obtain ⟨d, hd, hd1, hd2⟩ := verAt_pos hm c.id (by omega)
        have : d = t.c := hf.a t t1 d hd (hd1.trans t2.symm) (by omega)
        refine ⟨by rw [e, ← this]; exact hd, fun x hx e' => ?_⟩
        obtain ⟨a', b', ha', hb', ei, -, -⟩ := hitem x hx
        rw [← e', ha] at ha'
        rw [← e', hl] at hb'
        cases ha'
        cases hb'
        rw [hi] at ei
        cases ei
      | some x =>
        right
        have hx' : netAt l c.id = some x := by unfold netAt; rw [ha, hl]; exact hi
        obtain ⟨k1, k2⟩ := hkind _ _ _ hi
        refine ⟨x, (n2 x).2 ⟨t, t1, by rw [t2]; exact hx'⟩, ?_, ?_⟩
        · omega
        · rcases k2 with ⟨-, -, h⟩ | ⟨-, -, h⟩ | ⟨-, -, -, h⟩
          · rw [e, h]
          · exact absurd h hnew
          · rw [e, h]

/-- What fits all, fits the first part; behind its net the rest fits. -/
theorem FitS.left {m : List Cd} {l1 l2 : List Tn} (hf : FitS m (l1 ++ l2)) : FitS m l1 :=
  ⟨fun t ht => hf.a t (List.mem_append_left _ ht), fun t ht u hu => hf.b t (List.mem_append_left _ ht) u (List.mem_append_left _ hu), fun id t h => hf.c id t (by rw [firstOf_append, h]; rfl), hf.d⟩
theorem FitS.right {m m1 : List Cd} {l1 l2 : List Tn} (hm : RisC m) (hf : FitS m (l1 ++ l2)) (hg : goes ok [] (l1 ++ l2) = true) (hm1 : RisC m1)
    (h1 : ∀ c, c ∈ m1 ↔ (c ∈ m ∧ lastOf l1 c.id = none) ∨ ∃ t, lastOf l1 c.id = some t ∧ t.new ≠ 0 ∧ c = t.c) : FitS m1 l2 := by
  have hmay := goes_may _ _ hg
  obtain ⟨-, g2, -⟩ := goes_cut hg
  have hd : ∀ c ∈ m1, 1 ≤ c.ver := by
    intro c hc
    rcases (h1 c).1 hc with ⟨hc, -⟩ | ⟨t, ht, hn, rfl⟩
    · exact hf.d c hc
    · obtain ⟨t1, t2⟩ := lastOf_mem ht
      rcases may_new (hmay t (List.mem_append_left _ t1)) with ⟨h, -⟩ | ⟨h, -, -, h4⟩
      · exact absurd h hn
      · omega
  refine ⟨fun t ht c hc e1 e2 => ?_, fun t ht u hu => hf.b t (List.mem_append_right _ ht) u (List.mem_append_right _ hu), fun id t ht => ?_, hd⟩
  · rcases (h1 c).1 hc with ⟨hc, -⟩ | ⟨u, hu, hn, rfl⟩
    · exact hf.a t (List.mem_append_right _ ht) c hc e1 e2
    · obtain ⟨u1, u2⟩ := lastOf_mem hu
      rcases may_new (hmay u (List.mem_append_left _ u1)) with ⟨h, -⟩ | ⟨h, -, -, h4⟩
      · exact absurd h hn
      · exact hf.b u (List.mem_append_left _ u1) t (List.mem_append_right _ ht) (by omega) (by omega)
  · cases hl : lastOf l1 id with
    | some u =>
      have hu := goes_first l1 l2 g2 id t ht u hl
      obtain ⟨u1, u2⟩ := lastOf_mem hl
      by_cases h0 : u.new = 0
      · rw [(verAt_zero hm1 hd id).2]
        · omega
        · rintro ⟨c, hc, e⟩
          rcases (h1 c).1 hc with ⟨-, h⟩ | ⟨v, hv, hn, -⟩
          · rw [e, hl] at h; cases h
          · rw [e, hl] at hv; cases hv; exact hn h0
      · rcases may_new (hmay u (List.mem_append_left _ u1)) with ⟨h, -⟩ | ⟨h, -, h3, h4⟩
        · exact absurd h h0
        · have hc : u.c ∈ m1 := (h1 u.c).2 (.inr ⟨u, by rw [h3, u2]; exact hl, h0, rfl⟩)
          have := verAt_mem hm1 hc
          rw [h3, u2] at this
          omega
    | none =>
      have hft : firstOf (l1 ++ l2) id = some t := by
        have : firstOf l1 id = none := firstOf_none.2 (lastOf_none.1 hl)
        rw [firstOf_append, this]
        exact ht
      rw [← hf.c id t hft]
      have : lookC m1 id = lookC m id := by
        apply Option.ext
        intro c
        rw [lookC_iff hm1, lookC_iff hm, h1]
        constructor
        · rintro ⟨⟨h, -⟩ | ⟨v, hv, -, -⟩, e⟩
          · exact ⟨h, e⟩
          · rw [e, hl] at hv; cases hv
        · rintro ⟨h, e⟩; exact ⟨.inl ⟨h, by rw [e]; exact hl⟩, e⟩
      unfold verAt
      rw [this]
/-- One net behind the other comes to the net of all. -/
theorem net_twice {m : List Cd} {l1 l2 : List Tn} (hm : RisC m) (hg : goes ok [] (l1 ++ l2) = true) (hf : FitS m (l1 ++ l2)) :
    ∃ m1 m2, applyC m (netOf l1) = some m1 ∧ applyC m1 (netOf l2) = some m2 ∧ applyC m (netOf (l1 ++ l2)) = some m2 ∧ RisC m1 ∧ FitS m1 l2 ∧ RisC m2 := by
  obtain ⟨g1, -, g2⟩ := goes_cut hg
  obtain ⟨m1, a1, a2, a3⟩ := net_apply hm g1 hf.left
  have f2 := FitS.right hm hf hg a2 a3
  obtain ⟨m2, b1, b2, b3⟩ := net_apply a2 g2 f2
  obtain ⟨m3, c1, c2, c3⟩ := net_apply hm hg hf
  refine ⟨m1, m2, a1, b1, ?_, a2, f2, b2⟩
  rw [c1]
  congr 1
  refine cards_unique c2 b2 fun c => ?_
  rw [c3, b3, a3, lastOf_append]
  cases lastOf l2 c.id with
  | none => simp
  | some t => simp
end
theorem net_length (l : List Tn) : (netOf l).length ≤ l.length := by
  unfold netOf
  refine Nat.le_trans (List.length_filterMap_le _ _) ?_
  have : ∀ (s : List Int) (x : Int), (insI x s).length ≤ s.length + 1 := by
    intro s x
    induction s with
    | nil => simp [insI]
    | cons y r ih => unfold insI; split; simp; split; simp; simp; omega
  have h2 : ∀ (l : List Tn) (s : List Int), (l.foldl (fun s t => insI t.id s) s).length ≤ s.length + l.length := by
    intro l
    induction l with
    | nil => simp
    | cons t r ih => intro s; rw [List.foldl_cons]; have h1 := ih (insI t.id s); have h2 := this s t.id; simp; omega
  have := h2 l []
  simpa [idsOf] using this
end Go.Ofp
end

section
/- Turns, items and cards that came in, opened. -/
set_option linter.unusedSimpArgs false
set_option linter.unusedVariables false
namespace Go.Ofp
open Go.RowKit
/-- A slice of rows. -/
structure Lst {α : Type} (row : α → List Value) (In : α → Prop) (w : World) (a : Option Addr) (n c : Nat) (l : List α) : Prop where
  sl : Sl w a (l.map row).flatten
  len : l.length = n
  le : n ≤ c
  cm : c ≤ maxLen
  mem : ∀ x ∈ l, In x
theorem lst_of {α : Type} {row : α → List Value} {In : α → Prop} {rows : List (List Value)} (h : ∀ cs ∈ rows, ∃ x : α, cs = row x ∧ In x) : ∃ l : List α, rows = l.map row ∧ ∀ x ∈ l, In x := by
  induction rows with
  | nil => exact ⟨[], rfl, by simp⟩
  | cons c cs ih =>
    obtain ⟨p, rfl, hp⟩ := h c (by simp)
    obtain ⟨ps, rfl, hps⟩ := ih (fun x hx => h x (by simp [hx]))
    refine ⟨p :: ps, rfl, ?_⟩
    intro q hq
    rcases List.mem_cons.1 hq with rfl | hq
    · exact hp
    · exact hps q hq
abbrev I64 (z : Int) : Prop := -9223372036854775808 ≤ z ∧ z ≤ 9223372036854775807
structure TnIn (t : Tn) : Prop where
  seq : I64 t.seq
  id : I64 t.id
  old : I64 t.old
  new : I64 t.new
  c : CdIn t.c
structure ItIn (x : It) : Prop where
  kind : I64 x.kind
  c : CdIn x.c
end Go.Ofp
namespace Go.Proofs.Ytajldelodnjmoaa
open Go.RowKit Go.Ofp Go.WideShapes
set_option linter.unusedVariables false
set_option maxRecDepth 100000
set_option maxHeartbeats 1000000
def tnRow (t : Tn) : List Value := .int .i64 t.seq :: .int .i64 t.id :: .int .i64 t.old :: .int .i64 t.new :: cdRow t.c
def itRow (x : It) : List Value := .int .i64 x.kind :: cdRow x.c
theorem cdRow_lenT (c : Cd) (h : c.f.length = 8) : (cdRow c).length = 27 := by simp [cdRow, flRow_length, h]
theorem tnRow_len (t : Tn) (h : t.c.f.length = 8) : (tnRow t).length = 31 := by simp [tnRow, cdRow_lenT _ h]
theorem itRow_len (x : It) (h : x.c.f.length = 8) : (itRow x).length = 28 := by simp [itRow, cdRow_lenT _ h]
section
variable {H : Type} {enc : TypeId × Value → H}
theorem read_tn {w : World} {cs : List Value} (h : ∃ fuel x, DataW.trod enc Try.prog w 0 (fun _ => true) true fuel 52 cs = some x) : ∃ x : Tn, cs = tnRow x ∧ TnIn x := by
  obtain ⟨fuel, x, h⟩ := h
  obtain ⟨hl, hf⟩ := field_read Try.underlying52 h
  have hc : Try.prog.cellsOf 52 = 31 := by kernel_rfl
  have hc1 : Try.prog.cellsOf 41 = 27 := by kernel_rfl
  rw [hc] at hl
  obtain ⟨n0, y0, h0⟩ := hf 0 _ rfl
  obtain ⟨n1, y1, h1⟩ := hf 1 _ rfl
  obtain ⟨n2, y2, h2⟩ := hf 2 _ rfl
  obtain ⟨n3, y3, h3⟩ := hf 3 _ rfl
  obtain ⟨n4, y4, h4⟩ := hf 4 _ rfl
  obtain ⟨z0, e0, w0⟩ := field_int Try.underlying3 (by kernel_rfl) (by rw [hl]; decide) h0
  obtain ⟨z1, e1, w1⟩ := field_int Try.underlying3 (by kernel_rfl) (by rw [hl]; decide) h1
  obtain ⟨z2, e2, w2⟩ := field_int Try.underlying3 (by kernel_rfl) (by rw [hl]; decide) h2
  obtain ⟨z3, e3, w3⟩ := field_int Try.underlying3 (by kernel_rfl) (by rw [hl]; decide) h3
  have h4' : DataW.trod enc Try.prog w 0 (fun _ => true) true n4 41 ((cs.drop 4).take (Try.prog.cellsOf 41)) = some y4 := h4
  rw [hc1, List.take_of_length_le (by rw [List.length_drop, hl]; decide)] at h4'
  obtain ⟨c, ec, hci⟩ := read_cd ⟨_, _, h4'⟩
  refine ⟨⟨z0, z1, z2, z3, c⟩, ?_, wf_i64 w0, wf_i64 w1, wf_i64 w2, wf_i64 w3, hci⟩
  match cs, hl with
  | c0 :: c1 :: c2 :: c3 :: rest, _ =>
    simp at e0 e1 e2 e3 ec
    simp [tnRow, e0, e1, e2, e3, ec]
theorem open_tns {r : Reach} {b0 : Nat} {v : Value} {d : DataW H} {ms : List MemPlace} {w : World}
    (ho : Value.okWide Try.prog w r b0 22 v) (ht : DataW.Trod enc Try.prog w 0 (fun _ => true) true 22 v d ms) :
    ∃ a n cap l, v = .slice a n cap ∧ Lst tnRow TnIn w a n cap l := by
  have hc : Try.prog.cellsOf 52 = 31 := by kernel_rfl
  obtain ⟨b, n, cb, rfl, hn, hm, rows, hrl, hrw, hrd⟩ := open_rows Try.underlying22 ho ht (by rw [hc]; decide)
  obtain ⟨qs, rfl, hqs⟩ := lst_of fun cs h => read_tn (hrd cs h)
  rw [List.length_map] at hrl
  exact ⟨b, n, cb, qs, rfl, ⟨hrw.sl, hrl, hn, hm, hqs⟩⟩
end
end Go.Proofs.Ytajldelodnjmoaa
end

section
/- Pieces in the midst: a call that writes to some of them, and what is left behind. -/
set_option linter.unusedSimpArgs false
set_option linter.unusedVariables false
namespace Go.Ofp
open Go.RowKit
theorem Sl.old {w0 w : World} {F : List Nat} {L : List Ch} {a : Option Addr} {xs : List Value} (hs : Sl w0 a xs) (h : St w0 F L w) (hap : 0 < xs.length → ∀ b o, a = some ⟨b, o, none⟩ → b ∉ F) : Sl w a xs := by
  intro i hi
  obtain ⟨b, off, e, hc⟩ := hs i hi
  exact ⟨b, off, e, h.old hc (hap (by omega) b off e)⟩
namespace St
variable {w0 w w' : World} {F : List Nat} {A B B' R L : List Ch} {c : Ch}
theorem dropM (h : St w0 F (A ++ (B ++ R)) w) : St w0 F (A ++ R) w := by
  refine h.pick (fun i => if i < A.length then i else B.length + i) ?_ ?_
  · intro i d hd
    by_cases hi : i < A.length
    · rw [List.getElem?_append_left hi] at hd
      simp only [hi, if_true]
      rw [List.getElem?_append_left hi]
      exact hd
    · rw [List.getElem?_append_right (by omega)] at hd
      simp only [hi, if_false]
      rw [List.getElem?_append_right (by omega), List.getElem?_append_right (by omega), show B.length + i - A.length - B.length = i - A.length by omega]
      exact hd
  · intro i j hi hj hij
    split <;> split <;> omega
theorem back (h : St w0 F (A ++ R) w) : St w0 F R w := by
  have := dropM (A := []) (B := A) (R := R) h
  exact this
end St
end Go.Ofp
end
