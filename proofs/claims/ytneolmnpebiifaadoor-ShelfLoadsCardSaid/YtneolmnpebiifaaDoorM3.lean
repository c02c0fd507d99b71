/- Texts laid together: TransMath TransApp St8 St9 Cut St10 St13 Card1 Card2 Bits CardRef CardRef2 CardEq. -/
import Derived.Laws.BitsAllLaws
import Derived.Laws.StructEq
import Derived.ChangeKeysEq
import Derived.Test.YtneolmnpebiifaaDoorM1
import Derived.Test.YtneolmnpebiifaaDoorM2
section
/- Turns and items: plain law. -/
set_option linter.unusedSimpArgs false
set_option linter.unusedVariables false
namespace Go.Ofp

/-- What a card must be (the same as in CardPatch). -/
def Cd.fine (ok : Cd → Bool) (c : Cd) (id ver : Int) : Bool := ok c && decide (c.id = id ∧ c.ver = ver)

/-- A turn. -/
structure Tn where
  seq : Int
  id : Int
  old : Int
  new : Int
  c : Cd
deriving DecidableEq
/-- An item. -/
structure It where
  kind : Int
  c : Cd
deriving DecidableEq

section
variable (ok : Cd → Bool)
/-- May a turn be? -/
def Tn.may (t : Tn) : Bool :=
  decide (1 ≤ t.seq ∧ t.seq ≤ 1099511627776 ∧ 1 ≤ t.id ∧ t.id < 1073741824 ∧ 0 ≤ t.old ∧ t.old ≤ 1099511627776 ∧ 0 ≤ t.new ∧ t.new ≤ 1099511627776 ∧ t.old ≠ t.new) &&
  (if t.new = 0 then decide (t.c = Cd.none 0) else Cd.fine ok t.c t.id t.new)
end

/-- The last, the first turn of a card. -/
def lastOf (l : List Tn) (id : Int) : Option Tn := l.reverse.find? fun t => decide (t.id = id)
def firstOf (l : List Tn) (id : Int) : Option Tn := l.find? fun t => decide (t.id = id)
theorem lastOf_snoc (l : List Tn) (t : Tn) (id : Int) : lastOf (l ++ [t]) id = if t.id = id then some t else lastOf l id := by
  unfold lastOf
  rw [List.reverse_append]
  simp only [List.reverse_cons, List.reverse_nil, List.nil_append, List.cons_append, List.find?_cons]
  by_cases h : t.id = id <;> simp [h]
theorem lastOf_mem {l : List Tn} {id : Int} {t : Tn} (h : lastOf l id = some t) : t ∈ l ∧ t.id = id := by
  unfold lastOf at h
  have h1 := List.mem_of_find?_eq_some h
  have h2 := List.find?_some h
  exact ⟨by simpa using h1, by simpa using h2⟩
theorem lastOf_none {l : List Tn} {id : Int} : lastOf l id = none ↔ ∀ t ∈ l, t.id ≠ id := by
  unfold lastOf
  simp
theorem firstOf_none {l : List Tn} {id : Int} : firstOf l id = none ↔ ∀ t ∈ l, t.id ≠ id := by
  unfold firstOf
  simp

/-- The step of the last of turns. -/
def seqOf (l : List Tn) : Int := (l.getLast?.map Tn.seq).getD 0
theorem seqOf_snoc (l : List Tn) (t : Tn) : seqOf (l ++ [t]) = t.seq := by simp [seqOf]

section
variable (ok : Cd → Bool)
/-- May a turn go on behind others? -/
def nextOk (p : List Tn) (t : Tn) : Bool := t.may ok && decide (seqOf p < t.seq) && decide ((lastOf p t.id).all fun u => decide (u.new = t.old))
/-- Do turns go on, behind others? -/
def goes : List Tn → List Tn → Bool
  | _, [] => true
  | p, t :: r => nextOk ok p t && goes (p ++ [t]) r
end

section
variable {ok : Cd → Bool}
theorem goes_split : ∀ (p a b : List Tn), goes ok p (a ++ b) = (goes ok p a && goes ok (p ++ a) b)
  | p, [], b => by simp [goes]
  | p, t :: a, b => by simp [goes, goes_split (p ++ [t]) a b, Bool.and_assoc]
/-- What goes on behind more, goes on behind less. -/
theorem goes_behind : ∀ (q p l : List Tn), seqOf p ≤ seqOf q ∨ p = [] → (∀ id u, lastOf p id = some u → lastOf q id = some u) → goes ok q l = true → (p = [] → 0 ≤ seqOf q) → goes ok p l = true
  | _, _, [], _, _, _, _ => rfl
  | q, p, t :: r, hs, hl, h, h0 => by
    simp only [goes, Bool.and_eq_true] at h ⊢
    obtain ⟨h1, h2⟩ := h
    simp only [nextOk, Bool.and_eq_true, decide_eq_true_eq] at h1 ⊢
    obtain ⟨⟨m1, m2⟩, m3⟩ := h1
    refine ⟨⟨⟨m1, ?_⟩, ?_⟩, goes_behind (q ++ [t]) (p ++ [t]) r (.inl (by rw [seqOf_snoc, seqOf_snoc]; exact Int.le_refl _)) (fun id u hu => ?_) h2 (by simp)⟩
    · rcases hs with hs | rfl
      · omega
      · have := h0 rfl
        simp [seqOf]
        omega
    · cases hp : lastOf p t.id with
      | none => rfl
      | some u => rw [hl _ _ hp] at m3; exact m3
    · rw [lastOf_snoc] at hu ⊢
      split
      · rename_i e; rw [if_pos e] at hu; exact hu
      · rename_i e; rw [if_neg e] at hu; exact hl _ _ hu
end

section
variable {ok : Cd → Bool}
theorem goes_may : ∀ (p l : List Tn), goes ok p l = true → ∀ t ∈ l, t.may ok = true
  | _, [], _ => by simp
  | p, u :: r, h => by
    simp only [goes, nextOk, Bool.and_eq_true] at h
    intro t ht
    rcases List.mem_cons.1 ht with rfl | ht
    · exact h.1.1.1
    · exact goes_may _ _ h.2 t ht
end
end Go.Ofp
end

section
/- Items applied to cards: plain law. -/
set_option linter.unusedSimpArgs false
set_option linter.unusedVariables false
namespace Go.Ofp

/-- Cards by rising numbers. -/
def RisC (m : List Cd) : Prop := m.Pairwise fun a b => a.id < b.id
def lookC (m : List Cd) (id : Int) : Option Cd := m.find? fun c => decide (c.id = id)
/-- How many cards stand ahead of a number. -/
def aheadC : List Cd → Int → Nat
  | [], _ => 0
  | c :: r, id => if c.id < id then aheadC r id + 1 else 0
def thereC (m : List Cd) (id : Int) : Bool := (m[aheadC m id]?).any fun c => decide (c.id = id)

theorem parts : ∀ (m : List Cd) (id : Int), RisC m → (∀ c ∈ m.take (aheadC m id), c.id < id) ∧
    ((thereC m id = true ∧ ∃ c B, m.drop (aheadC m id) = c :: B ∧ c.id = id ∧ ∀ d ∈ B, id < d.id) ∨ (thereC m id = false ∧ ∀ d ∈ m.drop (aheadC m id), id < d.id))
  | [], id, _ => ⟨by simp, .inr ⟨rfl, by simp⟩⟩
  | c :: r, id, h => by
    obtain ⟨h1, h2⟩ := List.pairwise_cons.1 h
    obtain ⟨k1, k2⟩ := parts r id h2
    by_cases hc : c.id < id
    · have e : aheadC (c :: r) id = aheadC r id + 1 := by rw [aheadC]; exact if_pos hc
      have et : thereC (c :: r) id = thereC r id := by unfold thereC; rw [e]; rfl
      rw [e, et]
      refine ⟨fun d hd => ?_, k2⟩
      simp only [List.take_succ_cons, List.mem_cons] at hd
      rcases hd with rfl | hd
      · exact hc
      · exact k1 d hd
    · have e : aheadC (c :: r) id = 0 := by rw [aheadC]; exact if_neg hc
      rw [e]
      refine ⟨by simp, ?_⟩
      by_cases h0 : c.id = id
      · left
        refine ⟨by unfold thereC; rw [e]; simp [h0], c, r, rfl, h0, fun d hd => ?_⟩
        have := h1 d hd
        omega
      · right
        refine ⟨by unfold thereC; rw [e]; simp [h0], fun d hd => ?_⟩
        simp only [List.drop_zero, List.mem_cons] at hd
        rcases hd with rfl | hd
        · omega
        · have := h1 d hd; omega

theorem thereC_iff {m : List Cd} (h : RisC m) (id : Int) : thereC m id = true ↔ ∃ c ∈ m, c.id = id := by
  obtain ⟨h1, h2⟩ := parts m id h
  constructor
  · intro ht
    rcases h2 with ⟨-, c, B, hd, hc, -⟩ | ⟨hf, -⟩
    · exact ⟨c, List.mem_of_mem_drop (i := aheadC m id) (by rw [hd]; simp), hc⟩
    · rw [ht] at hf; cases hf
  · rintro ⟨c, hc, e⟩
    rcases h2 with ⟨ht, -⟩ | ⟨-, hd⟩
    · exact ht
    · rw [← List.take_append_drop (aheadC m id) m] at hc
      rcases List.mem_append.1 hc with hc | hc
      · have := h1 c hc; omega
      · have := hd c hc; omega

theorem lookC_iff : ∀ {m : List Cd}, RisC m → ∀ (id : Int) (c : Cd), lookC m id = some c ↔ c ∈ m ∧ c.id = id
  | [], _, id, c => by simp [lookC]
  | d :: r, h, id, c => by
    obtain ⟨h1, h2⟩ := List.pairwise_cons.1 h
    have ih := lookC_iff h2 id c
    unfold lookC at ih ⊢
    rw [List.find?_cons]
    by_cases e : d.id = id
    · simp only [e, decide_true, Option.some.injEq, List.mem_cons]
      constructor
      · rintro rfl; exact ⟨.inl rfl, e⟩
      · rintro ⟨rfl | hc, e'⟩
        · rfl
        · have := h1 c hc; omega
    · simp only [e, decide_false, List.mem_cons]
      rw [ih]
      constructor
      · rintro ⟨a, b⟩; exact ⟨.inr a, b⟩
      · rintro ⟨rfl | a, b⟩
        · exact absurd b e
        · exact ⟨a, b⟩

/-! ### The map of cards -/
def cdM (row : Cd → List Value) (m : List Cd) : Int → Option Value := fun i => (lookC m i).map fun c => .agg (row c).toArray
section
variable {row : Cd → List Value}
theorem cdM_snoc {m : List Cd} {c : Cd} (h : ∀ d ∈ m, d.id ≠ c.id) : cdM row (m ++ [c]) = putM (cdM row m) c.id (.agg (row c).toArray) := by
  funext i
  unfold cdM putM lookC
  rw [List.find?_append]
  by_cases e : i = c.id
  · subst e
    rw [List.find?_eq_none.2 (fun d hd => by simpa using h d hd)]
    simp
  · rw [if_neg e]
    have : (List.find? (fun d : Cd => decide (d.id = i)) [c]) = none := by simp [Ne.symm e]
    rw [this, Option.or_none]
theorem cdM_some {m : List Cd} (h : RisC m) (i : Int) : (cdM row m i).isSome = thereC m i := by
  rw [Bool.eq_iff_iff, thereC_iff h]
  unfold cdM
  rw [Option.isSome_map]
  constructor
  · intro hs
    obtain ⟨c, hc⟩ := Option.isSome_iff_exists.1 hs
    exact ⟨c, (lookC_iff h i c).1 hc⟩
  · rintro ⟨c, hc⟩
    rw [(lookC_iff h i c).2 hc]
    rfl
theorem cdM_keys {m : List Cd} (h : RisC m) (hw : ∀ c ∈ m, (Lit.int .i64 c.id).wf = true) {ks : List Int} (hk : IsKeys (cdM row m) ks) : ks = m.map Cd.id := by
  refine rising_unique hk.1 (List.pairwise_map.2 h) fun x => ?_
  rw [hk.2, cdM_some h, thereC_iff h, List.mem_map]
  constructor
  · rintro ⟨-, c, hc, e⟩; exact ⟨c, hc, e⟩
  · rintro ⟨c, hc, e⟩; exact ⟨e ▸ hw c hc, c, hc, e⟩
theorem cdM_at {m : List Cd} (h : RisC m) {c : Cd} (hc : c ∈ m) : cdM row m c.id = some (.agg (row c).toArray) := by
  unfold cdM
  rw [(lookC_iff h c.id c).2 ⟨hc, rfl⟩]
  rfl
end
end Go.Ofp
end

section
/- Pieces in the midst: a call that writes to some of them, and what is left behind. -/
set_option linter.unusedSimpArgs false
set_option linter.unusedVariables false
namespace Go.Ofp
open Go.RowKit
theorem Sl.old {w0 w : World} {F : List Nat} {L : List Ch} {a : Option Addr} {xs : List Value} (hs : Sl w0 a xs) (h : St w0 F L w) (hap : 0 < xs.length → ∀ b o, a = some ⟨b, o, none⟩ → b ∉ F) : Sl w a xs := by
  intro i hi
  obtain ⟨b, off, e, hc⟩ := hs i hi
  exact ⟨b, off, e, h.old hc (hap (by omega) b off e)⟩
theorem feet_append (A B : List Ch) : feet (A ++ B) = feet A ++ feet B := by simp [feet]
theorem feet_off {A B : List Ch} {b : Nat} (h : b ∉ feet (A ++ B)) : b ∉ feet A ∧ b ∉ feet B := by
  rw [feet_append] at h
  exact ⟨fun k => h (List.mem_append_left _ k), fun k => h (List.mem_append_right _ k)⟩
namespace St
variable {w0 w w' : World} {F : List Nat} {A B B' R L : List Ch} {c : Ch}
/-- The first pieces go to the end. -/
theorem rot (h : St w0 F (A ++ B) w) : St w0 F (B ++ A) w := by
  refine h.pick (fun i => if i < B.length then A.length + i else i - B.length) ?_ ?_
  · intro i d hd
    by_cases hi : i < B.length
    · rw [List.getElem?_append_left hi] at hd
      simp only [hi, if_true]
      rw [List.getElem?_append_right (by omega), Nat.add_sub_cancel_left]
      exact hd
    · rw [List.getElem?_append_right (by omega)] at hd
      simp only [hi, if_false]
      rw [List.getElem?_append_left (List.getElem?_eq_some_iff.1 hd).1]
      exact hd
  · intro i j hi hj hij
    simp only [List.length_append] at hi hj
    split <;> split <;> omega
theorem preM (h : St w0 F (A ++ (B ++ R)) w) : St w (feet B) B w := by
  have := h.rot
  rw [List.append_assoc] at this
  exact this.pre B (R ++ A) rfl
theorem callM (h : St w0 F (A ++ (B ++ R)) w) (k : St w (feet B) B' w') : St w0 F (A ++ (B' ++ R)) w' := by
  have h1 := h.rot
  rw [List.append_assoc] at h1
  have h2 := h1.call B (R ++ A) rfl k
  rw [← List.append_assoc] at h2
  exact h2.rot
theorem dropM (h : St w0 F (A ++ (B ++ R)) w) : St w0 F (A ++ R) w := by
  refine h.pick (fun i => if i < A.length then i else B.length + i) ?_ ?_
  · intro i d hd
    by_cases hi : i < A.length
    · rw [List.getElem?_append_left hi] at hd
      simp only [hi, if_true]
      rw [List.getElem?_append_left hi]
      exact hd
    · rw [List.getElem?_append_right (by omega)] at hd
      simp only [hi, if_false]
      rw [List.getElem?_append_right (by omega), List.getElem?_append_right (by omega), show B.length + i - A.length - B.length = i - A.length by omega]
      exact hd
  · intro i j hi hj hij
    split <;> split <;> omega
theorem back (h : St w0 F (A ++ R) w) : St w0 F R w := by
  have := dropM (A := []) (B := A) (R := R) h
  exact this
theorem fore (h : St w0 F (A ++ R) w) : St w0 F A w := by
  have := dropM (A := A) (B := R) (R := []) (by simpa using h)
  simpa using this
end St
end Go.Ofp
end

section
/- A slice copied into a block of the call's own. -/
set_option linter.unusedSimpArgs false
set_option linter.unusedVariables false
namespace Go.Ofp
open Go.RowKit
/-- One piece alone. -/
theorem St.one {w0 w : World} {F : List Nat} {L : List Ch} {c : Ch} (h : St w0 F L w) (i : Nat) (hi : L[i]? = some c) : St w0 F [c] w := by
  refine h.pick (fun _ => i) ?_ ?_
  · intro q d hd
    match q with
    | 0 => simp at hd; subst hd; exact hi
    | q + 1 => simp at hd
  · intro p q hp hq hpq
    simp at hp hq
    omega
/-- A region in which one block of the call's own is read, and is not written: it is the class. -/
theorem mixs_beginC {P : Program} {Q : Exit → Act → World → Prop} {a : Act} {w w0 : World} {F : List Nat} {L : List Ch} {c : Ch} (i : Nat) {id : Nat} {l : List Oper} (hm : P.follows .mixedOrders = true) (hS : St w0 F L w) (hi : L[i]? = some c)
    (h : ∀ w', St w0 F L w' → St w0 F [c] w' → wpAnyH P .any l.toArray Q (fun w' => St w0 F [c] w') l.length (Array.replicate l.length false) a w') : (Code.region id l.toArray true).wp P Q a w := by
  refine wp_region_held (S := fun w' => St w0 F [c] w') hm ?_
  simpa using h w.drew hS.drew (hS.drew.one i hi)
section
variable {P : Program} {w : World}
variable {w0 : World} {F : List Nat} {L : List Ch} {ops : Array Oper} {rest : List Oper} {o : Oper} {a : Act} {Q : Exit → Act → World → Prop} {K : Act → World → Prop}
/-- Cells that are read alone. -/
def Ch.read (g : Nat) (xs : List Value) : Ch where
  foot := [g]
  holds w := g < w.heap.size ∧ Sl w (some ⟨g, 0, none⟩) xs
  lt h x hx := by simp at hx; subst hx; exact h.1
  keep {w w'} h k := by
    have kg := k g (by simp)
    refine ⟨?_, fun i hi => ?_⟩
    · have h1 := Array.getElem?_eq_getElem h.1
      rw [← kg] at h1
      exact (Array.getElem?_eq_some_iff.1 h1).1
    · obtain ⟨b, off, e, hc⟩ := h.2 i hi
      cases e
      exact ⟨g, 0, rfl, by rw [World.cell?_of_block kg]; exact hc⟩
end
end Go.Ofp
end

section
/- A region that draws its order ends in one form: its tail is walked once. -/
set_option linter.unusedSimpArgs false
set_option linter.unusedVariables false
namespace Go.Ofp
open Go.RowKit
/-- Behind a region nothing but its common end. -/
@[reducible] def CutQ (S : Act → World → Prop) : Exit → Act → World → Prop
  | .normal, a, w => S a w
  | _, _, _ => False
section
variable {P : Program} {c : Code} {Q : Exit → Act → World → Prop} {a : Act} {w w0 : World} {F : List Nat}
theorem wp_cutQ {S : Act → World → Prop} (h : c.wp P (CutQ S) a w) (k : ∀ a w, S a w → Q .normal a w) : c.wp P Q a w := by
  refine Code.wp_mono (fun e a w q => ?_) h
  cases e with
  | normal => exact k a w q
  | _ => exact q.elim
/-- One new block. -/
theorem wp_cut1 {L0 : List Ch} {T : Nat → Act} {L : Nat → List Ch} (h : St w0 F L0 w → c.wp P (CutQ fun a w => ∃ g, a = T g ∧ St w0 F (L g) w) a w) (k : ∀ g w, St w0 F (L g) w → Q .normal (T g) w) : St w0 F L0 w → c.wp P Q a w := fun h0 =>
  wp_cutQ (h h0) fun _ w ⟨g, h, hS⟩ => h ▸ k g w hS
end
end Go.Ofp
end

section
/- A region in which the first two pieces are read and not written: they are the class. -/
set_option linter.unusedSimpArgs false
set_option linter.unusedVariables false
namespace Go.Ofp
open Go.RowKit
theorem St.fore2 {w0 w : World} {F : List Nat} {L : List Ch} {c d : Ch} (h : St w0 F (c :: d :: L) w) : St w0 F [c, d] w := St.fore (A := [c, d]) h
theorem St.fore3 {w0 w : World} {F : List Nat} {L : List Ch} {c d e : Ch} (h : St w0 F (c :: d :: e :: L) w) : St w0 F [c, d, e] w := St.fore (A := [c, d, e]) h
theorem mixs_beginC2 {P : Program} {Q : Exit → Act → World → Prop} {a : Act} {w w0 : World} {F : List Nat} {L : List Ch} {c d : Ch} {id : Nat} {l : List Oper} (hm : P.follows .mixedOrders = true) (hS : St w0 F (c :: d :: L) w)
    (h : ∀ w', St w0 F (c :: d :: L) w' → St w0 F [c, d] w' → wpAnyH P .any l.toArray Q (fun w' => St w0 F [c, d] w') l.length (Array.replicate l.length false) a w') : (Code.region id l.toArray true).wp P Q a w := by
  refine wp_region_held (S := fun w' => St w0 F [c, d] w') hm ?_
  simpa using h w.drew hS.drew hS.drew.fore2
theorem mixs_beginC3 {P : Program} {Q : Exit → Act → World → Prop} {a : Act} {w w0 : World} {F : List Nat} {L : List Ch} {c d e : Ch} {id : Nat} {l : List Oper} (hm : P.follows .mixedOrders = true) (hS : St w0 F (c :: d :: e :: L) w)
    (h : ∀ w', St w0 F (c :: d :: e :: L) w' → St w0 F [c, d, e] w' → wpAnyH P .any l.toArray Q (fun w' => St w0 F [c, d, e] w') l.length (Array.replicate l.length false) a w') : (Code.region id l.toArray true).wp P Q a w := by
  refine wp_region_held (S := fun w' => St w0 F [c, d, e] w') hm ?_
  simpa using h w.drew hS.drew hS.drew.fore3
/-- Some cells of a block of the call's own. -/
def Ch.part (g : Nat) (ks : List (Nat × Value)) : Ch where
  foot := [g]
  holds w := g < w.heap.size ∧ ∀ x ∈ ks, w.cell? ⟨g, x.1, none⟩ = some x.2
  lt h x hx := by simp at hx; subst hx; exact h.1
  keep {w w'} h k := by
    have e := k g (by simp)
    refine ⟨?_, fun x hx => by rw [World.cell?_of_block e]; exact h.2 x hx⟩
    have h1 := Array.getElem?_eq_getElem h.1
    rw [← e] at h1
    exact (Array.getElem?_eq_some_iff.1 h1).1
section
variable {P : Program} {c : Code} {Q : Exit → Act → World → Prop} {a : Act} {w w0 : World} {F : List Nat}
end
end Go.Ofp
end

section
/- A result that lies in a block of the call's own. -/
set_option linter.unusedSimpArgs false
set_option linter.unusedVariables false
namespace Go.Ofp
open Go.RowKit
theorem results_blk {P : Program} {fn : Func} {a : Tmp} {t : TypeId} (h : fn.results = #[.cell a t]) {tmps : Array Value} {g : Nat} (ht : tmps.getD a undef = .pointer (some ⟨g, 0, none⟩)) {w0 w : World} {F : List Nat} {L : List Ch} (hS : St w0 F L w) (i : Nat) {T : TypeId} {cs : Array Value}
    (hi : L[i]? = some (Ch.blk g T cs)) (hu : rowB P t = true) (hsz : sizeB P t cs.size = true) : (results fn tmps).run P w = .ok (.agg cs) w := by
  have hr := run_loadrow (P := P) (w := w) hu hsz (g := g) (j := 0) (vs := cs.toList) (by simp) (Whole.range (hS.get i hi) 0 fun k v hk => by simpa using hk)
  have hl : (loadVar t ⟨g, 0, none⟩).run P w = .ok (.agg cs) w := by simpa [Instr.loadAt, Instr.sureAddr] using hr
  have ht' : tmps[a]?.getD undef = .pointer (some ⟨g, 0, none⟩) := by simpa using ht
  unfold results
  simp [h, ht', asAddr, hl]

/-- A struct or an array of the call's own, read in whatever world of the class. -/
theorem St.krow {P : Program} {w0 w : World} {F : List Nat} {L : List Ch} (_ : St w0 F L w) (i : Nat) {g j T n : Nat} {cs : Array Value} {vs : List Value} (hi : L[i]? = some (Ch.blk g T cs)) {t : TypeId}
    (hu : rowB P t = true) (hsz : sizeB P t n = true) (hv : (cs.toList.drop j).take n = vs) (hl : vs.length = n) : ∀ s : Cl w0 F L, (Instr.loadAt t (.pointer (some ⟨g, j, none⟩))).run P s.1 = .ok (.agg vs.toArray) s.1 := by
  intro s
  subst hv
  exact run_loadrow hu hsz hl (Whole.range (s.2.get i hi) j (range_extract cs j n))
theorem take_loadrow {P : Program} {w0 : World} {F : List Nat} {L : List Ch} {o : Oper} {a : Act} {t : TypeId} {x : Operand} {p : Addr} {vs : Array Value} (s : Cl w0 F L) (ho : o.op = .load t x) (hx : a.eval x = .pointer (some p))
    (h : ∀ s : Cl w0 F L, (Instr.loadAt t (.pointer (some p))).run P s.1 = .ok (.agg vs) s.1) : (execOp a.eval o).run P s.1 = .ok (.value (.agg vs)) s.1 := by
  unfold execOp
  simp only [ho, hx, Sem.run_bind, h s, Result.andThen_ok, Sem.run_pure]

/-- A guarded operation outside of a drawn region, by the law of a drawn one. -/
theorem wpList_of_op {P : Program} {ops : Array Oper} {Q : Exit → Act → World → Prop} {a : Act} {w : World} {rest : List Oper} {o : Oper}
    (h : ∀ K : Act → World → Prop, (∀ a w, wpList P ops Q rest a w → K a w) → if Region.wanted o (yielded ops a.tmps) = true then Oper.wp P o a w K Q else K (a.put o.dst undef) w) : wpList P ops Q (o :: rest) a w :=
  wpList_step fun K hK => h K hK
/-- A struct or an array out of a block, guarded. -/
theorem wpList_gloadrow_st {P : Program} {w w0 : World} {F : List Nat} {L : List Ch} {ops : Array Oper} {rest : List Oper} {o : Oper} {a : Act} {Q : Exit → Act → World → Prop} (i : Nat) {g j T n : Nat} {cs : Array Value} {vs : List Value} (hS : St w0 F L w) (hi : L[i]? = some (Ch.blk g T cs)) (hw : Region.wanted o (yielded ops a.tmps) = true) {t : TypeId} {x : Operand} (ho : o.op = .load t x) (hx : a.eval x = .pointer (some ⟨g, j, none⟩))
    (hu : rowB P t = true) (hsz : sizeB P t n = true) (hv : (cs.toList.drop j).take n = vs) (hl : vs.length = n) (h : wpList P ops Q rest (a.put o.dst (.agg vs.toArray)) w) : wpList P ops Q (o :: rest) a w :=
  wpList_of_op fun K hK => op_loadrow_st hw i hS hi ho hx hu hsz hv hl (hK _ _ h)
theorem wpList_gload_st {P : Program} {w w0 : World} {F : List Nat} {L : List Ch} {ops : Array Oper} {rest : List Oper} {o : Oper} {a : Act} {Q : Exit → Act → World → Prop} (i : Nat) {g j T : Nat} {cs : Array Value} (hS : St w0 F L w) (hi : L[i]? = some (Ch.blk g T cs)) (hw : Region.wanted o (yielded ops a.tmps) = true) {t : TypeId} {x : Operand} (ho : o.op = .load t x) (hx : a.eval x = .pointer (some ⟨g, j, none⟩))
    (hu : scalarB P t = true) {v : Value} (hv : cs[j]? = some v) (h : wpList P ops Q rest (a.put o.dst v) w) : wpList P ops Q (o :: rest) a w :=
  wpList_of_op fun K hK => op_load_st hw i hS hi ho hx hu hv (hK _ _ h)
end Go.Ofp
end

section
/- Cards: Project, Of, Merge, Fresh. -/
set_option linter.unusedSimpArgs false
set_option linter.unusedVariables false
namespace Go.Proofs.YtneolmnpebiifaaDoor
open Go.RowKit Go.Ofp
set_option linter.unusedVariables false
set_option maxRecDepth 100000
set_option maxHeartbeats 4000000

theorem elem_card : Elem Tryd.prog 38 (.agg #[.int .i64 0, .int .i64 0, .int .u32 0, .int .i64 0, .int .i64 0, .string ⟨#[]⟩, .int .i64 0, .int .i64 0, .string ⟨#[]⟩, .int .i64 0, .int .i64 0, .string ⟨#[]⟩, .int .i64 0, .int .i64 0, .string ⟨#[]⟩, .int .i64 0, .int .i64 0, .string ⟨#[]⟩, .int .i64 0, .int .i64 0, .string ⟨#[]⟩, .int .i64 0, .int .i64 0, .string ⟨#[]⟩, .int .i64 0, .int .i64 0, .string ⟨#[]⟩]) 27 280 := Elem.mk (by kernel_rfl) (by rfl) (by decide)
theorem lab_bit (m : Nat) (hm : m < 4294967296) : (bits .and .u32 (m : Int) 256 != 0) = m.testBit 8 := by
  rw [show (256 : Int) = ((2 ^ 8 : Nat) : Int) by rfl, u32_and_nat m (2 ^ 8) hm (by decide), Bool.eq_iff_iff, bne_iff_ne]
  constructor
  · intro h
    obtain ⟨i, hi⟩ := Nat.exists_testBit_of_ne_zero (show m &&& 2 ^ 8 ≠ 0 by omega)
    rw [Nat.testBit_and, Nat.testBit_two_pow, Bool.and_eq_true, decide_eq_true_eq] at hi
    rw [hi.2]
    exact hi.1
  · intro h e
    have e' : m &&& 2 ^ 8 = 0 := by omega
    have := congrArg (fun x => Nat.testBit x 8) e'
    simp only [Nat.testBit_and, Nat.testBit_two_pow, h, Nat.zero_testBit] at this
    cases this
theorem labels_any (m : Nat) (hm : m < 4294967296) (w : World) : Calls Tryd.prog 48 #[.int .u32 m] w fun e w' => e = .returned (.bool (m.testBit 8)) ∧ w = w' := by
  have h := lab_bit m hm
  replace h := Lib.hid h
  go_enter Tryd.func48, Tryd.ntmps48
  go_wp2_with fail
  go_ret
  exact ⟨by first | rfl | (rw [← h.out]; rfl), rfl⟩
end Go.Proofs.YtneolmnpebiifaaDoor
end

section
/- Cards: Of, Merge, Fresh. -/
set_option linter.unusedSimpArgs false
set_option linter.unusedVariables false
namespace Go.Proofs.YtneolmnpebiifaaDoor
open Go.RowKit Go.Ofp
set_option linter.unusedVariables false
set_option maxRecDepth 100000
set_option maxHeartbeats 4000000

theorem mg_any (c : Cd) (p : Pt) (hm : p.mask < 4294967296) (hv : -9223372036854775808 ≤ c.ver) (hf : c.f.length = 8) (hg : p.f.length = 8) (w : World) (h0 : 0 < w.heap.size) (ht : Sl w (some ⟨0, 0, none⟩) (tzTab.map vb)) :
    Calls Tryd.prog 28 #[.agg (cdRow c).toArray, .agg (ptRow p).toArray] w fun e w' => e = .returned (.agg (cdRow (c.merge p)).toArray) ∧ Below w.heap.size w w' := by
  have hS := St.start w
  have ec := elem_card
  obtain ⟨m, pl, pf⟩ := p
  obtain ⟨id, ver, lab, f⟩ := c
  simp only [cdRow, ptRow, Cd.merge] at hf hg hm hv ⊢
  have cL := Lib.hid (fun W : World => labels_any m hm W)
  have cF := Lib.hid (fun (W : World) (hb : Below w.heap.size w W) => fields_any m hm W (Nat.lt_of_lt_of_le h0 hb.size) (ht.below hb))
  have hbl : ∀ i ∈ bitsOf m, i < 8 := fun i hi => by
    have := (List.mem_filter.1 hi).1
    simpa using this
  obtain ⟨L, hL⟩ : ∃ L, bitsOf m = L := ⟨_, rfl⟩
  rw [hL] at cF hbl ⊢
  obtain ⟨n, hn⟩ : ∃ n, L.length = n := ⟨_, rfl⟩
  have hnn : (nums L).length = n := by simpa [nums] using hn
  have hn8 : n ≤ 8 := by rw [← hn, ← hL]; exact bitsOf_len m
  obtain ⟨lr, hlr⟩ : ∃ lr : Nat, (if m.testBit 8 then pl else lab) = lr := ⟨_, rfl⟩
  obtain ⟨vr, hvr⟩ : ∃ vr : Int, (if ver < 1099511627776 then ver + 1 else ver) = vr := ⟨_, rfl⟩
  rw [hlr, hvr]
  replace hlr := Lib.hid hlr
  replace hvr := Lib.hid hvr
  have hv2 := Lib.hid hv
  go_enter Tryd.func28, Tryd.ntmps28
  go_wp2_with (first
    | (go_at_call 48; (with_reducible refine (cL.out _).mono ?_); rintro _ _ ⟨rfl, rfl⟩)
    | (go_at_call 51; (with_reducible refine (cF.out _ hS.below).mono ?_); rintro _ w9 ⟨a9, c9, rfl, -, -, hk9⟩; have hS1 := hS.made hk9; clear hS hk9; have hS := hS1; clear hS1; unfold irow at hS; rw [hnn] at hS; rw [hnn])
    | (with_reducible refine wpList_box_st (L := []) hS rfl rfl rfl ?_; intro gc w1 hS1; clear hS; have hS := hS1; clear hS1)
    | (with_reducible refine wpList_box_st (L := [_]) hS rfl rfl rfl ?_; intro gp w1 hS1; clear hS; have hS := hS1; clear hS1)
    | (with_reducible refine wpList_alloc_st (L := [_, _]) hS rfl rfl (by assumption) ?_; intro go w1 hS1; clear hS; have hS := hS1; clear hS1)
    | (with_reducible refine wpList_box_st hS rfl rfl rfl ?_; intro g1 w1 hS1; clear hS; replace hS := hS1; clear hS1) | (with_reducible refine wpList_box1_st hS rfl rfl rfl ?_; intro g1 w1 hS1; clear hS; replace hS := hS1; clear hS1) | (with_reducible refine wpList_alloc_st hS rfl rfl (by assumption) ?_; intro g1 w1 hS1; clear hS; replace hS := hS1; clear hS1) | (with_reducible refine wpList_alloc1_st hS rfl rfl (by assumption) rfl ?_; intro g1 w1 hS1; clear hS; replace hS := hS1; clear hS1) | ((with_reducible refine wpList_load_st 0 hS rfl rfl rfl rfl ?_ rfl ?_); focus (simp [scalarB, go_sem]; done)) | ((with_reducible refine wpList_loadall_st 0 hS rfl rfl rfl rfl ?_ (by kernel_rfl) ?_); focus (simp [rowB, go_sem]; done)) | ((with_reducible refine wpList_store_st 0 hS rfl rfl rfl rfl (by kernel_rfl) rfl rfl ?_); intro w1 hS1; clear hS; replace hS := hS1; clear hS1; try simp only [List.set_cons_zero, List.set_cons_succ, List.setIfInBounds_toArray, List.take_succ_cons, List.take_zero, List.drop_succ_cons, List.drop_zero, List.nil_append, List.cons_append, List.append_nil, List.drop_nil, List.take_nil, List.length_cons, List.length_nil, Nat.zero_add, Nat.add_zero, Nat.reduceAdd] at hS) | ((with_reducible refine wpList_storerow_st 0 hS rfl rfl rfl rfl (by kernel_rfl) rfl rfl rfl rfl ?_); intro w1 hS1; clear hS; replace hS := hS1; clear hS1; try simp only [List.set_cons_zero, List.set_cons_succ, List.setIfInBounds_toArray, List.take_succ_cons, List.take_zero, List.drop_succ_cons, List.drop_zero, List.nil_append, List.cons_append, List.append_nil, List.drop_nil, List.take_nil, List.length_cons, List.length_nil, Nat.zero_add, Nat.add_zero, Nat.reduceAdd] at hS) | ((with_reducible refine wpList_load_st 1 hS rfl rfl rfl rfl ?_ rfl ?_); focus (simp [scalarB, go_sem]; done)) | ((with_reducible refine wpList_loadall_st 1 hS rfl rfl rfl rfl ?_ (by kernel_rfl) ?_); focus (simp [rowB, go_sem]; done)) | ((with_reducible refine wpList_store_st 1 hS rfl rfl rfl rfl (by kernel_rfl) rfl rfl ?_); intro w1 hS1; clear hS; replace hS := hS1; clear hS1; try simp only [List.set_cons_zero, List.set_cons_succ, List.setIfInBounds_toArray, List.take_succ_cons, List.take_zero, List.drop_succ_cons, List.drop_zero, List.nil_append, List.cons_append, List.append_nil, List.drop_nil, List.take_nil, List.length_cons, List.length_nil, Nat.zero_add, Nat.add_zero, Nat.reduceAdd] at hS) | ((with_reducible refine wpList_storerow_st 1 hS rfl rfl rfl rfl (by kernel_rfl) rfl rfl rfl rfl ?_); intro w1 hS1; clear hS; replace hS := hS1; clear hS1; try simp only [List.set_cons_zero, List.set_cons_succ, List.setIfInBounds_toArray, List.take_succ_cons, List.take_zero, List.drop_succ_cons, List.drop_zero, List.nil_append, List.cons_append, List.append_nil, List.drop_nil, List.take_nil, List.length_cons, List.length_nil, Nat.zero_add, Nat.add_zero, Nat.reduceAdd] at hS) | ((with_reducible refine wpList_load_st 2 hS rfl rfl rfl rfl ?_ rfl ?_); focus (simp [scalarB, go_sem]; done)) | ((with_reducible refine wpList_loadall_st 2 hS rfl rfl rfl rfl ?_ (by kernel_rfl) ?_); focus (simp [rowB, go_sem]; done)) | ((with_reducible refine wpList_store_st 2 hS rfl rfl rfl rfl (by kernel_rfl) rfl rfl ?_); intro w1 hS1; clear hS; replace hS := hS1; clear hS1; try simp only [List.set_cons_zero, List.set_cons_succ, List.setIfInBounds_toArray, List.take_succ_cons, List.take_zero, List.drop_succ_cons, List.drop_zero, List.nil_append, List.cons_append, List.append_nil, List.drop_nil, List.take_nil, List.length_cons, List.length_nil, Nat.zero_add, Nat.add_zero, Nat.reduceAdd] at hS) | ((with_reducible refine wpList_storerow_st 2 hS rfl rfl rfl rfl (by kernel_rfl) rfl rfl rfl rfl ?_); intro w1 hS1; clear hS; replace hS := hS1; clear hS1; try simp only [List.set_cons_zero, List.set_cons_succ, List.setIfInBounds_toArray, List.take_succ_cons, List.take_zero, List.drop_succ_cons, List.drop_zero, List.nil_append, List.cons_append, List.append_nil, List.drop_nil, List.take_nil, List.length_cons, List.length_nil, Nat.zero_add, Nat.add_zero, Nat.reduceAdd] at hS))
  all_goals
    obtain ⟨lb, vb', hlb, hvb, hS1⟩ : ∃ (lb : Nat) (vb' : Int), Hid (lb = lr) ∧ Hid (vb' = vr) ∧ St w [] [Ch.row 3 1 (.slice a9 n c9) n ((nums L).map vi), Ch.blk go 38 #[.int .i64 0, .int .i64 0, .int .u32 0, .int .i64 0, .int .i64 0, .string ⟨#[]⟩, .int .i64 0, .int .i64 0, .string ⟨#[]⟩, .int .i64 0, .int .i64 0, .string ⟨#[]⟩, .int .i64 0, .int .i64 0, .string ⟨#[]⟩, .int .i64 0, .int .i64 0, .string ⟨#[]⟩, .int .i64 0, .int .i64 0, .string ⟨#[]⟩, .int .i64 0, .int .i64 0, .string ⟨#[]⟩, .int .i64 0, .int .i64 0, .string ⟨#[]⟩], Ch.blk gp 30 (.int .u32 m :: .int .u32 pl :: flRow pf).toArray, Ch.blk gc 38 (.int .i64 id :: .int .i64 vb' :: .int .u32 lb :: flRow f).toArray] w9 := by
      first
        | exact ⟨pl, ver + 1, Lib.hid (by rw [← hlr.out]; simp [*]), Lib.hid (by rw [← hvr.out]; simp [*]), hS⟩
        | exact ⟨pl, ver, Lib.hid (by rw [← hlr.out]; simp [*]), Lib.hid (by rw [← hvr.out]; first | (rw [if_neg (by omega)]) | simp [*]), hS⟩
        | exact ⟨lab, ver + 1, Lib.hid (by rw [← hlr.out]; simp [*]), Lib.hid (by rw [← hvr.out]; simp [*]), hS⟩
        | exact ⟨lab, ver, Lib.hid (by rw [← hlr.out]; simp [*]), Lib.hid (by rw [← hvr.out]; first | (rw [if_neg (by omega)]) | simp [*]), hS⟩
    clear hS
    go_loopg [24] n (fun gk vx wr => ∃ k : Nat, k + gk = n ∧ vx = .int .i64 k ∧ St w [] [Ch.row 3 1 (.slice a9 n c9) n ((nums L).map vi), Ch.blk go 38 #[.int .i64 0, .int .i64 0, .int .u32 0, .int .i64 0, .int .i64 0, .string ⟨#[]⟩, .int .i64 0, .int .i64 0, .string ⟨#[]⟩, .int .i64 0, .int .i64 0, .string ⟨#[]⟩, .int .i64 0, .int .i64 0, .string ⟨#[]⟩, .int .i64 0, .int .i64 0, .string ⟨#[]⟩, .int .i64 0, .int .i64 0, .string ⟨#[]⟩, .int .i64 0, .int .i64 0, .string ⟨#[]⟩, .int .i64 0, .int .i64 0, .string ⟨#[]⟩], Ch.blk gp 30 (.int .u32 m :: .int .u32 pl :: flRow pf).toArray, Ch.blk gc 38 (.int .i64 id :: .int .i64 vb' :: .int .u32 lb :: flRow (putF pf f (L.take k))).toArray] wr)
    case atStart => exact ⟨0, Nat.zero_add _, rfl, hS1⟩
    case round =>
      clear hS1
      obtain ⟨k, hkn, rfl, hS⟩ := hrel
      by_cases hlt : k < n
      · have hkl : k < L.length := by omega
        obtain ⟨gr, cr, hrv, -⟩ := hS.rowat 0 rfl (by omega)
        cases hrv
        have hsl := hS.rowsl 0 rfl
        have hi8 := hbl L[k] (List.getElem_mem hkl)
        have hcl := hsl.add k (.int .i64 (L[k] : Nat)) (by simp [nums, vi, hkl])
        rw [Addr.add_lit, Nat.zero_add] at hcl
        have hnext := putF_snoc pf f (L.take k) L[k]
        rw [← List.take_succ_eq_append_getElem hkl] at hnext
        have hvf : pf[L[k]]? = some (pf.getD L[k] Vl.zero) := by rw [List.getD_eq_getElem?_getD, List.getElem?_eq_getElem (by omega)]; rfl
        have hpl : (putF pf f (L.take k)).length = 8 := by rw [putF_length]; exact hf
        generalize L[k] = i at *
        generalize pf.getD i Vl.zero = v at *
        have hld : ((.int .u32 m :: .int .u32 pl :: flRow pf).toArray.toList.drop (2 + i * 3)).take 3 = vlRow v := fl_at [.int .u32 m, .int .u32 pl] pf i v hvf
        have hst : ((.int .i64 id :: .int .i64 vb' :: .int .u32 lb :: flRow (putF pf f (L.take k))).toArray.toList.take (3 + i * 3) ++ vlRow v ++ (.int .i64 id :: .int .i64 vb' :: .int .u32 lb :: flRow (putF pf f (L.take k))).toArray.toList.drop (3 + i * 3 + 3)).toArray = (.int .i64 id :: .int .i64 vb' :: .int .u32 lb :: flRow (putF pf f (L.take (k + 1)))).toArray := by
          rw [hnext]
          exact congrArg List.toArray (fl_put [.int .i64 id, .int .i64 vb', .int .u32 lb] (putF pf f (L.take k)) i v (by omega))
        have hfit : Nat.ble (3 + i * 3 + 3) (Value.int .i64 id :: .int .i64 vb' :: .int .u32 lb :: flRow (putF pf f (L.take k))).toArray.size = true := by
          rw [Nat.ble_eq]
          simp only [List.size_toArray, List.length_cons, flRow_length, hpl]
          omega
        replace hld := Lib.hid hld
        replace hst := Lib.hid hst
        replace hfit := Lib.hid hfit
        clear hnext hvf
        go_wp2_with (first
          | ((with_reducible refine wpList_loadrow_st 2 hS rfl rfl rfl rfl ?_ (by kernel_rfl) hld.out rfl ?_); focus (simp [rowB, go_sem]; done))
          | ((with_reducible refine wpList_storerow_st 3 (vs := vlRow v) (n := 3) hS rfl rfl rfl rfl (by kernel_rfl) rfl (vlRow_length v) (vl_one v) hfit.out ?_); intro w1 hS1; clear hS; simp only [List.set_cons_zero, List.set_cons_succ] at hS1; rw [hst.out] at hS1; have hS := hS1; clear hS1))
        go_roundg (n - (k + 1))
        case measure => omega
        case rel => exact ⟨k + 1, by omega, by go_num, hS⟩
      · obtain rfl : k = n := by omega
        rw [← hn, List.take_length] at hS
        rw [hn] at hS
        have hpl : (putF pf f L).length = 8 := by rw [putF_length]; exact hf
        obtain ⟨q, hq⟩ : ∃ q, putF pf f L = q := ⟨_, rfl⟩
        rw [hq] at hS hpl
        replace hq := Lib.hid hq
        have hsz : (Value.int .i64 id :: .int .i64 vb' :: .int .u32 lb :: flRow q).toArray.size = 27 := by
          simp only [List.size_toArray, List.length_cons, flRow_length, hpl]
        have hone : (Value.int .i64 id :: .int .i64 vb' :: .int .u32 lb :: flRow q).all Value.oneCell' = true := by
          simp only [List.all_cons, fl_one]
          rfl
        have hlen : (Value.int .i64 id :: .int .i64 vb' :: .int .u32 lb :: flRow q).length = 27 := by simpa using hsz
        have hsB : sizeB Tryd.prog 38 (Value.int .i64 id :: .int .i64 vb' :: .int .u32 lb :: flRow q).toArray.size = true := by rw [hsz]; kernel_rfl
        go_wp2_with (first
          | ((with_reducible refine wpList_loadall_st 3 hS rfl rfl rfl rfl ?_ hsB ?_); focus (simp [rowB, go_sem]; done))
          | ((with_reducible refine wpList_storerow_st 1 (vs := Value.int .i64 id :: .int .i64 vb' :: .int .u32 lb :: flRow q) (n := 27) hS rfl rfl rfl rfl (by kernel_rfl) rfl hlen hone rfl ?_); intro w1 hS1; clear hS; have hS := hS1; clear hS1; try simp only [List.set_cons_zero, List.set_cons_succ, List.setIfInBounds_toArray, List.take_succ_cons, List.take_zero, List.drop_succ_cons, List.drop_zero, List.nil_append, List.cons_append, List.append_nil, List.drop_nil, List.take_nil, List.length_cons, List.length_nil, Nat.zero_add, Nat.add_zero, Nat.reduceAdd] at hS))
        exact bodyPost_ret (v := .agg (Value.int .i64 id :: .int .i64 vb' :: .int .u32 lb :: flRow q).toArray) (results_blk Tryd.results28 rfl hS 1 rfl (by kernel_rfl) hsB) rfl ⟨by rw [hlb.out, hvb.out, hq.out], hS.below⟩

theorem fr_any (id : Int) (p : Pt) (hm : p.mask < 4294967296) (hg : p.f.length = 8) (w : World) (h0 : 0 < w.heap.size) (ht : Sl w (some ⟨0, 0, none⟩) (tzTab.map vb)) :
    Calls Tryd.prog 25 #[.int .i64 id, .agg (ptRow p).toArray] w fun e w' => e = .returned (.agg (cdRow (p.fresh id)).toArray) ∧ Below w.heap.size w w' := by
  have hS := St.start w
  have ec := elem_card
  have cM : ∀ (W : World) (hb : Below w.heap.size w W), Calls Tryd.prog 28 #[.agg #[.int .i64 id, .int .i64 0, .int .u32 0, .int .i64 0, .int .i64 0, .string ⟨#[]⟩, .int .i64 0, .int .i64 0, .string ⟨#[]⟩, .int .i64 0, .int .i64 0, .string ⟨#[]⟩, .int .i64 0, .int .i64 0, .string ⟨#[]⟩, .int .i64 0, .int .i64 0, .string ⟨#[]⟩, .int .i64 0, .int .i64 0, .string ⟨#[]⟩, .int .i64 0, .int .i64 0, .string ⟨#[]⟩, .int .i64 0, .int .i64 0, .string ⟨#[]⟩], .agg (ptRow p).toArray] W fun e w' => e = .returned (.agg (cdRow (p.fresh id)).toArray) ∧ Below W.heap.size W w' :=
    fun W hb => mg_any (Cd.none id) p hm (by simp [Cd.none]) rfl hg W (Nat.lt_of_lt_of_le h0 hb.size) (ht.below hb)
  replace cM := Lib.hid cM
  have hpf : (p.fresh id).f.length = 8 := by
    show (putF p.f noF (bitsOf p.mask)).length = 8
    rw [putF_length]
    rfl
  have hcl : (ptRow p).length = 26 := by simp [ptRow, flRow_length, hg]
  have hsc : sizeB Tryd.prog 30 (ptRow p).toArray.size = true := by
    rw [List.size_toArray, hcl]
    kernel_rfl
  have hrl : (cdRow (p.fresh id)).length = 27 := by simp [cdRow, flRow_length, hpf]
  have hro : (cdRow (p.fresh id)).all Value.oneCell' = true := by
    simp only [cdRow, List.all_cons, fl_one]
    rfl
  generalize cdRow (p.fresh id) = RX at cM hrl hro ⊢
  generalize ptRow p = RP at cM hcl hsc ⊢
  go_enter Tryd.func25, Tryd.ntmps25
  go_wp2_with (first
    | (go_at_call 28; (with_reducible refine (cM.out _ hS.below).mono ?_); rintro _ w9 ⟨rfl, hk9⟩; have hS1 := hS.keepB hk9; clear hk9 hS; have hS := hS1; clear hS1)
    | (with_reducible refine wpList_box_st (L := []) hS rfl rfl rfl ?_; intro gc w1 hS1; clear hS; have hS := hS1; clear hS1)
    | (with_reducible refine wpList_alloc_st (L := [_]) hS rfl rfl (by assumption) ?_; intro go w1 hS1; clear hS; have hS := hS1; clear hS1)
    | ((with_reducible refine wpList_loadall_st (L := [_, _]) 1 hS rfl rfl rfl rfl ?_ hsc ?_); focus (simp [rowB, go_sem]; done))
    | ((with_reducible refine wpList_storerow_st 0 (vs := RX) (n := 27) hS rfl rfl rfl rfl (by kernel_rfl) rfl hrl hro rfl ?_); intro w1 hS1; clear hS; have hS := hS1; clear hS1; try simp only [List.set_cons_zero, List.set_cons_succ, List.setIfInBounds_toArray, List.take_succ_cons, List.take_zero, List.drop_succ_cons, List.drop_zero, List.nil_append, List.cons_append, List.append_nil, List.drop_nil, List.take_nil, List.length_cons, List.length_nil, Nat.zero_add, Nat.add_zero, Nat.reduceAdd] at hS))
  exact bodyPost_ret (v := .agg RX.toArray) (results_blk Tryd.results25 rfl hS 0 rfl (by kernel_rfl) (by rw [List.size_toArray, hrl]; kernel_rfl)) rfl ⟨rfl, hS.below⟩
end Go.Proofs.YtneolmnpebiifaaDoor
end

section
/- Sets of small numbers as bits. -/
set_option linter.unusedSimpArgs false
set_option linter.unusedVariables false
namespace Go.Ofp
end Go.Ofp
namespace Go.Proofs.YtneolmnpebiifaaDoor
open Go.RowKit Go.Ofp
set_option linter.unusedVariables false
set_option maxRecDepth 100000
set_option maxHeartbeats 4000000
theorem rhasb_any (s n : Nat) (w : World) (h : n < 32) (hs : s < 4294967296) : Calls Tryd.prog 30 #[.int .u32 s, .int .i64 n] w fun e w' => e = .returned (.bool (s.testBit n)) ∧ w = w' := by
  have d1 : decide ((n : Int) < 0) = false := decide_eq_false (by omega)
  have d2 : decide ((31 : Int) < (n : Int)) = false := decide_eq_false (by omega)
  go_enter Tryd.func30, Tryd.ntmps30
  go_wp2_with fail
  clear d1 d2
  go_loopg [0, 5] n (fun gk vs vx wr => ∃ k q : Nat, k + gk = n ∧ vx = .int .i64 k ∧ vs = .int .u32 q ∧ q < 4294967296 ∧ Hid (q = s / 2 ^ k) ∧ w = wr)
  case atStart => exact ⟨0, s, Nat.zero_add _, rfl, rfl, hs, Lib.hid (by simp), rfl⟩
  case round =>
    obtain ⟨k, q, hk, rfl, rfl, hq, hr, rfl⟩ := hrel
    by_cases hlt : k < n
    · go_wp2_with fail
      go_roundg (n - (k + 1))
      case measure => omega
      case rel => exact ⟨k + 1, q / 2, by omega, by go_num, rfl, by omega, Lib.hid (by rw [hr.out, Nat.pow_succ, Nat.div_div_eq_div_mul]), rfl⟩
    · obtain rfl : k = n := by omega
      have e : s.testBit k = decide (q % 2 = 1) := by rw [hr.out, Nat.testBit_eq_decide_div_mod_eq]
      clear hr
      rcases Nat.mod_two_eq_zero_or_one q with h2 | h2
      · have h3 : (q : Int) % 2 = 0 := by omega
        rw [h2] at e
        replace e := Lib.hid e
        clear h2
        go_wp2_with fail
        go_ret
        exact ⟨by rw [e.out]; rfl, rfl⟩
      · have h3 : (q : Int) % 2 = 1 := by omega
        rw [h2] at e
        replace e := Lib.hid e
        clear h2
        go_wp2_with fail
        go_ret
        exact ⟨by rw [e.out]; rfl, rfl⟩

end Go.Proofs.YtneolmnpebiifaaDoor
end

section
/- Cards: the document's answer: Project, Of, Merge, Fresh. -/
set_option linter.unusedSimpArgs false
set_option linter.unusedVariables false
namespace Go.Proofs.YtneolmnpebiifaaDoor
open Go.RowKit Go.Ofp
set_option linter.unusedVariables false
set_option maxRecDepth 100000
set_option maxHeartbeats 4000000

theorem rlabels_any (m : Nat) (hm : m < 4294967296) (w : World) : Calls Tryd.prog 29 #[.int .u32 m] w fun e w' => e = .returned (.bool (m.testBit 8)) ∧ w = w' := by
  have cH : ∀ W : World, Calls Tryd.prog 30 #[.int .u32 m, .int .i64 8] W fun e w' => e = .returned (.bool (m.testBit 8)) ∧ W = w' := fun W => rhasb_any m 8 W (by decide) hm
  replace cH := Lib.hid cH
  go_enter Tryd.func29, Tryd.ntmps29
  go_wp2_with (go_at_call 30; (with_reducible refine (cH.out _).mono ?_); rintro _ _ ⟨rfl, rfl⟩)
  go_ret
  exact ⟨rfl, rfl⟩
theorem rmcheck_any (m : Nat) (w : World) : Calls Tryd.prog 62 #[.int .u32 m] w fun e w' => e = .returned (.bool (decide (m ≤ 511))) ∧ w = w' := by
  have h : decide ((m : Int) ≤ 511) = decide (m ≤ 511) := by
    by_cases h : m ≤ 511
    · rw [decide_eq_true h, decide_eq_true (by omega)]
    · rw [decide_eq_false h, decide_eq_false (by omega)]
  go_enter Tryd.func62, Tryd.ntmps62
  go_wp2_with fail
  go_ret
  exact ⟨by first | rfl | rw [← h]; rfl, rfl⟩
/-- The first k of a mask's fields. -/
def bitsTo (m k : Nat) : List Nat := (List.range k).filter fun i => m.testBit i
theorem bitsTo_next (m k : Nat) : bitsTo m (k + 1) = if m.testBit k then bitsTo m k ++ [k] else bitsTo m k := by
  unfold bitsTo
  rw [List.range_succ, List.filter_append]
  by_cases h : m.testBit k <;> simp [h]
end Go.Proofs.YtneolmnpebiifaaDoor
end

section
/- Cards: the document's answer: Merge, Fresh. -/
set_option linter.unusedSimpArgs false
set_option linter.unusedVariables false
namespace Go.Proofs.YtneolmnpebiifaaDoor
open Go.RowKit Go.Ofp
set_option linter.unusedVariables false
set_option maxRecDepth 100000
set_option maxHeartbeats 4000000

theorem rmg_any (c : Cd) (p : Pt) (hm : p.mask < 4294967296) (hv : 0 ≤ c.ver ∧ c.ver ≤ 1099511627776) (hf : c.f.length = 8) (hg : p.f.length = 8) (w : World) :
    Calls Tryd.prog 13 #[.agg (cdRow c).toArray, .agg (ptRow p).toArray] w fun e w' => e = .returned (.agg (cdRow (c.merge p)).toArray) ∧ Below w.heap.size w w' := by
  have hS := St.start w
  have ec := elem_card
  obtain ⟨m, pl, pf⟩ := p
  have cL := (fun W : World => rlabels_any m hm W)
  have cH := Lib.hid (fun (i : Nat) (hi : i < 8) (W : World) => rhasb_any m i W (by omega) hm)
  have hcl : (cdRow c).length = 27 := by simp [cdRow, flRow_length, hf]
  have hsc : sizeB Tryd.prog 38 (cdRow c).toArray.size = true := by
    rw [List.size_toArray, hcl]
    kernel_rfl
  have hco : (cdRow c).all Value.oneCell' = true := by
    simp only [cdRow, List.all_cons, fl_one]
    rfl
  obtain ⟨id, ver, lab, f⟩ := c
  simp only [cdRow, ptRow, Cd.merge] at hf hg hv hcl hsc hco ⊢
  rw [show bitsOf m = bitsTo m 8 from rfl]
  obtain ⟨lr, hlr⟩ : ∃ lr : Nat, (if m.testBit 8 then pl else lab) = lr := ⟨_, rfl⟩
  obtain ⟨vr, hvr⟩ : ∃ vr : Int, (if ver < 1099511627776 then ver + 1 else ver) = vr := ⟨_, rfl⟩
  have hvm : (if (1099511627775 : Int) < ver then (1099511627775 : Int) else ver) + 1 = vr := by
    rw [← hvr]
    by_cases h : ver < 1099511627776
    · rw [if_pos h, if_neg (by omega)]
    · rw [if_neg h, if_pos (by omega)]
      omega
  have hvb : -9223372036854775808 ≤ vr ∧ vr ≤ 9223372036854775807 := by
    rw [← hvr]
    split <;> omega
  rw [hlr, hvr]
  replace hlr := Lib.hid hlr
  obtain ⟨vm, hvm2⟩ : ∃ vm : Int, (if (1099511627775 : Int) < ver then (1099511627775 : Int) else ver) = vm := ⟨_, rfl⟩
  rw [hvm2] at hvm
  clear hvr
  have hv2 := Lib.hid hv
  have hvb2 := Lib.hid hvb
  cases h8 : m.testBit 8
  all_goals
    have hl8 := hlr.out
    rw [h8] at cL hl8
    replace hl8 := Lib.hid hl8
    replace cL := Lib.hid cL
    clear h8 hlr
    go_enter Tryd.func13, Tryd.ntmps13
    go_wp2_with (first
      | (go_at_call 29; (with_reducible refine (cL.out _).mono ?_); rintro _ _ ⟨rfl, rfl⟩)
      | (with_reducible refine wpList_box_st (L := []) hS rfl rfl rfl ?_; intro gc w1 hS1; clear hS; have hS := hS1; clear hS1)
      | (with_reducible refine wpList_box_st (L := [_]) hS rfl rfl rfl ?_; intro gp w1 hS1; clear hS; have hS := hS1; clear hS1)
      | (with_reducible refine wpList_alloc_st (L := [_, _]) hS rfl rfl (by assumption) ?_; intro go w1 hS1; clear hS; have hS := hS1; clear hS1)
      | (with_reducible refine wpList_alloc_st (L := [_, _, _]) hS rfl rfl (by assumption) ?_; intro gx w1 hS1; clear hS; have hS := hS1; clear hS1)
      | ((with_reducible refine wpList_loadall_st (L := [_, _, _]) 2 hS rfl rfl rfl rfl ?_ hsc ?_); focus (simp [rowB, go_sem]; done))
      | ((with_reducible refine wpList_storerow_st (L := [_, _, _, _]) 0 (vs := .int .i64 id :: .int .i64 ver :: .int .u32 lab :: flRow f) (n := 27) hS rfl rfl rfl rfl (by kernel_rfl) rfl hcl hco rfl ?_); intro w1 hS1; clear hS; have hS := hS1; clear hS1; try simp only [List.set_cons_zero, List.set_cons_succ, List.setIfInBounds_toArray, List.take_succ_cons, List.take_zero, List.drop_succ_cons, List.drop_zero, List.nil_append, List.cons_append, List.append_nil, List.drop_nil, List.take_nil, List.length_cons, List.length_nil, Nat.zero_add, Nat.add_zero, Nat.reduceAdd] at hS)
      | (with_reducible refine wpList_box_st hS rfl rfl rfl ?_; intro g1 w1 hS1; clear hS; replace hS := hS1; clear hS1) | (with_reducible refine wpList_box1_st hS rfl rfl rfl ?_; intro g1 w1 hS1; clear hS; replace hS := hS1; clear hS1) | (with_reducible refine wpList_alloc_st hS rfl rfl (by assumption) ?_; intro g1 w1 hS1; clear hS; replace hS := hS1; clear hS1) | (with_reducible refine wpList_alloc1_st hS rfl rfl (by assumption) rfl ?_; intro g1 w1 hS1; clear hS; replace hS := hS1; clear hS1) | ((with_reducible refine wpList_load_st 0 hS rfl rfl rfl rfl ?_ rfl ?_); focus (simp [scalarB, go_sem]; done)) | ((with_reducible refine wpList_loadall_st 0 hS rfl rfl rfl rfl ?_ (by kernel_rfl) ?_); focus (simp [rowB, go_sem]; done)) | ((with_reducible refine wpList_store_st 0 hS rfl rfl rfl rfl (by kernel_rfl) rfl rfl ?_); intro w1 hS1; clear hS; replace hS := hS1; clear hS1; try simp only [List.set_cons_zero, List.set_cons_succ, List.setIfInBounds_toArray, List.take_succ_cons, List.take_zero, List.drop_succ_cons, List.drop_zero, List.nil_append, List.cons_append, List.append_nil, List.drop_nil, List.take_nil, List.length_cons, List.length_nil, Nat.zero_add, Nat.add_zero, Nat.reduceAdd] at hS) | ((with_reducible refine wpList_storerow_st 0 hS rfl rfl rfl rfl (by kernel_rfl) rfl rfl rfl rfl ?_); intro w1 hS1; clear hS; replace hS := hS1; clear hS1; try simp only [List.set_cons_zero, List.set_cons_succ, List.setIfInBounds_toArray, List.take_succ_cons, List.take_zero, List.drop_succ_cons, List.drop_zero, List.nil_append, List.cons_append, List.append_nil, List.drop_nil, List.take_nil, List.length_cons, List.length_nil, Nat.zero_add, Nat.add_zero, Nat.reduceAdd] at hS) | ((with_reducible refine wpList_load_st 1 hS rfl rfl rfl rfl ?_ rfl ?_); focus (simp [scalarB, go_sem]; done)) | ((with_reducible refine wpList_loadall_st 1 hS rfl rfl rfl rfl ?_ (by kernel_rfl) ?_); focus (simp [rowB, go_sem]; done)) | ((with_reducible refine wpList_store_st 1 hS rfl rfl rfl rfl (by kernel_rfl) rfl rfl ?_); intro w1 hS1; clear hS; replace hS := hS1; clear hS1; try simp only [List.set_cons_zero, List.set_cons_succ, List.setIfInBounds_toArray, List.take_succ_cons, List.take_zero, List.drop_succ_cons, List.drop_zero, List.nil_append, List.cons_append, List.append_nil, List.drop_nil, List.take_nil, List.length_cons, List.length_nil, Nat.zero_add, Nat.add_zero, Nat.reduceAdd] at hS) | ((with_reducible refine wpList_storerow_st 1 hS rfl rfl rfl rfl (by kernel_rfl) rfl rfl rfl rfl ?_); intro w1 hS1; clear hS; replace hS := hS1; clear hS1; try simp only [List.set_cons_zero, List.set_cons_succ, List.setIfInBounds_toArray, List.take_succ_cons, List.take_zero, List.drop_succ_cons, List.drop_zero, List.nil_append, List.cons_append, List.append_nil, List.drop_nil, List.take_nil, List.length_cons, List.length_nil, Nat.zero_add, Nat.add_zero, Nat.reduceAdd] at hS) | ((with_reducible refine wpList_load_st 2 hS rfl rfl rfl rfl ?_ rfl ?_); focus (simp [scalarB, go_sem]; done)) | ((with_reducible refine wpList_loadall_st 2 hS rfl rfl rfl rfl ?_ (by kernel_rfl) ?_); focus (simp [rowB, go_sem]; done)) | ((with_reducible refine wpList_store_st 2 hS rfl rfl rfl rfl (by kernel_rfl) rfl rfl ?_); intro w1 hS1; clear hS; replace hS := hS1; clear hS1; try simp only [List.set_cons_zero, List.set_cons_succ, List.setIfInBounds_toArray, List.take_succ_cons, List.take_zero, List.drop_succ_cons, List.drop_zero, List.nil_append, List.cons_append, List.append_nil, List.drop_nil, List.take_nil, List.length_cons, List.length_nil, Nat.zero_add, Nat.add_zero, Nat.reduceAdd] at hS) | ((with_reducible refine wpList_storerow_st 2 hS rfl rfl rfl rfl (by kernel_rfl) rfl rfl rfl rfl ?_); intro w1 hS1; clear hS; replace hS := hS1; clear hS1; try simp only [List.set_cons_zero, List.set_cons_succ, List.setIfInBounds_toArray, List.take_succ_cons, List.take_zero, List.drop_succ_cons, List.drop_zero, List.nil_append, List.cons_append, List.append_nil, List.drop_nil, List.take_nil, List.length_cons, List.length_nil, Nat.zero_add, Nat.add_zero, Nat.reduceAdd] at hS) | ((with_reducible refine wpList_load_st 3 hS rfl rfl rfl rfl ?_ rfl ?_); focus (simp [scalarB, go_sem]; done)) | ((with_reducible refine wpList_loadall_st 3 hS rfl rfl rfl rfl ?_ (by kernel_rfl) ?_); focus (simp [rowB, go_sem]; done)) | ((with_reducible refine wpList_store_st 3 hS rfl rfl rfl rfl (by kernel_rfl) rfl rfl ?_); intro w1 hS1; clear hS; replace hS := hS1; clear hS1; try simp only [List.set_cons_zero, List.set_cons_succ, List.setIfInBounds_toArray, List.take_succ_cons, List.take_zero, List.drop_succ_cons, List.drop_zero, List.nil_append, List.cons_append, List.append_nil, List.drop_nil, List.take_nil, List.length_cons, List.length_nil, Nat.zero_add, Nat.add_zero, Nat.reduceAdd] at hS) | ((with_reducible refine wpList_storerow_st 3 hS rfl rfl rfl rfl (by kernel_rfl) rfl rfl rfl rfl ?_); intro w1 hS1; clear hS; replace hS := hS1; clear hS1; try simp only [List.set_cons_zero, List.set_cons_succ, List.setIfInBounds_toArray, List.take_succ_cons, List.take_zero, List.drop_succ_cons, List.drop_zero, List.nil_append, List.cons_append, List.append_nil, List.drop_nil, List.take_nil, List.length_cons, List.length_nil, Nat.zero_add, Nat.add_zero, Nat.reduceAdd] at hS))
    clear hvm2 hvm hvb hv
    obtain ⟨lb, hlb, hS1⟩ : ∃ lb : Nat, Hid (lb = lr) ∧ St w [] [Ch.blk gx 38 (.int .i64 id :: .int .i64 vr :: .int .u32 lb :: flRow f).toArray, Ch.blk go 38 #[.int .i64 0, .int .i64 0, .int .u32 0, .int .i64 0, .int .i64 0, .string ⟨#[]⟩, .int .i64 0, .int .i64 0, .string ⟨#[]⟩, .int .i64 0, .int .i64 0, .string ⟨#[]⟩, .int .i64 0, .int .i64 0, .string ⟨#[]⟩, .int .i64 0, .int .i64 0, .string ⟨#[]⟩, .int .i64 0, .int .i64 0, .string ⟨#[]⟩, .int .i64 0, .int .i64 0, .string ⟨#[]⟩, .int .i64 0, .int .i64 0, .string ⟨#[]⟩], Ch.blk gp 30 (.int .u32 m :: .int .u32 pl :: flRow pf).toArray, Ch.blk gc 38 (.int .i64 id :: .int .i64 ver :: .int .u32 lab :: flRow f).toArray] _ := by
      first
        | exact ⟨pl, Lib.hid (by rw [← hl8.out]; rfl), hS⟩
        | exact ⟨lab, Lib.hid (by rw [← hl8.out]; rfl), hS⟩
    clear hS
    go_loopg [6] 8 (fun gk vx wr => ∃ k : Nat, k + gk = 8 ∧ vx = .int .i64 k ∧ St w [] [Ch.blk gx 38 (.int .i64 id :: .int .i64 vr :: .int .u32 lb :: flRow (putF pf f (bitsTo m k))).toArray, Ch.blk go 38 #[.int .i64 0, .int .i64 0, .int .u32 0, .int .i64 0, .int .i64 0, .string ⟨#[]⟩, .int .i64 0, .int .i64 0, .string ⟨#[]⟩, .int .i64 0, .int .i64 0, .string ⟨#[]⟩, .int .i64 0, .int .i64 0, .string ⟨#[]⟩, .int .i64 0, .int .i64 0, .string ⟨#[]⟩, .int .i64 0, .int .i64 0, .string ⟨#[]⟩, .int .i64 0, .int .i64 0, .string ⟨#[]⟩, .int .i64 0, .int .i64 0, .string ⟨#[]⟩], Ch.blk gp 30 (.int .u32 m :: .int .u32 pl :: flRow pf).toArray, Ch.blk gc 38 (.int .i64 id :: .int .i64 ver :: .int .u32 lab :: flRow f).toArray] wr)
    case atStart => exact ⟨0, Nat.zero_add _, rfl, hS1⟩
    case round =>
      clear hS1
      obtain ⟨k, hkn, rfl, hS⟩ := hrel
      by_cases hlt : k < 8
      · have hnext := bitsTo_next m k
        cases hb : m.testBit k with
        | false =>
          rw [hb, if_neg (by simp)] at hnext
          have cH2 := cH.out k hlt
          rw [hb] at cH2
          replace cH2 := Lib.hid cH2
          replace hnext := Lib.hid hnext
          clear hb
          go_wp2_with (first
            | (go_at_call 30; (with_reducible refine (cH2.out _).mono ?_); rintro _ _ ⟨rfl, rfl⟩)
              | ((with_reducible refine wpList_load_st 2 hS rfl rfl rfl rfl ?_ rfl ?_); focus (simp [scalarB, go_sem]; done)))
          go_roundg (8 - (k + 1))
          case measure => omega
          case rel => exact ⟨k + 1, by omega, by go_num, by rw [hnext.out]; exact hS⟩
        | true =>
          rw [hb, if_pos rfl] at hnext
          have cH2 := cH.out k hlt
          rw [hb] at cH2
          replace cH2 := Lib.hid cH2
          have hput := putF_snoc pf f (bitsTo m k) k
          rw [← hnext] at hput
          have hvf : pf[k]? = some (pf.getD k Vl.zero) := by rw [List.getD_eq_getElem?_getD, List.getElem?_eq_getElem (by omega)]; rfl
          have hpl : (putF pf f (bitsTo m k)).length = 8 := by rw [putF_length]; exact hf
          generalize pf.getD k Vl.zero = v at *
          have hld : ((.int .u32 m :: .int .u32 pl :: flRow pf).toArray.toList.drop (2 + k * 3)).take 3 = vlRow v := fl_at [.int .u32 m, .int .u32 pl] pf k v hvf
          have hst : ((.int .i64 id :: .int .i64 vr :: .int .u32 lb :: flRow (putF pf f (bitsTo m k))).toArray.toList.take (3 + k * 3) ++ vlRow v ++ (.int .i64 id :: .int .i64 vr :: .int .u32 lb :: flRow (putF pf f (bitsTo m k))).toArray.toList.drop (3 + k * 3 + 3)).toArray = (.int .i64 id :: .int .i64 vr :: .int .u32 lb :: flRow (putF pf f (bitsTo m (k + 1)))).toArray := by
            rw [hput]
            exact congrArg List.toArray (fl_put [.int .i64 id, .int .i64 vr, .int .u32 lb] (putF pf f (bitsTo m k)) k v (by omega))
          have hfit : Nat.ble (3 + k * 3 + 3) (Value.int .i64 id :: .int .i64 vr :: .int .u32 lb :: flRow (putF pf f (bitsTo m k))).toArray.size = true := by
            rw [Nat.ble_eq]
            simp only [List.size_toArray, List.length_cons, flRow_length, hpl]
            omega
          replace hld := Lib.hid hld
          replace hst := Lib.hid hst
          replace hfit := Lib.hid hfit
          clear hnext hvf hput hb
          go_wp2_with (first
            | (go_at_call 30; (with_reducible refine (cH2.out _).mono ?_); rintro _ _ ⟨rfl, rfl⟩)
            | ((with_reducible refine wpList_load_st 2 hS rfl rfl rfl rfl ?_ rfl ?_); focus (simp [scalarB, go_sem]; done))
              | ((with_reducible refine wpList_loadrow_st 2 hS rfl rfl rfl rfl ?_ (by kernel_rfl) hld.out rfl ?_); focus (simp [rowB, go_sem]; done))
            | ((with_reducible refine wpList_storerow_st 0 (vs := vlRow v) (n := 3) hS rfl rfl rfl rfl (by kernel_rfl) rfl (vlRow_length v) (vl_one v) hfit.out ?_); intro w1 hS1; clear hS; simp only [List.set_cons_zero, List.set_cons_succ] at hS1; rw [hst.out] at hS1; have hS := hS1; clear hS1))
          go_roundg (8 - (k + 1))
          case measure => omega
          case rel => exact ⟨k + 1, by omega, by go_num, hS⟩
      · obtain rfl : k = 8 := by omega
        have hpl : (putF pf f (bitsTo m 8)).length = 8 := by rw [putF_length]; exact hf
        obtain ⟨q, hq⟩ : ∃ q, putF pf f (bitsTo m 8) = q := ⟨_, rfl⟩
        rw [hq] at hS hpl
        replace hq := Lib.hid hq
        have hsz : (Value.int .i64 id :: .int .i64 vr :: .int .u32 lb :: flRow q).toArray.size = 27 := by
          simp only [List.size_toArray, List.length_cons, flRow_length, hpl]
        have hone : (Value.int .i64 id :: .int .i64 vr :: .int .u32 lb :: flRow q).all Value.oneCell' = true := by
          simp only [List.all_cons, fl_one]
          rfl
        have hlen : (Value.int .i64 id :: .int .i64 vr :: .int .u32 lb :: flRow q).length = 27 := by simpa using hsz
        have hsB : sizeB Tryd.prog 38 (Value.int .i64 id :: .int .i64 vr :: .int .u32 lb :: flRow q).toArray.size = true := by rw [hsz]; kernel_rfl
        go_wp2_with (first
          | ((with_reducible refine wpList_loadall_st 0 hS rfl rfl rfl rfl ?_ hsB ?_); focus (simp [rowB, go_sem]; done))
          | ((with_reducible refine wpList_storerow_st 1 (vs := Value.int .i64 id :: .int .i64 vr :: .int .u32 lb :: flRow q) (n := 27) hS rfl rfl rfl rfl (by kernel_rfl) rfl hlen hone rfl ?_); intro w1 hS1; clear hS; have hS := hS1; clear hS1; try simp only [List.set_cons_zero, List.set_cons_succ, List.setIfInBounds_toArray, List.take_succ_cons, List.take_zero, List.drop_succ_cons, List.drop_zero, List.nil_append, List.cons_append, List.append_nil, List.drop_nil, List.take_nil, List.length_cons, List.length_nil, Nat.zero_add, Nat.add_zero, Nat.reduceAdd] at hS))
        exact bodyPost_ret (v := .agg (Value.int .i64 id :: .int .i64 vr :: .int .u32 lb :: flRow q).toArray) (results_blk Tryd.results13 rfl hS 1 rfl (by kernel_rfl) hsB) rfl ⟨by rw [hlb.out, hq.out], hS.below⟩
theorem rfr_any (id : Int) (p : Pt) (hm : p.mask < 4294967296) (hg : p.f.length = 8) (w : World) :
    Calls Tryd.prog 53 #[.int .i64 id, .agg (ptRow p).toArray] w fun e w' => e = .returned (.agg (cdRow (p.fresh id)).toArray) ∧ Below w.heap.size w w' := by
  have hS := St.start w
  have ec := elem_card
  have cM : ∀ (W : World) (hb : Below w.heap.size w W), Calls Tryd.prog 13 #[.agg #[.int .i64 id, .int .i64 0, .int .u32 0, .int .i64 0, .int .i64 0, .string ⟨#[]⟩, .int .i64 0, .int .i64 0, .string ⟨#[]⟩, .int .i64 0, .int .i64 0, .string ⟨#[]⟩, .int .i64 0, .int .i64 0, .string ⟨#[]⟩, .int .i64 0, .int .i64 0, .string ⟨#[]⟩, .int .i64 0, .int .i64 0, .string ⟨#[]⟩, .int .i64 0, .int .i64 0, .string ⟨#[]⟩, .int .i64 0, .int .i64 0, .string ⟨#[]⟩], .agg (ptRow p).toArray] W fun e w' => e = .returned (.agg (cdRow (p.fresh id)).toArray) ∧ Below W.heap.size W w' :=
    fun W hb => rmg_any (Cd.none id) p hm (by simp [Cd.none]) rfl hg W
  replace cM := Lib.hid cM
  have hpf : (p.fresh id).f.length = 8 := by
    show (putF p.f noF (bitsOf p.mask)).length = 8
    rw [putF_length]
    rfl
  have hcl : (ptRow p).length = 26 := by simp [ptRow, flRow_length, hg]
  have hsc : sizeB Tryd.prog 30 (ptRow p).toArray.size = true := by
    rw [List.size_toArray, hcl]
    kernel_rfl
  have hrl : (cdRow (p.fresh id)).length = 27 := by simp [cdRow, flRow_length, hpf]
  have hro : (cdRow (p.fresh id)).all Value.oneCell' = true := by
    simp only [cdRow, List.all_cons, fl_one]
    rfl
  generalize cdRow (p.fresh id) = RX at cM hrl hro ⊢
  generalize ptRow p = RP at cM hcl hsc ⊢
  go_enter Tryd.func53, Tryd.ntmps53
  go_wp2_with (first
    | (go_at_call 13; (with_reducible refine (cM.out _ hS.below).mono ?_); rintro _ w9 ⟨rfl, hk9⟩; have hS1 := hS.keepB hk9; clear hk9 hS; have hS := hS1; clear hS1)
    | (with_reducible refine wpList_box_st (L := []) hS rfl rfl rfl ?_; intro gc w1 hS1; clear hS; have hS := hS1; clear hS1)
    | (with_reducible refine wpList_alloc_st (L := [_]) hS rfl rfl (by assumption) ?_; intro go w1 hS1; clear hS; have hS := hS1; clear hS1)
    | ((with_reducible refine wpList_loadall_st (L := [_, _]) 1 hS rfl rfl rfl rfl ?_ hsc ?_); focus (simp [rowB, go_sem]; done))
    | ((with_reducible refine wpList_storerow_st 0 (vs := RX) (n := 27) hS rfl rfl rfl rfl (by kernel_rfl) rfl hrl hro rfl ?_); intro w1 hS1; clear hS; have hS := hS1; clear hS1; try simp only [List.set_cons_zero, List.set_cons_succ, List.setIfInBounds_toArray, List.take_succ_cons, List.take_zero, List.drop_succ_cons, List.drop_zero, List.nil_append, List.cons_append, List.append_nil, List.drop_nil, List.take_nil, List.length_cons, List.length_nil, Nat.zero_add, Nat.add_zero, Nat.reduceAdd] at hS))
  exact bodyPost_ret (v := .agg RX.toArray) (results_blk Tryd.results53 rfl hS 0 rfl (by kernel_rfl) (by rw [List.size_toArray, hrl]; kernel_rfl)) rfl ⟨rfl, hS.below⟩
end Go.Proofs.YtneolmnpebiifaaDoor
end

section
/- Values, fields, cards, patches compared. -/
set_option linter.unusedSimpArgs false
set_option linter.unusedVariables false
namespace Go.Ofp
open Go.RowKit
theorem run_part_row {P : Program} {t : TypeId} {n : Nat} (hu : rowB P t = true) (hsz : sizeB P t n = true) (xs : Array Value) (off : Nat) (w : World) : (part t xs off).run P w = .ok (.agg (xs.extract off (off + n))) w := by
  obtain ⟨d, h1, h2, h3⟩ := rowB_spec hu hsz
  obtain ⟨i, hi, hi2⟩ := Option.map_eq_some_iff.1 h3
  have hagg : (isAgg t).run P w = .ok true w := by
    unfold isAgg
    rw [Sem.run_bind, run_underlying h1 w]
    cases d <;> simp_all [TypeDesc.isRow]
  unfold part
  simp [hagg, sizeOf, typeInfo, hi, hi2]
theorem extract_list (l : List Value) (i n : Nat) : l.toArray.extract i (i + n) = ((l.drop i).take n).toArray := by
  apply Array.ext'
  simp
theorem fields_of {P : Program} {t : TypeId} {fs : Array Field} (h : P.underlying t = some (.struct fs)) : P.fieldsOf t = fs := by simp [Program.fieldsOf, h]
theorem ba_beq (a b : ByteArray) : (a.toList == b.toList) = decide (a = b) := by
  rw [ByteArray.toList_eq, ByteArray.toList_eq]
  by_cases h : a = b
  · subst h; simp
  · rw [decide_eq_false h, beq_eq_false_iff_ne]
    intro e
    apply h
    apply ByteArray.ext
    exact Array.ext' e
end Go.Ofp
namespace Go.Proofs.YtneolmnpebiifaaDoor
open Go.RowKit Go.Ofp
set_option linter.unusedVariables false
set_option maxRecDepth 100000
set_option maxHeartbeats 4000000

theorem eq_vl (d : Nat) (p q : Vl) (w : World) : (Op.equalIn (d + 2) 27 (.agg (vlRow p).toArray) (.agg (vlRow q).toArray)).run Tryd.prog w = .ok (decide (p = q)) w := by
  have hp : Tryd.prog.stoodInHeld 27 = false := by kernel_rfl
  have hf := fields_of Tryd.underlying27
  have hu : Tryd.prog.underlying 27 = some (.struct (Tryd.prog.fieldsOf 27)) := by rw [hf, Tryd.underlying27]
  rw [run_equalIn_struct w (d + 1) _ _ _ hu hp, hf]
  obtain ⟨a, b, c⟩ := p
  obtain ⟨a', b', c'⟩ := q
  have h3 := Tryd.underlying3
  have h9 := Tryd.underlying9
  have hb := ba_beq c c'
  simp only [vlRow]
  go_simp
  by_cases h1 : a = a'
  · by_cases h2 : b = b'
    · by_cases h3 : c = c' <;> simp_all
    · simp_all
  · simp_all
theorem eq_items (d : Nat) (f g : List Vl) (hl : f.length = g.length) (w : World) : ∀ m k, k + m = f.length → (Op.eqItems (d + 2) 27 3 (flRow f).toArray (flRow g).toArray (List.range' k m)).run Tryd.prog w = .ok (decide (f.drop k = g.drop k)) w := by
  intro m
  induction m with
  | zero =>
    intro k hk
    rw [List.drop_of_length_le (by omega), List.drop_of_length_le (by omega)]
    simp [Op.eqItems]
  | succ m ih =>
    intro k hk
    rw [List.range'_succ]
    have p1 := run_part_row (P := Tryd.prog) (t := 27) (n := 3) (by kernel_rfl) (by kernel_rfl) (flRow f).toArray (k * 3) w
    have p2 := run_part_row (P := Tryd.prog) (t := 27) (n := 3) (by kernel_rfl) (by kernel_rfl) (flRow g).toArray (k * 3) w
    have q1 := fl_at [] f k f[k] (List.getElem?_eq_getElem (by omega))
    have q2 := fl_at [] g k (g[k]'(by omega)) (List.getElem?_eq_getElem (by omega))
    simp only [List.nil_append, List.length_nil, Nat.zero_add] at q1 q2
    rw [extract_list, q1] at p1
    rw [extract_list, q2] at p2
    have p3 := eq_vl d f[k] (g[k]'(by omega)) w
    simp only [Op.eqItems, Sem.run_bind, p1, p2, p3, Result.andThen_ok]
    have hi := ih (k + 1) (by omega)
    have hd : (f.drop k = g.drop k) ↔ (f[k] = g[k]'(by omega) ∧ f.drop (k + 1) = g.drop (k + 1)) := by
      rw [List.drop_eq_getElem_cons (show k < f.length by omega), List.drop_eq_getElem_cons (show k < g.length by omega), List.cons.injEq]
    by_cases h : f[k] = g[k]'(by omega)
    · rw [decide_eq_true h]
      simp only [Bool.not_true, Bool.false_eq_true, if_false]
      rw [hi]
      congr 1
      rw [decide_eq_decide, hd]
      exact ⟨fun e => ⟨h, e⟩, fun e => e.2⟩
    · rw [decide_eq_false h, decide_eq_false (fun e => h (hd.1 e).1)]
      rfl
theorem eq_fl (d : Nat) (f g : List Vl) (hf : f.length = 8) (hg : g.length = 8) (w : World) : (Op.equalIn (d + 3) 28 (.agg (flRow f).toArray) (.agg (flRow g).toArray)).run Tryd.prog w = .ok (decide (f = g)) w := by
  obtain ⟨i, hi, -⟩ := elem_value
  have hc : Tryd.prog.cellsOf 27 = 3 := by kernel_rfl
  rw [run_equalIn_array w (d + 2) _ _ Tryd.underlying28 hi, hc, List.range_eq_range']
  exact eq_items d f g (by omega) w 8 0 (by omega)
theorem eq_cd (d : Nat) (p q : Cd) (hf : p.f.length = 8) (hg : q.f.length = 8) (w : World) : (Op.equalIn (d + 4) 38 (.agg (cdRow p).toArray) (.agg (cdRow q).toArray)).run Tryd.prog w = .ok (decide (p = q)) w := by
  have hp : Tryd.prog.stoodInHeld 38 = false := by kernel_rfl
  have hff := fields_of Tryd.underlying38
  have hu : Tryd.prog.underlying 38 = some (.struct (Tryd.prog.fieldsOf 38)) := by rw [hff, Tryd.underlying38]
  rw [run_equalIn_struct w (d + 3) _ _ _ hu hp, hff]
  obtain ⟨a, b, c, f⟩ := p
  obtain ⟨a', b', c', g⟩ := q
  simp only at hf hg
  have e3 := eq_fl d f g hf hg w
  have t1 : (flRow f).take 24 = flRow f := List.take_of_length_le (by rw [flRow_length]; omega)
  have t2 : (flRow g).take 24 = flRow g := List.take_of_length_le (by rw [flRow_length]; omega)
  have h3 := Tryd.underlying3
  have h9 := Tryd.underlying25
  simp only [cdRow]
  go_simp
  simp only [t1, t2, e3, Int.natCast_inj, Result.andThen_ok]
  by_cases k1 : a = a'
  · by_cases k2 : b = b'
    · by_cases k3 : c = c'
      · by_cases k4 : f = g <;> simp [k1, k2, k3, k4]
      · simp [k1, k2, k3]
    · simp [k1, k2]
  · simp [k1]
/-! ### The walk's facts -/
theorem eql_vl (p q : Vl) (w : World) : (binOp .eql 27 (.agg (vlRow p).toArray) (.agg (vlRow q).toArray)).run Tryd.prog w = .ok (.bool (decide (p = q))) w := by
  rw [run_eql_struct, eq_vl 9998 p q w]
  rfl
theorem neq_vl (p q : Vl) (w : World) : (binOp .neq 27 (.agg (vlRow p).toArray) (.agg (vlRow q).toArray)).run Tryd.prog w = .ok (.bool (!decide (p = q))) w := by
  rw [run_neq_struct, eq_vl 9998 p q w]
  rfl
theorem eql_cd (p q : Cd) (hf : p.f.length = 8) (hg : q.f.length = 8) (w : World) : (binOp .eql 38 (.agg (cdRow p).toArray) (.agg (cdRow q).toArray)).run Tryd.prog w = .ok (.bool (decide (p = q))) w := by
  rw [run_eql_struct, eq_cd 9996 p q hf hg w]
  rfl
theorem neq_cd (p q : Cd) (hf : p.f.length = 8) (hg : q.f.length = 8) (w : World) : (binOp .neq 38 (.agg (cdRow p).toArray) (.agg (cdRow q).toArray)).run Tryd.prog w = .ok (.bool (!decide (p = q))) w := by
  rw [run_neq_struct, eq_cd 9996 p q hf hg w]
  rfl
theorem guard_vl (op : BinOp) (x y : Operand) (xs ys : Array Value) (w : World) : (eqGuard op 27 x y (.agg xs) (.agg ys)).run Tryd.prog w = .ok () w :=
  run_eqGuard_agg w op _ x y xs ys (by kernel_rfl)
theorem guard_cd (op : BinOp) (x y : Operand) (xs ys : Array Value) (w : World) : (eqGuard op 38 x y (.agg xs) (.agg ys)).run Tryd.prog w = .ok () w :=
  run_eqGuard_agg w op _ x y xs ys (by kernel_rfl)
end Go.Proofs.YtneolmnpebiifaaDoor
end
