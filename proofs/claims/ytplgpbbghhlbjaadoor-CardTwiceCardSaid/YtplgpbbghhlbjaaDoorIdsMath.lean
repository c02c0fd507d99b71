/- Lists of numbers that rise: the plain law. -/
import Derived.Test.YtplgpbbghhlbjaaDoorBase
set_option linter.unusedSimpArgs false
set_option linter.unusedVariables false
namespace Go.Ofp.Ids

/-- Does a list rise above a number, and stay below the bound? -/
def chkFrom : Int → List Int → Bool
  | _, [] => true
  | last, x :: l => decide (last < x) && (decide (x < 1073741824) && chkFrom x l)
def chk (l : List Int) : Bool := chkFrom 0 l

/-- Strictly rising. -/
def Up (l : List Int) : Prop := l.Pairwise (· < ·)
def Rise (l : List Int) : Prop := Up l ∧ ∀ x ∈ l, 1 ≤ x ∧ x < 1073741824

theorem chkFrom_iff (l : List Int) : ∀ last : Int, chkFrom last l = true ↔ Up l ∧ ∀ x ∈ l, last < x ∧ x < 1073741824 := by
  induction l with
  | nil => intro last; simp [chkFrom, Up]
  | cons x l ih =>
    intro last
    simp only [chkFrom, Bool.and_eq_true, decide_eq_true_eq, ih x, Up, List.pairwise_cons, List.mem_cons, forall_eq_or_imp]
    constructor
    · rintro ⟨h1, h2, h3, h4⟩
      exact ⟨⟨fun y hy => (h4 y hy).1, h3⟩, ⟨h1, h2⟩, fun y hy => ⟨by have := (h4 y hy).1; omega, (h4 y hy).2⟩⟩
    · rintro ⟨⟨h1, h2⟩, ⟨h3, h4⟩, h5⟩
      exact ⟨h3, h4, h2, fun y hy => ⟨h1 y hy, (h5 y hy).2⟩⟩

theorem chk_iff (l : List Int) : chk l = true ↔ Rise l := by
  unfold chk Rise
  rw [chkFrom_iff]
  constructor
  · rintro ⟨h1, h2⟩; exact ⟨h1, fun x hx => by have := h2 x hx; omega⟩
  · rintro ⟨h1, h2⟩; exact ⟨h1, fun x hx => by have := h2 x hx; omega⟩

/-- Two lists that rise and have the same are the same. -/
theorem up_ext : ∀ (l m : List Int), Up l → Up m → (∀ x, x ∈ l ↔ x ∈ m) → l = m
  | [], [], _, _, _ => rfl
  | [], y :: m, _, _, h => by have := (h y).2 (by simp); simp at this
  | x :: l, [], _, _, h => by have := (h x).1 (by simp); simp at this
  | x :: l, y :: m, hl, hm, h => by
    unfold Up at hl hm
    rw [List.pairwise_cons] at hl hm
    have exy : x = y := by
      have h1 := (h x).1 (by simp)
      have h2 := (h y).2 (by simp)
      simp only [List.mem_cons] at h1 h2
      rcases h1 with h1 | h1
      · exact h1
      · rcases h2 with h2 | h2
        · exact h2.symm
        · have := hm.1 x h1; have := hl.1 y h2; omega
    subst exy
    rw [up_ext l m hl.2 hm.2]
    intro z
    constructor
    · intro hz
      have := (h z).1 (by simp [hz])
      simp only [List.mem_cons] at this
      rcases this with rfl | this
      · have := hl.1 z hz; omega
      · exact this
    · intro hz
      have := (h z).2 (by simp [hz])
      simp only [List.mem_cons] at this
      rcases this with rfl | this
      · have := hm.1 z hz; omega
      · exact this

/-- How many are below a number. -/
def place (l : List Int) (id : Int) : Nat := (l.filter (· < id)).length
def has (l : List Int) (id : Int) : Bool := l.contains id
def put (l : List Int) (id : Int) : List Int :=
  if id < 1 ∨ 1073741824 ≤ id ∨ has l id = true then l else l.take (place l id) ++ id :: l.drop (place l id)
def drop (l : List Int) (id : Int) : List Int := l.filter (· ≠ id)
def after (l : List Int) (id : Int) : List Int := l.filter (id < ·)
def both (a b : List Int) : List Int := a.filter fun x => has b x
def minus (a b : List Int) : List Int := a.filter fun x => !has b x
def either (a b : List Int) : List Int := b.foldl put a

@[simp] theorem has_iff (l : List Int) (x : Int) : has l x = true ↔ x ∈ l := by simp [has]

theorem up_filter (l : List Int) (p : Int → Bool) (h : Up l) : Up (l.filter p) := List.Pairwise.filter p h
theorem rise_filter (l : List Int) (p : Int → Bool) (h : Rise l) : Rise (l.filter p) :=
  ⟨up_filter l p h.1, fun x hx => h.2 x ((List.mem_filter.1 hx).1)⟩

theorem up_split (l : List Int) (id : Int) (h : Up l) : (l.filter (· < id)) = l.take (place l id) ∧ (l.filter (fun x => !decide (x < id))) = l.drop (place l id) := by
  unfold place
  induction l with
  | nil => simp
  | cons x l ih =>
    unfold Up at h
    rw [List.pairwise_cons] at h
    by_cases hx : x < id
    · have := ih h.2
      simp only [List.filter_cons, hx, decide_true, if_true, List.length_cons, List.take_succ_cons, List.drop_succ_cons, Bool.not_true, Bool.false_eq_true, if_false]
      exact ⟨congrArg _ this.1, this.2⟩
    · have e1 : l.filter (· < id) = [] := by
        rw [List.filter_eq_nil_iff]
        intro y hy
        have := h.1 y hy
        simp; omega
      have e2 : l.filter (fun x => !decide (x < id)) = l := by
        rw [List.filter_eq_self]
        intro y hy
        have := h.1 y hy
        simp; omega
      simp [hx, e1, e2]

theorem up_take_drop (l : List Int) (id : Int) (h : Up l) : (∀ x, x ∈ l.take (place l id) ↔ x ∈ l ∧ x < id) ∧ (∀ x, x ∈ l.drop (place l id) ↔ x ∈ l ∧ id ≤ x) := by
  obtain ⟨h1, h2⟩ := up_split l id h
  rw [← h1, ← h2]
  constructor
  · intro x; simp
  · intro x; simp

theorem mem_put (l : List Int) (id x : Int) (h : Up l) (h1 : 1 ≤ id) (h2 : id < 1073741824) : x ∈ put l id ↔ x = id ∨ x ∈ l := by
  unfold put
  split
  · rename_i hc
    rcases hc with hc | hc | hc
    · omega
    · omega
    · rw [has_iff] at hc
      constructor
      · exact Or.inr
      · rintro (rfl | h)
        · exact hc
        · exact h
  · obtain ⟨k1, k2⟩ := up_take_drop l id h
    simp only [List.mem_append, List.mem_cons, k1, k2]
    constructor
    · rintro (⟨h, _⟩ | h | ⟨h, _⟩)
      · exact .inr h
      · exact .inl h
      · exact .inr h
    · rintro (h | h)
      · exact .inr (.inl h)
      · by_cases hx : x < id
        · exact .inl ⟨h, hx⟩
        · exact .inr (.inr ⟨h, by omega⟩)

theorem up_put (l : List Int) (id : Int) (h : Up l) : Up (put l id) := by
  unfold put
  split
  · exact h
  · rename_i hc
    obtain ⟨k1, k2⟩ := up_take_drop l id h
    have hn : id ∉ l := by intro hm; exact hc (.inr (.inr ((has_iff _ _).2 hm)))
    unfold Up at h ⊢
    rw [List.pairwise_append]
    refine ⟨h.sublist (List.take_sublist _ _), ?_, ?_⟩
    · rw [List.pairwise_cons]
      refine ⟨fun y hy => ?_, h.sublist (List.drop_sublist _ _)⟩
      have := (k2 y).1 hy
      have : y ≠ id := fun e => hn (e ▸ this.1)
      omega
    · intro x hx y hy
      have hx' := (k1 x).1 hx
      simp only [List.mem_cons] at hy
      rcases hy with rfl | hy
      · exact hx'.2
      · have := (k2 y).1 hy; omega

theorem rise_put (l : List Int) (id : Int) (h : Rise l) : Rise (put l id) := by
  by_cases hv : 1 ≤ id ∧ id < 1073741824
  · refine ⟨up_put l id h.1, fun x hx => ?_⟩
    rcases (mem_put l id x h.1 hv.1 hv.2).1 hx with rfl | hx
    · exact hv
    · exact h.2 x hx
  · have : put l id = l := by unfold put; rw [if_pos]; omega
    rw [this]; exact h

theorem put_length (l : List Int) (id : Int) : (put l id).length ≤ l.length + 1 := by
  unfold put
  split
  · omega
  · simp; omega

theorem either_spec (b : List Int) : ∀ a, Rise a → Rise b → Rise (either a b) ∧ ∀ x, x ∈ either a b ↔ x ∈ a ∨ x ∈ b := by
  unfold either
  induction b with
  | nil => intro a ha _; exact ⟨ha, by simp⟩
  | cons y b ih =>
    intro a ha hb
    have hy := hb.2 y (by simp)
    have hb' : Rise b := ⟨(List.pairwise_cons.1 hb.1).2, fun x hx => hb.2 x (by simp [hx])⟩
    obtain ⟨h1, h2⟩ := ih (put a y) (rise_put a y ha) hb'
    refine ⟨h1, fun x => ?_⟩
    rw [List.foldl_cons, h2, mem_put a y x ha.1 hy.1 hy.2, List.mem_cons]
    constructor
    · rintro ((h | h) | h)
      · exact .inr (.inl h)
      · exact .inl h
      · exact .inr (.inr h)
    · rintro (h | h | h)
      · exact .inl (.inr h)
      · exact .inl (.inl h)
      · exact .inr h

/-- The program's way along two lists. -/
def takes (k : Bool) (x : Int) : List Int := if k then [x] else []
def takeAll (k : Bool) (l : List Int) : List Int := if k then l else []
theorem mem_takeAll (k : Bool) (l : List Int) (z : Int) : z ∈ takeAll k l ↔ k = true ∧ z ∈ l := by cases k <;> simp [takeAll]
theorem up_takeAll (k : Bool) (l : List Int) (h : Up l) : Up (takeAll k l) := by cases k <;> simp [takeAll, Up] ; exact h
def along (kl kb kr : Bool) : List Int → List Int → List Int
  | [], b => takeAll kr b
  | x :: a, [] => takeAll kl (x :: a)
  | x :: a, y :: b =>
    if x < y then takes kl x ++ along kl kb kr a (y :: b)
    else if y < x then takes kr y ++ along kl kb kr (x :: a) b
    else takes kb x ++ along kl kb kr a b
termination_by a b => a.length + b.length

theorem mem_takes (k : Bool) (x z : Int) : z ∈ takes k x ↔ k = true ∧ z = x := by cases k <;> simp [takes]

theorem along_spec (kl kb kr : Bool) (a b : List Int) (ha : Up a) (hb : Up b) :
    Up (along kl kb kr a b) ∧ ∀ z, z ∈ along kl kb kr a b ↔ (z ∈ a ∧ z ∉ b ∧ kl = true) ∨ (z ∈ a ∧ z ∈ b ∧ kb = true) ∨ (z ∉ a ∧ z ∈ b ∧ kr = true) := by
  fun_induction along kl kb kr a b with
  | case1 b => exact ⟨up_takeAll _ _ hb, fun z => by rw [mem_takeAll]; simp [And.comm]⟩
  | case2 x a => exact ⟨up_takeAll _ _ ha, fun z => by rw [mem_takeAll]; simp [And.comm]⟩
  | case3 x a y b hxy ih =>
    have ha' := List.pairwise_cons.1 ha
    have hb' := List.pairwise_cons.1 hb
    obtain ⟨h1, h2⟩ := ih ha'.2 hb
    have hlow : ∀ z, z ∈ along kl kb kr a (y :: b) → x < z := by
      intro z hz
      rcases (h2 z).1 hz with h | h | h
      · exact ha'.1 z h.1
      · exact ha'.1 z h.1
      · rcases List.mem_cons.1 h.2.1 with rfl | h
        · exact hxy
        · have := hb'.1 z h; omega
    refine ⟨?_, fun z => ?_⟩
    · cases kl
      · simpa [takes] using h1
      · simp only [takes, if_true, List.singleton_append]
        exact List.pairwise_cons.2 ⟨hlow, h1⟩
    · rw [List.mem_append, mem_takes, h2]
      have hnx : x ∉ y :: b := by
        intro h
        rcases List.mem_cons.1 h with rfl | h
        · omega
        · have := hb'.1 x h; omega
      have hxa : x ∉ a := fun h => by have := ha'.1 x h; omega
      by_cases hz : z = x
      · subst hz; simp [hnx, hxa]
      · simp [hz]
  | case4 x a y b hxy hyx ih =>
    have ha' := List.pairwise_cons.1 ha
    have hb' := List.pairwise_cons.1 hb
    obtain ⟨h1, h2⟩ := ih ha hb'.2
    have hlow : ∀ z, z ∈ along kl kb kr (x :: a) b → y < z := by
      intro z hz
      have hax : z ∈ x :: a → y < z := fun h => by
        rcases List.mem_cons.1 h with rfl | h
        · exact hyx
        · have := ha'.1 z h; omega
      rcases (h2 z).1 hz with h | h | h
      · exact hax h.1
      · exact hax h.1
      · exact hb'.1 z h.2.1
    refine ⟨?_, fun z => ?_⟩
    · cases kr
      · simpa [takes] using h1
      · simp only [takes, if_true, List.singleton_append]
        exact List.pairwise_cons.2 ⟨hlow, h1⟩
    · rw [List.mem_append, mem_takes, h2]
      have hny : y ∉ x :: a := by
        intro h
        rcases List.mem_cons.1 h with rfl | h
        · omega
        · have := ha'.1 y h; omega
      have hyb : y ∉ b := fun h => by have := hb'.1 y h; omega
      by_cases hz : z = y
      · subst hz; simp [hny, hyb]
      · simp [hz]
  | case5 x a y b hxy hyx ih =>
    have ha' := List.pairwise_cons.1 ha
    have hb' := List.pairwise_cons.1 hb
    obtain rfl : x = y := by omega
    obtain ⟨h1, h2⟩ := ih ha'.2 hb'.2
    have hlow : ∀ z, z ∈ along kl kb kr a b → x < z := by
      intro z hz
      rcases (h2 z).1 hz with h | h | h
      · exact ha'.1 z h.1
      · exact ha'.1 z h.1
      · exact hb'.1 z h.2.1
    refine ⟨?_, fun z => ?_⟩
    · cases kb
      · simpa [takes] using h1
      · simp only [takes, if_true, List.singleton_append]
        exact List.pairwise_cons.2 ⟨hlow, h1⟩
    · rw [List.mem_append, mem_takes, h2]
      have hxa : x ∉ a := fun h => by have := ha'.1 x h; omega
      have hxb : x ∉ b := fun h => by have := hb'.1 x h; omega
      by_cases hz : z = x
      · subst hz; simp [hxa, hxb]
      · simp [hz]

theorem along_both (a b : List Int) (ha : Up a) (hb : Up b) : along false true false a b = both a b := by
  obtain ⟨h1, h2⟩ := along_spec false true false a b ha hb
  refine up_ext _ _ h1 (up_filter _ _ ha) fun x => ?_
  rw [h2]; simp [both]
theorem along_minus (a b : List Int) (ha : Up a) (hb : Up b) : along true false false a b = minus a b := by
  obtain ⟨h1, h2⟩ := along_spec true false false a b ha hb
  refine up_ext _ _ h1 (up_filter _ _ ha) fun x => ?_
  rw [h2]; simp [minus, has]
theorem along_either (a b : List Int) (ha : Rise a) (hb : Rise b) : along true true true a b = either a b := by
  obtain ⟨h1, h2⟩ := along_spec true true true a b ha.1 hb.1
  obtain ⟨k1, k2⟩ := either_spec b a ha hb
  refine up_ext _ _ h1 k1.1 fun x => ?_
  rw [h2, k2]
  by_cases hx : x ∈ a <;> by_cases hy : x ∈ b <;> simp [hx, hy]

theorem along_length (a b : List Int) : (along true true true a b).length + (along false true false a b).length = a.length + b.length := by
  fun_induction along true true true a b with
  | case1 b => simp [along, takeAll]
  | case2 x a => simp [along, takeAll]
  | case3 x a y b hxy ih => rw [along, if_pos hxy]; simp [takes] at ih ⊢; omega
  | case4 x a y b hxy hyx ih => rw [along, if_neg hxy, if_pos hyx]; simp [takes] at ih ⊢; omega
  | case5 x a y b hxy hyx ih => rw [along, if_neg hxy, if_neg hyx]; simp [takes] at ih ⊢; omega

theorem along_len_le (kl kb kr : Bool) (a b : List Int) : (along kl kb kr a b).length ≤ a.length + b.length := by
  fun_induction along kl kb kr a b with
  | case1 b => cases kr <;> simp [takeAll]
  | case2 x a => cases kl <;> simp [takeAll]
  | case3 x a y b hxy ih => cases kl <;> simp [takes] at ih ⊢ <;> omega
  | case4 x a y b hxy hyx ih => cases kr <;> simp [takes] at ih ⊢ <;> omega
  | case5 x a y b hxy hyx ih => cases kb <;> simp [takes] at ih ⊢ <;> omega

theorem rise_both {a b : List Int} (h : Rise a) : Rise (both a b) := rise_filter _ _ h
theorem rise_minus {a b : List Int} (h : Rise a) : Rise (minus a b) := rise_filter _ _ h

theorem parts (a b : List Int) (ha : Rise a) (hb : Rise b) : either (both a b) (either (minus a b) (minus b a)) = either b a := by
  obtain ⟨h1, h2⟩ := either_spec (minus b a) (minus a b) (rise_minus ha) (rise_minus hb)
  obtain ⟨h3, h4⟩ := either_spec _ (both a b) (rise_both ha) h1
  obtain ⟨h5, h6⟩ := either_spec a b hb ha
  refine up_ext _ _ h3.1 h5.1 fun x => ?_
  rw [h4, h2, h6]
  by_cases hx : x ∈ a <;> by_cases hy : x ∈ b <;> simp [both, minus, has, hx, hy]

theorem either_comm (a b : List Int) (ha : Rise a) (hb : Rise b) : either a b = either b a := by
  obtain ⟨h1, h2⟩ := either_spec b a ha hb
  obtain ⟨h5, h6⟩ := either_spec a b hb ha
  exact up_ext _ _ h1.1 h5.1 fun x => by rw [h2, h6]; exact Or.comm

theorem parts_length (a b : List Int) (ha : Rise a) (hb : Rise b) : (either (both a b) (either (minus a b) (minus b a))).length + (both a b).length = a.length + b.length := by
  rw [parts a b ha hb, ← either_comm a b ha hb, ← along_either a b ha hb, ← along_both a b ha.1 hb.1]
  exact along_length a b

theorem drop_put (l : List Int) (id : Int) (h : Rise l) (hn : id ∉ l) : drop (put l id) id = l := by
  by_cases hv : 1 ≤ id ∧ id < 1073741824
  · refine up_ext _ _ (up_filter _ _ (up_put l id h.1)) h.1 fun x => ?_
    unfold drop
    rw [List.mem_filter, mem_put l id x h.1 hv.1 hv.2]
    by_cases hx : x = id
    · subst hx; simp [hn]
    · simp [hx]
  · have : put l id = l := by unfold put; rw [if_pos]; omega
    rw [this]
    unfold drop
    rw [List.filter_eq_self]
    intro x hx
    simp only [ne_eq, decide_not, Bool.not_eq_eq_eq_not, Bool.not_true, decide_eq_false_iff_not]
    intro e
    exact hn (e ▸ hx)

theorem put_drop (l : List Int) (id : Int) (h : Rise l) (hn : id ∈ l) : put (drop l id) id = l := by
  have hv := h.2 id hn
  refine up_ext _ _ (up_put _ id (up_filter _ _ h.1)) h.1 fun x => ?_
  rw [mem_put (drop l id) id x (up_filter _ _ h.1) hv.1 hv.2]
  unfold drop
  rw [List.mem_filter]
  by_cases hx : x = id
  · subst hx; simp [hn]
  · simp [hx]

theorem drop_minus (l : List Int) (id : Int) : minus l [id] = drop l id := by
  unfold minus drop has
  congr 1
  funext x
  simp only [List.contains_cons, List.contains_nil, Bool.or_false, ne_eq, decide_not]
  by_cases h : x = id <;> simp [h]

end Go.Ofp.Ids
