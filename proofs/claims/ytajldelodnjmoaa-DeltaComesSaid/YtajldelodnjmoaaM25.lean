/- Texts laid together: TransTwice DeltaMath DeltaCome. -/
import Derived.Test.YtajldelodnjmoaaM23
import Derived.Test.YtajldelodnjmoaaM24
import Derived.Test.YtajldelodnjmoaaM6
section
/- The law TransTwice. -/
set_option linter.unusedSimpArgs false
set_option linter.unusedVariables false
namespace Go.Ofp
open Go.RowKit
theorem Lst.takeL {α : Type} {row : α → List Value} {In : α → Prop} {w : World} {a : Option Addr} {n c : Nat} {l : List α} (h : Lst row In w a n c l) (k : Nat) (hk : k ≤ n) : Lst row In w a k c (l.take k) := by
  refine ⟨?_, by rw [List.length_take, h.len]; omega, Nat.le_trans hk h.le, h.cm, fun x hx => h.mem x (List.mem_of_mem_take hx)⟩
  have e : (l.map row).flatten = ((l.take k).map row).flatten ++ ((l.drop k).map row).flatten := by rw [← List.flatten_append, ← List.map_append, List.take_append_drop]
  have := h.sl
  rw [e] at this
  exact this.left
theorem Lst.none {α : Type} {row : α → List Value} {In : α → Prop} (w : World) (a : Option Addr) : Lst row In w a 0 0 [] := ⟨Sl.nil _ _, rfl, Nat.le_refl _, by decide, by simp⟩
end Go.Ofp
namespace Go.Proofs.Ytajldelodnjmoaa
open Go.RowKit Go.Ofp
set_option linter.unusedVariables false
set_option maxRecDepth 100000
set_option maxHeartbeats 4000000

theorem apR_any {P : Program} {T : TypeId} {row : Cd → List Value} {o : Option (List Cd)} {e : Ending} {w w' : World} (h : ApR P T row o e w w') : ∃ a n c x, e = .returned (.tuple #[.slice a n c, .bool x]) ∧ Below w.heap.size w w' := by
  cases o with
  | none => exact ⟨none, 0, 0, false, h.1, h.2⟩
  | some m =>
    obtain ⟨a, c, h1, h2⟩ := h
    exact ⟨a, _, c, true, h1, h2.below⟩

end Go.Proofs.Ytajldelodnjmoaa
end

section
/- Turns cut into pages: plain law. -/
set_option linter.unusedSimpArgs false
set_option linter.unusedVariables false
namespace Go.Ofp

def upB (fr til cur : Int) (t : Tn) : Bool := decide (fr < t.seq ∧ t.seq ≤ til ∧ t.id ≤ cur)
def upL (l : List Tn) (fr til cur : Int) : List Tn := l.filter (upB fr til cur)
def RisT (l : List Tn) : Prop := l.Pairwise fun a b => a.seq < b.seq

section
variable {ok : Cd → Bool}
theorem goes_rising : ∀ (p l : List Tn), goes ok p l = true → RisT l ∧ ∀ t ∈ l, seqOf p < t.seq
  | _, [], _ => ⟨List.Pairwise.nil, by simp⟩
  | p, t :: r, h => by
    simp only [goes, nextOk, Bool.and_eq_true, decide_eq_true_eq] at h
    obtain ⟨⟨⟨-, h1⟩, -⟩, h2⟩ := h
    obtain ⟨k1, k2⟩ := goes_rising (p ++ [t]) r h2
    rw [seqOf_snoc] at k2
    refine ⟨List.pairwise_cons.2 ⟨k2, k1⟩, fun u hu => ?_⟩
    rcases List.mem_cons.1 hu with rfl | hu
    · exact h1
    · have := k2 u hu; omega
/-- Those up to a cursor go on. -/
theorem goes_ids (cur : Int) : ∀ (q p l : List Tn), seqOf p ≤ seqOf q → (∀ id, id ≤ cur → lastOf p id = lastOf q id) → goes ok q l = true → goes ok p (l.filter fun t => decide (t.id ≤ cur)) = true
  | _, _, [], _, _, _ => rfl
  | q, p, t :: r, hs, hl, h => by
    simp only [goes, nextOk, Bool.and_eq_true, decide_eq_true_eq] at h
    obtain ⟨⟨⟨m1, m2⟩, m3⟩, h2⟩ := h
    by_cases hc : t.id ≤ cur
    · rw [List.filter_cons_of_pos (by simpa using hc)]
      simp only [goes, nextOk, Bool.and_eq_true, decide_eq_true_eq]
      refine ⟨⟨⟨m1, by omega⟩, by rw [hl _ hc]; exact m3⟩, goes_ids cur (q ++ [t]) (p ++ [t]) r (by rw [seqOf_snoc, seqOf_snoc]; exact Int.le_refl _) (fun id hid => ?_) h2⟩
      rw [lastOf_snoc, lastOf_snoc, hl id hid]
    · rw [List.filter_cons_of_neg (by simpa using hc)]
      refine goes_ids cur (q ++ [t]) p r (by rw [seqOf_snoc]; omega) (fun id hid => ?_) h2
      rw [lastOf_snoc, if_neg (by omega), hl id hid]
end

/-- In rising turns, those up to a step stand first. -/
theorem up_take : ∀ (l : List Tn) (s : Int), RisT l → ∃ j, j ≤ l.length ∧ l.filter (fun t => decide (t.seq ≤ s)) = l.take j ∧ (∀ t ∈ l.take j, t.seq ≤ s) ∧ ∀ t ∈ l.drop j, s < t.seq
  | [], _, _ => ⟨0, Nat.le_refl _, rfl, by simp, by simp⟩
  | t :: r, s, h => by
    obtain ⟨h1, h2⟩ := List.pairwise_cons.1 h
    by_cases hs : t.seq ≤ s
    · obtain ⟨j, j1, j2, j3, j4⟩ := up_take r s h2
      refine ⟨j + 1, by simpa using j1, by rw [List.filter_cons_of_pos (by simpa using hs), j2]; rfl, fun u hu => ?_, by simpa using j4⟩
      simp only [List.take_succ_cons, List.mem_cons] at hu
      rcases hu with rfl | hu
      · exact hs
      · exact j3 u hu
    · refine ⟨0, Nat.zero_le _, ?_, by simp, fun u hu => ?_⟩
      · rw [List.take_zero, List.filter_eq_nil_iff]
        intro u hu
        rcases List.mem_cons.1 hu with rfl | hu
        · simpa using hs
        · have := h1 u hu; simp; omega
      · rcases List.mem_cons.1 hu with rfl | hu
        · omega
        · have := h1 u hu; omega
theorem up_split (l : List Tn) (fr til cur : Int) : upL l fr til cur = ((l.filter fun t => decide (fr < t.seq)).filter fun t => decide (t.seq ≤ til)).filter fun t => decide (t.id ≤ cur) := by
  unfold upL
  rw [List.filter_filter, List.filter_filter]
  congr 1
  funext t
  unfold upB
  by_cases h1 : fr < t.seq <;> by_cases h2 : t.seq ≤ til <;> by_cases h3 : t.id ≤ cur <;> simp [h1, h2, h3]
theorem up_less (l : List Tn) (fr til s cur : Int) (h : s ≤ til) : upL l fr s cur = (upL l fr til cur).filter fun t => decide (t.seq ≤ s) := by
  unfold upL
  rw [List.filter_filter]
  congr 1
  funext t
  unfold upB
  by_cases h2 : t.seq ≤ s
  · have : t.seq ≤ til := by omega
    simp [h2, this]
  · simp [h2]
theorem up_more (l : List Tn) (fr til s cur : Int) (h : fr ≤ s) : upL l s til cur = (upL l fr til cur).filter fun t => decide (s < t.seq) := by
  unfold upL
  rw [List.filter_filter]
  congr 1
  funext t
  unfold upB
  by_cases h2 : s < t.seq
  · have : fr < t.seq := by omega
    simp [h2, this]
  · simp [h2]
theorem risT_filter {l : List Tn} (h : RisT l) (p : Tn → Bool) : RisT (l.filter p) := h.filter _
theorem drop_of_rising : ∀ (l : List Tn) (s : Int), RisT l → ∃ j, j ≤ l.length ∧ l.filter (fun t => decide (s < t.seq)) = l.drop j ∧ (∀ t ∈ l.take j, t.seq ≤ s) := by
  intro l s h
  obtain ⟨j, j1, -, j3, j4⟩ := up_take l s h
  refine ⟨j, j1, ?_, j3⟩
  have e := List.take_append_drop j l
  have h1 : (l.take j).filter (fun t => decide (s < t.seq)) = [] := by
    rw [List.filter_eq_nil_iff]
    intro t ht
    have := j3 t ht
    simp; omega
  have h2 : (l.drop j).filter (fun t => decide (s < t.seq)) = l.drop j := List.filter_eq_self.2 fun t ht => by simpa using j4 t ht
  calc l.filter (fun t => decide (s < t.seq)) = (l.take j ++ l.drop j).filter (fun t => decide (s < t.seq)) := by rw [e]
    _ = l.drop j := by rw [List.filter_append, h1, h2]; rfl
theorem goes_up {ok : Cd → Bool} {l : List Tn} (h : goes ok [] l = true) (fr til cur : Int) : goes ok [] (upL l fr til cur) = true := by
  obtain ⟨hr, -⟩ := goes_rising _ _ h
  rw [up_split]
  obtain ⟨j, -, e, -⟩ := drop_of_rising l fr hr
  have h1 : goes ok [] (l.filter fun t => decide (fr < t.seq)) = true := by
    rw [e]
    exact (goes_cut (a := l.take j) (b := l.drop j) (by rw [List.take_append_drop]; exact h)).2.2
  obtain ⟨k, -, e2, -⟩ := up_take _ til (risT_filter hr fun t => decide (fr < t.seq))
  have h2 : goes ok [] ((l.filter fun t => decide (fr < t.seq)).filter fun t => decide (t.seq ≤ til)) = true := by
    rw [e2]
    exact (goes_cut (b := List.drop k _) (by rw [List.take_append_drop]; exact h1)).1
  exact goes_ids cur [] [] _ (Int.le_refl _) (fun _ _ => rfl) h2

/-- How many turns fit into a page, of the first n. -/
def fitTo (all : List Tn) (p : Nat) : Nat → Nat
  | 0 => 0
  | k + 1 => if (netOf (all.take (k + 1))).length ≤ p then k + 1 else fitTo all p k
theorem fitTo_le (all : List Tn) (p : Nat) : ∀ n, fitTo all p n ≤ n
  | 0 => Nat.le_refl _
  | n + 1 => by
    unfold fitTo
    split
    · exact Nat.le_refl _
    · have := fitTo_le all p n; omega
theorem fitTo_last (all : List Tn) (p : Nat) : ∀ n j, fitTo all p n < j → j ≤ n → ¬ (netOf (all.take j)).length ≤ p
  | 0, j, h1, h2 => by omega
  | n + 1, j, h1, h2 => by
    unfold fitTo at h1
    split at h1
    · omega
    · rename_i h
      rcases Nat.lt_or_ge j (n + 1) with h3 | h3
      · exact fitTo_last all p n j h1 (by omega)
      · obtain rfl : j = n + 1 := by omega
        exact h
theorem fitTo_many (all : List Tn) (p n : Nat) (hn : n ≤ all.length) : min n p ≤ fitTo all p n := by
  rcases Nat.lt_or_ge (fitTo all p n) (min n p) with h | h
  · have := fitTo_last all p n (min n p) h (by omega)
    have h2 := net_length (all.take (min n p))
    rw [List.length_take] at h2
    omega
  · exact h
def fitN (all : List Tn) (p : Nat) : Nat := fitTo all p all.length
theorem fitN_le (all : List Tn) (p : Nat) : fitN all p ≤ all.length := fitTo_le _ _ _
/-- Up to which step a page goes. -/
def cutTo (all : List Tn) (now : Int) (p : Nat) : Int := match all[fitN all p]? with
  | some t => t.seq - 1
  | none => now

/-- What a cut says, in the words of the law. -/
theorem cut_says {l : List Tn} {fr now cur : Int} {p : Nat} (hr : RisT l) (hfn : fr ≤ now) :
    fr ≤ cutTo (upL l fr now cur) now p ∧ cutTo (upL l fr now cur) now p ≤ now ∧ upL l fr (cutTo (upL l fr now cur) now p) cur = (upL l fr now cur).take (fitN (upL l fr now cur) p) ∧
    upL l (cutTo (upL l fr now cur) now p) now cur = (upL l fr now cur).drop (fitN (upL l fr now cur) p) ∧
    ∀ later, cutTo (upL l fr now cur) now p < later → later ≤ now → ¬ (netOf (upL l fr later cur)).length ≤ p := by
  have hall : RisT (upL l fr now cur) := risT_filter hr _
  have hin : ∀ t ∈ upL l fr now cur, fr < t.seq ∧ t.seq ≤ now := fun t ht => by
    have := (List.mem_filter.1 ht).2
    simp only [upB, decide_eq_true_eq] at this
    exact ⟨this.1, this.2.1⟩
  have hless : ∀ s, s ≤ now → upL l fr s cur = (upL l fr now cur).filter fun t => decide (t.seq ≤ s) := fun s hs => up_less l fr now s cur hs
  have hmore : ∀ s, fr ≤ s → upL l s now cur = (upL l fr now cur).filter fun t => decide (s < t.seq) := fun s hs => up_more l fr now s cur hs
  generalize upL l fr now cur = all at *
  unfold cutTo
  have hle := fitN_le all p
  cases hk : all[fitN all p]? with
  | none =>
    have e : fitN all p = all.length := by
      have := List.getElem?_eq_none_iff.1 hk
      omega
    dsimp only
    refine ⟨hfn, Int.le_refl _, ?_, ?_, fun later h1 h2 => by omega⟩
    · rw [hless now (Int.le_refl _), e, List.take_length]
      exact List.filter_eq_self.2 fun t ht => by simpa using (hin t ht).2
    · rw [hmore now hfn, e, List.drop_length, List.filter_eq_nil_iff]
      intro t ht
      have := (hin t ht).2
      simp; omega
  | some t =>
    obtain ⟨hkl, hkt⟩ := List.getElem?_eq_some_iff.1 hk
    have htm : t ∈ all := List.mem_of_getElem? hk
    have ht := hin t htm
    dsimp only
    have hpos : ∀ s, t.seq - 1 ≤ s → s < t.seq → True := fun _ _ _ => trivial
    have hsplit := List.take_append_drop (fitN all p) all
    have hdrop : all.drop (fitN all p) = t :: all.drop (fitN all p + 1) := by rw [← hkt]; exact List.drop_eq_getElem_cons hkl
    have hpw : (all.take (fitN all p) ++ t :: all.drop (fitN all p + 1)).Pairwise (fun a b => a.seq < b.seq) := by
      rw [← hdrop, hsplit]; exact hall
    obtain ⟨p1, p2, p3⟩ := List.pairwise_append.1 hpw
    obtain ⟨q1, q2⟩ := List.pairwise_cons.1 p2
    have hA : ∀ a ∈ all.take (fitN all p), a.seq < t.seq := fun a ha => p3 a ha t (by simp)
    refine ⟨by omega, by omega, ?_, ?_, fun later h1 h2 => ?_⟩
    · rw [hless _ (by omega)]
      have e1 : (all.take (fitN all p)).filter (fun u => decide (u.seq ≤ t.seq - 1)) = all.take (fitN all p) := List.filter_eq_self.2 fun a ha => by have := hA a ha; simp; omega
      have e2 : (all.drop (fitN all p)).filter (fun u => decide (u.seq ≤ t.seq - 1)) = [] := by
        rw [hdrop, List.filter_eq_nil_iff]
        intro a ha
        rcases List.mem_cons.1 ha with rfl | ha
        · simp; omega
        · have := q1 a ha; simp; omega
      calc all.filter (fun u => decide (u.seq ≤ t.seq - 1)) = (all.take (fitN all p) ++ all.drop (fitN all p)).filter (fun u => decide (u.seq ≤ t.seq - 1)) := by rw [hsplit]
        _ = all.take (fitN all p) := by rw [List.filter_append, e1, e2, List.append_nil]
    · rw [hmore _ (by omega)]
      have e1 : (all.take (fitN all p)).filter (fun u => decide (t.seq - 1 < u.seq)) = [] := by
        rw [List.filter_eq_nil_iff]
        intro a ha
        have := hA a ha
        simp; omega
      have e2 : (all.drop (fitN all p)).filter (fun u => decide (t.seq - 1 < u.seq)) = all.drop (fitN all p) := by
        rw [hdrop]
        refine List.filter_eq_self.2 fun a ha => ?_
        rcases List.mem_cons.1 ha with rfl | ha
        · simp; omega
        · have := q1 a ha; simp; omega
      calc all.filter (fun u => decide (t.seq - 1 < u.seq)) = (all.take (fitN all p) ++ all.drop (fitN all p)).filter (fun u => decide (t.seq - 1 < u.seq)) := by rw [hsplit]
        _ = all.drop (fitN all p) := by rw [List.filter_append, e1, e2]; rfl
    · rw [hless later h2]
      obtain ⟨j, j1, j2, j3, j4⟩ := up_take all later hall
      rw [j2]
      refine fitTo_last all p all.length j ?_ j1
      rcases Nat.lt_or_ge (fitTo all p all.length) j with h | h
      · exact h
      · have : t ∈ all.drop j := List.mem_of_getElem? (i := fitN all p - j) (by rw [List.getElem?_drop, show j + (fitN all p - j) = fitN all p from Nat.add_sub_cancel' h]; exact hk)
        have := j4 t this
        omega

/-! ### How many items a net has, turn by turn -/
theorem count_at {f g : Int → Bool} {x : Int} (h : ∀ y, y ≠ x → f y = g y) : ∀ s : List Int, s.Nodup → (s.countP g : Int) = s.countP f + (if x ∈ s then (if g x then 1 else 0) - (if f x then 1 else 0) else 0)
  | [], _ => by simp
  | y :: s, hn => by
    obtain ⟨h1, h2⟩ := List.nodup_cons.1 hn
    have ih := count_at h s h2
    rw [List.countP_cons, List.countP_cons]
    by_cases e : y = x
    · subst e
      rw [if_neg h1] at ih
      simp only [List.mem_cons, true_or, if_true]
      cases f y <;> cases g y <;> simp <;> omega
    · have e' : x ≠ y := fun k => e k.symm
      simp only [List.mem_cons, e', false_or]
      rw [h y e]
      cases g y <;> simp <;> omega
theorem insI_there (x : Int) : ∀ s : List Int, s.Pairwise (· < ·) → x ∈ s → insI x s = s
  | [], _, h => by simp at h
  | y :: r, hp, h => by
    obtain ⟨h1, h2⟩ := List.pairwise_cons.1 hp
    unfold insI
    rcases List.mem_cons.1 h with rfl | hr
    · rw [if_neg (by omega), if_pos rfl]
    · have := h1 x hr
      rw [if_neg (by omega), if_neg (by omega), insI_there x r h2 hr]
theorem insI_perm (x : Int) : ∀ s : List Int, x ∉ s → (insI x s).Perm (x :: s)
  | [], _ => List.Perm.refl _
  | y :: r, h => by
    unfold insI
    simp only [List.mem_cons, not_or] at h
    split
    · exact List.Perm.refl _
    · rw [if_neg h.1]
      exact ((insI_perm x r h.2).cons y).trans (List.Perm.swap x y r)
theorem nodup_of_rising {s : List Int} (h : s.Pairwise (· < ·)) : s.Nodup := h.imp fun {a b} hab e => by omega
theorem net_count (l : List Tn) : (netOf l).length = (idsOf l).countP fun id => (netAt l id).isSome := by
  unfold netOf
  generalize idsOf l = s
  induction s with
  | nil => rfl
  | cons x s ih =>
    rw [List.countP_cons, ← ih]
    cases h : netAt l x with
    | none => simp [h]
    | some y => simp [h]
theorem netAt_some {l : List Tn} {id : Int} {a b : Tn} (ha : firstOf l id = some a) (hb : lastOf l id = some b) : (netAt l id).isSome = decide (a.old ≠ b.new) := by
  unfold netAt
  rw [ha, hb]
  simp only [Option.bind_some]
  unfold itemOf
  by_cases h : a.old = b.new
  · simp [h]
  · rw [if_neg h]
    split
    · simp [h]
    · split <;> simp [h]
theorem netAt_other (p : List Tn) (t : Tn) (id : Int) (h : id ≠ t.id) : netAt (p ++ [t]) id = netAt p id := by
  unfold netAt
  rw [firstOf_snoc, lastOf_snoc, if_neg (Ne.symm h), if_neg (Ne.symm h), Option.or_none]
/-- The first version of a card, when a turn comes. -/
def wasOf (p : List Tn) (t : Tn) : Int := ((firstOf p t.id).map Tn.old).getD t.old
theorem many_snoc (p : List Tn) (t : Tn) (hc : ∀ u, lastOf p t.id = some u → u.new = t.old) :
    ((netOf (p ++ [t])).length : Int) = (netOf p).length - (if t.old ≠ wasOf p t then 1 else 0) + (if t.new ≠ wasOf p t then 1 else 0) := by
  obtain ⟨s1, s2⟩ := idsOf_spec p
  rw [net_count, net_count, idsOf_snoc]
  have hoth : ∀ y, y ≠ t.id → (fun id => (netAt p id).isSome) y = (fun id => (netAt (p ++ [t]) id).isSome) y := fun y hy => by
    dsimp only
    rw [netAt_other p t y hy]
  cases hf : firstOf p t.id with
  | none =>
    have hno : t.id ∉ idsOf p := fun h => by
      obtain ⟨u, hu, e⟩ := (s2 _).1 h
      exact firstOf_none.1 hf u hu e
    rw [(insI_perm _ _ hno).countP_eq, List.countP_cons]
    have h1 := count_at hoth (idsOf p) (nodup_of_rising s1)
    rw [if_neg hno] at h1
    have h2 : (netAt (p ++ [t]) t.id).isSome = decide (t.old ≠ t.new) := netAt_some (by rw [firstOf_snoc, hf]; simp) (by rw [lastOf_snoc, if_pos rfl])
    rw [h2]
    unfold wasOf
    rw [hf]
    simp only [Option.map_none, Option.getD_none]
    by_cases e : t.old = t.new
    · simp [e]; simp at h1; omega
    · have e' : t.new ≠ t.old := fun k => e k.symm
      simp [e, e']; simp at h1; omega
  | some a =>
    obtain ⟨a1, a2⟩ := firstOf_mem hf
    obtain ⟨b, hb⟩ := first_last hf
    have hyes : t.id ∈ idsOf p := (s2 _).2 ⟨a, a1, a2⟩
    rw [insI_there _ _ s1 hyes]
    have h1 := count_at hoth (idsOf p) (nodup_of_rising s1)
    rw [if_pos hyes] at h1
    have h2 : (netAt (p ++ [t]) t.id).isSome = decide (a.old ≠ t.new) := netAt_some (by rw [firstOf_snoc, hf]; rfl) (by rw [lastOf_snoc, if_pos rfl])
    have h3 : (netAt p t.id).isSome = decide (a.old ≠ b.new) := netAt_some hf hb
    rw [h2, h3, hc b hb] at h1
    unfold wasOf
    rw [hf]
    simp only [Option.map_some, Option.getD_some]
    have c1 : decide (a.old ≠ t.new) = decide (t.new ≠ a.old) := decide_eq_decide.2 ne_comm
    have c2 : decide (a.old ≠ t.old) = decide (t.old ≠ a.old) := decide_eq_decide.2 ne_comm
    rw [h1, c1, c2]
    simp only [decide_eq_true_eq]
    by_cases e1 : t.new = a.old
    · by_cases e2 : t.old = a.old
      · rw [if_neg (fun k => k e1), if_neg (fun k => k e2)]; omega
      · rw [if_neg (fun k => k e1), if_pos e2]; omega
    · by_cases e2 : t.old = a.old
      · rw [if_pos e1, if_neg (fun k => k e2)]; omega
      · rw [if_pos e1, if_pos e2]; omega
end Go.Ofp
end

section
/- Cut after cut: plain law. -/
set_option linter.unusedSimpArgs false
set_option linter.unusedVariables false
namespace Go.Ofp

/-- Behind i cuts. -/
structure DInv (ok : Cd → Bool) (l : List Tn) (now cur : Int) (p len : Nat) (whole : List Cd) (i : Nat) (at_ : Int) (m : List Cd) : Prop where
  le : at_ ≤ now
  go : goes ok [] (upL l at_ now cur) = true
  ris : RisC m
  fit : FitS m (upL l at_ now cur)
  whole : applyC m (netOf (upL l at_ now cur)) = some whole
  many : (upL l at_ now cur).length + i * p ≤ len ∨ upL l at_ now cur = []
  done : 0 < i → upL l at_ now cur = [] → at_ = now

theorem DInv.step {ok : Cd → Bool} {l : List Tn} {now cur : Int} {p len : Nat} {whole : List Cd} {i : Nat} {at_ : Int} {m : List Cd} (hr : RisT l) (h : DInv ok l now cur p len whole i at_ m) :
    ∃ m1, applyC m (netOf ((upL l at_ now cur).take (fitN (upL l at_ now cur) p))) = some m1 ∧ at_ ≤ cutTo (upL l at_ now cur) now p ∧
      DInv ok l now cur p len whole (i + 1) (cutTo (upL l at_ now cur) now p) m1 := by
  obtain ⟨c1, c2, -, c4, -⟩ := cut_says (cur := cur) (p := p) hr h.le
  have hg := h.go
  have hf := h.fit
  have hw := h.whole
  have hm := h.many
  have hk := fitN_le (upL l at_ now cur) p
  have hk2 := fitTo_many (upL l at_ now cur) p (upL l at_ now cur).length (Nat.le_refl _)
  have hto : fitN (upL l at_ now cur) p = (upL l at_ now cur).length → cutTo (upL l at_ now cur) now p = now := by
    intro e
    unfold cutTo
    rw [List.getElem?_eq_none (by omega)]
  change min _ p ≤ fitN (upL l at_ now cur) p at hk2
  generalize cutTo (upL l at_ now cur) now p = to_ at *
  generalize hn : fitN (upL l at_ now cur) p = k at *
  generalize upL l at_ now cur = rest at *
  have hs := List.take_append_drop k rest
  rw [← hs] at hg hf hw
  obtain ⟨m1, m2, a1, a2, a3, a4, a5, a6⟩ := net_twice h.ris hg hf
  rw [a3] at hw
  cases hw
  refine ⟨m1, a1, c1, ⟨c2, ?_, a4, ?_, ?_, ?_, fun _ e => ?_⟩⟩
  · rw [c4]; exact (goes_cut hg).2.2
  · rw [c4]; exact a5
  · rw [c4]; exact a2
  · rw [c4]
    rcases hm with hm | rfl
    · rcases Nat.lt_or_ge k rest.length with hlt | hge
      · left
        rw [List.length_drop, Nat.succ_mul]
        omega
      · right
        exact List.drop_eq_nil_of_le hge
    · right; simp
  · rw [c4] at e
    have := List.drop_eq_nil_iff.1 e
    exact hto (by omega)

theorem DInv.fin {ok : Cd → Bool} {l : List Tn} {now cur : Int} {p len : Nat} {whole : List Cd} {at_ : Int} {m : List Cd} (hp : 1 ≤ p) (h : DInv ok l now cur p len whole (len / p + 1) at_ m) : at_ = now ∧ m = whole := by
  have e : upL l at_ now cur = [] := by
    rcases h.many with h1 | h1
    · exfalso
      have h2 := Nat.div_add_mod len p
      have h3 := Nat.mod_lt len hp
      rw [Nat.succ_mul, Nat.mul_comm] at h1
      omega
    · exact h1
  refine ⟨h.done (Nat.succ_pos _) e, ?_⟩
  have hw := h.whole
  rw [e] at hw
  simpa [netOf, idsOf, applyC] using hw
end Go.Ofp
end
