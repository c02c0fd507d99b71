/- DiskKeeps: plain law. -/
import Derived.Test.YtlhpibniecfofaaDiskMath
set_option linter.unusedSimpArgs false
set_option linter.unusedVariables false
namespace Go.Ofp
/-- An act: what it does, where, a number, a byte, what stays. -/
structure Ac where
  kind : Int
  place : Int
  n : Int
  c : UInt8
  a : Option Go.Addr
  kc : Nat
  keep : List Int
namespace Dk
/-- A disk whose power is there, with what waits. -/
def dk (S : List Sc) (W : List Wt) : Dk := ⟨S, W, -1, false⟩
def waits (l : List Ac) : List Wt := l.filterMap fun a => if 0 ≤ a.place ∧ a.place < 8 then some ⟨a.place, List.replicate 64 a.c⟩ else none
def was1 (ws : List (List UInt8)) (a : Ac) : List (List UInt8) := if 0 ≤ a.place ∧ a.place < 8 then ws.set a.place.toNat (List.replicate 64 a.c) else ws
def clean (b : List UInt8) : Sc := ⟨b, false⟩
theorem dk_ready {S : List Sc} {W : List Wt} (hS : S.length = 8) (i : Int) : (dk S W).ready i = if 0 ≤ i ∧ i < 8 then 0 else 1 := by
  unfold ready dk
  simp only [hS, Bool.false_eq_true, if_false]
  split
  · rw [if_neg (by omega)]
  · rw [if_pos (by omega)]
theorem dk_step (S : List Sc) (W : List Wt) : (dk S W).step = dk S W := by
  unfold step dk
  simp
theorem dk_write {S : List Sc} {W : List Wt} (hS : S.length = 8) (i : Int) (c : UInt8) : (dk S W).write i (List.replicate 64 c) = if 0 ≤ i ∧ i < 8 then (dk S (W ++ [⟨i, List.replicate 64 c⟩]), 0) else (dk S W, 1) := by
  unfold write
  rw [dk_ready hS]
  split
  · rw [if_pos rfl, if_pos (by simp)]
    have : (dk S (W ++ [⟨i, List.replicate 64 c⟩])).step = dk S (W ++ [⟨i, List.replicate 64 c⟩]) := dk_step _ _
    show (step (dk S (W ++ [⟨i, List.replicate 64 c⟩])), _) = _
    rw [this]
    rfl
  · rw [if_neg (by omega)]
theorem waits_snoc (l : List Ac) (a : Ac) : waits (l ++ [a]) = waits l ++ (if 0 ≤ a.place ∧ a.place < 8 then [⟨a.place, List.replicate 64 a.c⟩] else []) := by
  unfold waits
  rw [List.filterMap_append]
  congr 1
  by_cases h : 0 ≤ a.place ∧ a.place < 8
  · simp [h]
  · simp [h]
theorem dk_write_next {S : List Sc} (hS : S.length = 8) (l : List Ac) (a : Ac) : ((dk S (waits l)).write a.place (List.replicate 64 a.c)).1 = dk S (waits (l ++ [a])) := by
  rw [dk_write hS, waits_snoc]
  split
  · rfl
  · rw [List.append_nil]
theorem dk_sync {S : List Sc} {W : List Wt} (hS : S.length = 8) : (dk S W).sync = (dk (done S W) [], 0) := by
  unfold sync
  rw [dk_ready hS, if_pos (by omega), dk_step, if_neg (by simp [dk])]
  rfl
theorem done_was (l : List Ac) : ∀ ws : List (List UInt8), done (ws.map clean) (waits l) = (l.foldl was1 ws).map clean := by
  induction l with
  | nil => intro ws; rfl
  | cons a l ih =>
    intro ws
    rw [List.foldl_cons, ← ih]
    unfold waits
    rw [List.filterMap_cons]
    unfold was1
    split
    · rename_i h
      split at h
      · cases h
      · rename_i h2; rw [if_neg h2]
    · rename_i x h
      split at h
      · rename_i h2
        cases h
        rw [if_pos h2, List.map_set]
        rfl
      · cases h
theorem dk_crash (S : List Sc) (W : List Wt) (keep : List Int) : (dk S W).crash keep = dk (fall keep 0 S W) [] := rfl
theorem dk_read {T : List Sc} (hT : T.length = 8) (k : Nat) (hk : k < 8) : (dk T []).read k = if (T[k]'(by omega)).bad then ([], 16) else ((T[k]'(by omega)).b, 0) := by
  unfold read
  rw [dk_ready hT, if_pos (by omega)]
  have : (dk T []).see k = T[k]'(by omega) := by
    show T.getD (k : Int).toNat ⟨[], true⟩ = _
    rw [List.getD_eq_getElem?_getD, Int.toNat_natCast, List.getElem?_eq_getElem (by omega)]
    rfl
  rw [this]

/-- What a sector may be behind a fall. -/
def May (S : List Sc) (W : List Wt) (T : List Sc) : Prop := ∀ (k : Nat) (s : Sc), T[k]? = some s → S[k]? = some s ∨ ∃ x ∈ W, x.place = (k : Int) ∧ (s.bad = true ∨ s = ⟨x.b, false⟩)
theorem may_fall1 {S T : List Sc} {W : List Wt} (keep : List Int) (i : Nat) (x : Wt) (hx : x ∈ W) (hp : 0 ≤ x.place) (h : May S W T) : May S W (fall1 keep T i x) := by
  intro k s hs
  unfold fall1 at hs
  obtain ⟨q, hq⟩ := Int.eq_ofNat_of_zero_le hp
  rw [hq, Int.toNat_natCast] at hs
  split at hs
  · rw [List.getElem?_set] at hs
    split at hs
    · rename_i e
      subst e
      split at hs
      · cases hs; exact .inr ⟨x, hx, hq, .inr rfl⟩
      · cases hs
    · exact h k s hs
  · split at hs
    · rw [List.getElem?_modify] at hs
      cases e2 : T[k]? with
      | none => rw [e2] at hs; cases hs
      | some t =>
        rw [e2] at hs
        by_cases e : q = k
        · subst e
          have e3 : { t with bad := true } = s := by simpa using hs
          subst e3
          exact .inr ⟨x, hx, hq, .inl rfl⟩
        · have e3 : t = s := by simpa [e] using hs
          subst e3
          exact h k _ e2
    · exact h k s hs
theorem may_fall {S : List Sc} {W : List Wt} (hW : ∀ x ∈ W, 0 ≤ x.place) (keep : List Int) (l : List Wt) : ∀ (i : Nat) (T : List Sc), (∀ x ∈ l, x ∈ W) → May S W T → May S W (fall keep i T l) := by
  induction l with
  | nil => intro i T _ h; exact h
  | cons x l ih =>
    intro i T hl h
    rw [fall]
    exact ih (i + 1) _ (fun y hy => hl y (by simp [hy])) (may_fall1 keep i x (hl x (by simp)) (hW x (hl x (by simp))) h)

/-- Is a sector what it was, or what a write that waited wrote, or bad? -/
def okB (s : List UInt8) (e : Int) (w : List UInt8) (k : Int) (l : List Ac) : Bool := (s == w) || l.any fun a => (a.place == k) && ((s == List.replicate 64 a.c) || (e == 16))
def touchB (k : Int) (l : List Ac) : Bool := l.any fun a => a.place == k
theorem okB_snoc (s : List UInt8) (e : Int) (w : List UInt8) (k : Int) (l : List Ac) (a : Ac) : okB s e w k (l ++ [a]) = (okB s e w k l || ((a.place == k) && ((s == List.replicate 64 a.c) || (e == 16)))) := by
  simp [okB, Bool.or_assoc]
theorem touchB_snoc (k : Int) (l : List Ac) (a : Ac) : touchB k (l ++ [a]) = (touchB k l || (a.place == k)) := by
  simp [touchB]

theorem keeps_law (ws : List (List UInt8)) (hws : ws.length = 8) (rest : List Ac) (keep : List Int) (k : Nat) (hk : k < 8) :
    okB ((dk (fall keep 0 (ws.map clean) (waits rest)) []).read k).1 ((dk (fall keep 0 (ws.map clean) (waits rest)) []).read k).2 (ws[k]'(by omega)) k rest = true ∧
    (touchB k rest = true ∨ ((dk (fall keep 0 (ws.map clean) (waits rest)) []).read k).2 = 0) := by
  have hWm : ∀ x ∈ waits rest, ∃ a ∈ rest, 0 ≤ a.place ∧ a.place < 8 ∧ x = ⟨a.place, List.replicate 64 a.c⟩ := by
    intro x hx
    unfold waits at hx
    obtain ⟨a, ha, h⟩ := List.mem_filterMap.1 hx
    split at h
    · rename_i h2; cases h; exact ⟨a, ha, h2.1, h2.2, rfl⟩
    · cases h
  have hlen : (fall keep 0 (ws.map clean) (waits rest)).length = 8 := by
    have : ∀ (l : List Wt) (i : Nat) (T : List Sc), (fall keep i T l).length = T.length := by
      intro l
      induction l with
      | nil => intro i T; rfl
      | cons x l ih =>
        intro i T
        rw [fall, ih]
        unfold fall1
        split
        · exact List.length_set ..
        · split
          · exact List.length_modify ..
          · rfl
    rw [this, List.length_map, hws]
  have hmay : May (ws.map clean) (waits rest) (fall keep 0 (ws.map clean) (waits rest)) :=
    may_fall (fun x hx => by obtain ⟨a, -, h1, -, rfl⟩ := hWm x hx; exact h1) keep _ 0 _ (fun _ h => h) (fun k s h => .inl h)
  rw [dk_read hlen k hk]
  have hk2 := hmay k _ (List.getElem?_eq_getElem (by omega))
  generalize (fall keep 0 (ws.map clean) (waits rest))[k]'(by omega) = s at hk2 ⊢
  rcases hk2 with h | ⟨x, hx, hxp, h⟩
  · rw [List.getElem?_map, List.getElem?_eq_getElem (by omega)] at h
    cases h
    simp [clean, okB]
  · obtain ⟨a, ha, h1, h2, rfl⟩ := hWm x hx
    have ht : touchB k rest = true := by
      rw [touchB, List.any_eq_true]
      exact ⟨a, ha, by simpa using hxp⟩
    refine ⟨?_, .inl ht⟩
    unfold okB
    rw [Bool.or_eq_true, List.any_eq_true]
    refine .inr ⟨a, ha, ?_⟩
    have hp : (a.place == (k : Int)) = true := by simpa using hxp
    rcases h with h | rfl
    · simp [hp, h]
    · simp [hp]
end Dk
end Go.Ofp
