/- Groups: who is a member of which, in bits: plain law. -/
import Derived.Test.YtplgpbbghhlbjaaGrpLaws
set_option linter.unusedSimpArgs false
set_option linter.unusedVariables false
namespace Go.Ofp
open Go.RowKit
theorem ofFrom_append (id : Int) (A B : List Key) : ∀ s, ofFrom id s (A ++ B) = ofFrom id (ofFrom id s A) B := by
  induction A with
  | nil => intro s; rfl
  | cons k A ih => intro s; simp only [List.cons_append, ofFrom]; exact ih _
theorem ofFrom_or (id : Int) (B : List Key) (x : Nat) : ∀ s, ofFrom id (s ||| x) B = ofFrom id s B ||| x := by
  induction B with
  | nil => intro s; rfl
  | cons k B ih =>
    intro s
    simp only [ofFrom]
    cases Ids.has k.2 id with
    | false => exact ih s
    | true =>
      simp only [cond_true]
      rw [Nat.or_assoc, Nat.or_comm x, ← Nat.or_assoc, ih]
theorem ofFrom_bit (id : Int) (B : List Key) (q : Nat) : ∀ s, (ofFrom id s B).testBit q = (s.testBit q || B.any fun k => decide (k.1.toNat = q) && Ids.has k.2 id) := by
  induction B with
  | nil => intro s; simp [ofFrom]
  | cons k B ih =>
    intro s
    simp only [ofFrom, List.any_cons, ih]
    cases Ids.has k.2 id with
    | false => simp
    | true => simp [Nat.testBit_or, Nat.testBit_two_pow, Bool.or_assoc]

section
variable {ks : List Key} (h : chkK ks = true)
include h
theorem key_at (i : Nat) (hi : i < ks.length) : Ids.place (knos ks) ks[i].1 = i ∧ Ids.has (knos ks) ks[i].1 = true :=
  place_get (knos ks) ks[i].1 ((chkK_iff _).1 h).1 i (by simpa [knos] using hi) (by simp [knos])
theorem members_at (i : Nat) (hi : i < ks.length) : membersK ks ks[i].1 = ks[i].2 := by
  obtain ⟨h1, h2⟩ := key_at h i hi
  unfold membersK memAt
  rw [h2, if_pos rfl, h1, List.getD_eq_getElem?_getD, List.getElem?_eq_getElem hi]
  rfl
theorem of_bit (id : Int) (i : Nat) (hi : i < ks.length) : (ofK ks id).testBit ks[i].1.toNat = Ids.has ks[i].2 id := by
  obtain ⟨hu, hno, -⟩ := (chkK_iff _).1 h
  unfold ofK
  rw [ofFrom_bit, Nat.zero_testBit, Bool.false_or]
  cases e : Ids.has ks[i].2 id with
  | true =>
    rw [List.any_eq_true]
    exact ⟨ks[i], List.getElem_mem hi, by simp [e]⟩
  | false =>
    rw [List.any_eq_false]
    intro k hk
    obtain ⟨j, hj, rfl⟩ := List.getElem_of_mem hk
    by_cases e2 : ks[j].1.toNat = ks[i].1.toNat
    · have h1 := hno _ (List.getElem_mem hi)
      have h2 := hno _ (List.getElem_mem hj)
      have e3 : ks[j].1 = ks[i].1 := by omega
      have hij : j = i := by
        have a1 := (key_at h i hi).1
        have a2 := (key_at h j hj).1
        rw [e3] at a2
        omega
      subst hij
      simp [e]
    · simp [e2]
end

/-- What a Join that is done makes. -/
theorem join_done {ks : List Key} {g id : Int} (h : OkK ks) (hl : ks.length ≤ 100) (hm : ∀ k ∈ ks, k.2.length ≤ 100) (hj : (joinK ks g id).1 = 0) :
    0 ≤ g ∧ g < 16 ∧ OkK (joinK ks g id).2 ∧ quitK (joinK ks g id).2 g id = (0, ks) ∧ (∀ x, x ≠ id → ofK (joinK ks g id).2 x = ofK ks x) ∧ ofK (joinK ks g id).2 id = ofK ks id ||| 2 ^ g.toNat := by
  unfold joinK at hj ⊢
  by_cases hbad : g < 0 ∨ 16 ≤ g ∨ id < 1 ∨ 1073741824 ≤ id
  · rw [if_pos hbad] at hj; cases hj
  rw [if_neg hbad] at hj ⊢
  cases hhas : Ids.has (knos ks) g with
  | false => rw [hhas] at hj; cases hj
  | true =>
    rw [hhas, if_pos rfl] at hj
    rw [if_pos rfl]
    cases hmem : Ids.has (memAt ks g) id with
    | true => rw [hmem] at hj; cases hj
    | false =>
      rw [if_neg (by simp)]
      obtain ⟨hu, hno, hri⟩ := (chkK_iff _).1 h.chk
      have hp := Ids.has_lt (knos ks) g hu hhas
      have hpk : Ids.place (knos ks) g < ks.length := by simpa [knos] using hp
      have hg : ks[Ids.place (knos ks) g].1 = g := by
        have := Ids.has_place (knos ks) g hu
        rw [hhas, dif_pos hp] at this
        have := of_decide_eq_true this.symm
        simpa [knos] using this
      have hmA : memAt ks g = ks[Ids.place (knos ks) g].2 := by
        unfold memAt
        rw [List.getD_eq_getElem?_getD, List.getElem?_eq_getElem hpk]
        rfl
      generalize Ids.place (knos ks) g = p at hp hpk hg hmA ⊢
      have hrm := hri _ (List.getElem_mem hpk)
      rw [hmA] at hmem ⊢
      have hkp : ks[p] = (g, ks[p].2) := Prod.ext hg rfl
      have hml := hm _ (List.getElem_mem hpk)
      generalize ks[p].2 = m at hrm hmem hkp hml hmA ⊢
      have hsplit : ks = ks.take p ++ (g, m) :: ks.drop (p + 1) := by
        rw [← hkp, ← List.drop_eq_getElem_cons hpk, List.take_append_drop]
      have hset : ks.set p (g, Ids.put m id) = ks.take p ++ (g, Ids.put m id) :: ks.drop (p + 1) := by
        rw [List.set_eq_take_append_cons_drop, if_pos hpk]
      have hnid : id ∉ m := fun e => by rw [(Ids.has_iff _ _).2 e] at hmem; cases hmem
      have hkn : knos (ks.set p (g, Ids.put m id)) = knos ks := by
        unfold knos
        rw [List.map_set]
        apply List.ext_getElem (by simp)
        intro j h1 h2
        rw [List.getElem_set]
        split
        · rename_i e; subst e; simp [hg]
        · rfl
      have hpl : Ids.place (knos ks) g = p := by
        have := (key_at h.chk p hpk).1
        rw [hg] at this
        exact this
      have hin : id ∈ Ids.put m id := (Ids.mem_put m id id hrm.1 (by omega) (by omega)).2 (.inl rfl)
      refine ⟨by omega, by omega, ⟨?_, by simpa using Nat.le_trans hl (by omega), ?_⟩, ?_, ?_, ?_⟩
      · rw [chkK_iff, hkn]
        refine ⟨hu, fun k hk => ?_, fun k hk => ?_⟩
        · rcases List.mem_or_eq_of_mem_set hk with hk | rfl
          · exact hno k hk
          · exact ⟨by omega, by omega⟩
        · rcases List.mem_or_eq_of_mem_set hk with hk | rfl
          · exact hri k hk
          · exact Ids.rise_put m id hrm
      · intro k hk
        rcases List.mem_or_eq_of_mem_set hk with hk | rfl
        · exact Nat.le_trans (hm k hk) (by omega)
        · have := Ids.put_length m id
          show (Ids.put m id).length ≤ 2000
          omega
      · unfold quitK
        rw [if_neg hbad, hkn, hhas, if_pos rfl]
        have hmA2 : memAt (ks.set p (g, Ids.put m id)) g = Ids.put m id := by
          unfold memAt
          rw [hkn, hpl, List.getD_eq_getElem?_getD, List.getElem?_set_self hpk]
          rfl
        rw [hmA2, (Ids.has_iff _ _).2 hin, if_pos rfl, hpl, Ids.drop_put m id hrm hnid, List.set_set]
        congr 1
        rw [← hkp]
        exact List.set_getElem_self hpk
      · intro x hx
        have e : Ids.has (Ids.put m id) x = Ids.has m x := by
          rw [Bool.eq_iff_iff, Ids.has_iff, Ids.has_iff, Ids.mem_put m id x hrm.1 (by omega) (by omega)]
          constructor
          · rintro (h | h)
            · exact absurd h hx
            · exact h
          · exact .inr
        rw [hset]
        conv => rhs; rw [hsplit]
        unfold ofK
        rw [ofFrom_append, ofFrom_append, ofFrom_cons, ofFrom_cons, e]
      · rw [hset]
        conv => rhs; rw [hsplit]
        unfold ofK
        rw [ofFrom_append, ofFrom_append, ofFrom_cons, ofFrom_cons, (Ids.has_iff _ _).2 hin, hmem, cond_true, cond_false, ofFrom_or]
theorem join_bad {ks : List Key} {g id : Int} (h : (joinK ks g id).1 ≠ 0) : (joinK ks g id).2 = [] := by
  unfold joinK at h ⊢
  split
  · rfl
  · rename_i h1
    rw [if_neg h1] at h
    split
    · rename_i h2
      rw [if_pos h2] at h
      split
      · rfl
      · rename_i h3
        rw [if_neg h3] at h
        exact absurd rfl h
    · rfl
end Go.Ofp
