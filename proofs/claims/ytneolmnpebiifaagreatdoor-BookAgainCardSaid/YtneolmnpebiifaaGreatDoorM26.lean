/- Texts laid together: St12 ShelfRX StEl ShelfR4. -/
import Derived.Test.YtneolmnpebiifaaGreatDoorM21
import Derived.Test.YtneolmnpebiifaaGreatDoorM25
import Derived.Test.YtneolmnpebiifaaGreatDoorM3
import Derived.Test.YtneolmnpebiifaaGreatDoorM8
section
/- Pieces change places. -/
set_option linter.unusedSimpArgs false
set_option linter.unusedVariables false
namespace Go.Ofp
open Go.RowKit
namespace St
variable {w0 w w' : World} {F : List Nat} {A B C R L : List Ch} {c : Ch}
/-- Two runs of pieces change places. -/
theorem mid (h : St w0 F (A ++ (B ++ (C ++ R))) w) : St w0 F (A ++ (C ++ (B ++ R))) w := by
  refine h.pick (fun i => if i < A.length then i else if i < A.length + C.length then i + B.length else if i < A.length + C.length + B.length then i - C.length else i) ?_ ?_
  · intro i d hd
    by_cases h1 : i < A.length
    · rw [List.getElem?_append_left h1] at hd
      simp only [h1, if_true]
      rw [List.getElem?_append_left h1]
      exact hd
    · rw [List.getElem?_append_right (by omega)] at hd
      simp only [h1, if_false]
      by_cases h2 : i < A.length + C.length
      · rw [List.getElem?_append_left (by omega)] at hd
        simp only [h2, if_true]
        rw [List.getElem?_append_right (by omega), List.getElem?_append_right (by omega), List.getElem?_append_left (by omega), show i + B.length - A.length - B.length = i - A.length by omega]
        exact hd
      · rw [List.getElem?_append_right (by omega)] at hd
        simp only [h2, if_false]
        by_cases h3 : i < A.length + C.length + B.length
        · rw [List.getElem?_append_left (by omega)] at hd
          simp only [h3, if_true]
          rw [List.getElem?_append_right (by omega), List.getElem?_append_left (by omega), show i - C.length - A.length = i - A.length - C.length by omega]
          exact hd
        · rw [List.getElem?_append_right (by omega)] at hd
          simp only [h3, if_false]
          rw [List.getElem?_append_right (by omega), List.getElem?_append_right (by omega), List.getElem?_append_right (by omega), show i - A.length - B.length - C.length = i - A.length - C.length - B.length by omega]
          exact hd
  · intro i j hi hj hij
    split <;> split <;> (try split) <;> (try split) <;> (try split) <;> (try split) <;> omega
end St
end Go.Ofp
end

section
/- The reference's shelf in a law: its lists are told by facts over the pieces that the calls made. -/
set_option linter.unusedSimpArgs false
set_option linter.unusedVariables false
namespace Go.Ofp
open Go.RowKit
/-- A piece of which nothing is said. -/
def Ch.any : Ch where
  foot := []
  holds _ := True
  lt _ g hg := by simp at hg
  keep _ _ := trivial
theorem at_len (A : List Ch) (c : Ch) (B : List Ch) : (A ++ ([c] ++ B))[A.length]? = some c := by simp
/-- Pieces that are written to are left out. -/
theorem St.offM {w0 w W : World} {F : List Nat} {A B R : List Ch} (h : St w0 F (A ++ (B ++ R)) w) (k : Fr (feet B) w W) : St w0 F (A ++ R) W := by
  have hd := h.dropM
  have hB : ∀ g ∈ feet B, ∃ (i : Nat) (c : Ch), (A ++ (B ++ R))[A.length + i]? = some c ∧ i < B.length ∧ g ∈ c.foot := fun g hg => by
    obtain ⟨i, c, hi, hc⟩ := mem_feet.1 hg
    have hlt : i < B.length := (List.getElem?_eq_some_iff.1 hi).1
    refine ⟨i, c, ?_, hlt, hc⟩
    rw [List.getElem?_append_right (by omega), Nat.add_sub_cancel_left, List.getElem?_append_left hlt]
    exact hi
  have hAR : ∀ (i : Nat) (c : Ch), (A ++ R)[i]? = some c → ∃ j, (A ++ (B ++ R))[j]? = some c ∧ (j < A.length ∨ A.length + B.length ≤ j) := fun i c hi => by
    by_cases hlt : i < A.length
    · refine ⟨i, ?_, .inl hlt⟩
      rw [List.getElem?_append_left hlt] at hi ⊢
      exact hi
    · refine ⟨i + B.length, ?_, .inr (by omega)⟩
      rw [List.getElem?_append_right (by omega)] at hi
      rw [List.getElem?_append_right (by omega), List.getElem?_append_right (by omega), show i + B.length - A.length - B.length = i - A.length by omega]
      exact hi
  refine ⟨h.fr.trans k fun g hg => ?_, fun i c hi => ⟨c.keep (hd.own i c hi).1 fun g hg => k.block g (c.lt (hd.own i c hi).1 g hg) fun hgB => ?_, (hd.own i c hi).2⟩, hd.apart⟩
  · obtain ⟨i, c, hi, -, hc⟩ := hB g hg
    exact (h.own _ c hi).2 g hc
  · obtain ⟨j, hj, hne⟩ := hAR i c hi
    obtain ⟨m, d, hm, hml, hgd⟩ := hB g hgB
    exact h.apart j (A.length + m) c d hj hm (by omega) g hg hgd
end Go.Ofp
namespace Go.Proofs.YtneolmnpebiifaaGreatDoor
open Go.RowKit Go.Ofp
/-- What new pieces make of the reference's lists. -/
def RsK (s s' : ShS) (ca : Option Addr) (cc : Nat) (da : Option Addr) (dc : Nat) (ca' : Option Addr) (cc' : Nat) (da' : Option Addr) (dc' : Nat) (L' : List Ch) : Prop :=
  ∀ (w0 : World) (F : List Nat) (A B : List Ch) (W : World), St w0 F (A ++ (L' ++ B)) W → (LC W s ca cc → LC W s' ca' cc') ∧ (LD W s da dc → LD W s' da' dc')
/-- The reference's lists, over the pieces R. -/
def RsL (w0 : World) (s : ShS) (ca : Option Addr) (cc : Nat) (da : Option Addr) (dc : Nat) (R : List Ch) : Prop :=
  ∀ (A B : List Ch) (W : World), St w0 [] (A ++ (R ++ B)) W → LC W s ca cc ∧ LD W s da dc
theorem RsL.step {w0 : World} {s s' : ShS} {ca ca' : Option Addr} {cc cc' : Nat} {da da' : Option Addr} {dc dc' : Nat} {R L' : List Ch} (h : RsL w0 s ca cc da dc R) (k : RsK s s' ca cc da dc ca' cc' da' dc' L') : RsL w0 s' ca' cc' da' dc' (L' ++ R) := by
  intro A B W hW
  rw [List.append_assoc] at hW
  obtain ⟨k1, k2⟩ := k w0 [] A (R ++ B) W hW
  rw [← List.append_assoc] at hW
  obtain ⟨h1, h2⟩ := h (A ++ L') B W hW
  exact ⟨k1 h1, k2 h2⟩
theorem RsL.at {w0 : World} {s : ShS} {ca : Option Addr} {cc : Nat} {da : Option Addr} {dc : Nat} {R A : List Ch} {W : World} (h : RsL w0 s ca cc da dc R) (hW : St w0 [] (A ++ R) W) : LC W s ca cc ∧ LD W s da dc := h A [] W (by rw [List.append_nil]; exact hW)
theorem RsL.old {w0 : World} {s : ShS} {ca : Option Addr} {cc : Nat} {da : Option Addr} {dc : Nat} (h1 : LC w0 s ca cc) (h2 : LD w0 s da dc) : RsL w0 s ca cc da dc [] := fun A B W hW => ⟨h1.below hW.below, h2.below hW.below⟩
theorem RsK.same (s : ShS) (ca : Option Addr) (cc : Nat) (da : Option Addr) (dc : Nat) (L' : List Ch) : RsK s s ca cc da dc ca cc da dc L' := fun _ _ _ _ _ _ => ⟨id, id⟩
theorem RsK.cards {s s' : ShS} {ca : Option Addr} {cc : Nat} {da : Option Addr} {dc : Nat} {ca' : Option Addr} {cc' : Nat} (hd : s'.dead = s.dead) (hm : ∀ x ∈ s'.m, x.f.length = 8) : RsK s s' ca cc da dc ca' cc' da dc [Ch.row 58 27 (.slice ca' s'.m.length cc') s'.m.length (s'.m.map cdRow).flatten] := by
  intro w0 F A B W hW
  refine ⟨fun _ => hW.lst A.length (at_len A _ B) rfl hm, fun h => ?_⟩
  unfold LD at h ⊢
  rw [hd]
  exact h
theorem RsK.both {s s' : ShS} {ca : Option Addr} {cc : Nat} {da : Option Addr} {dc : Nat} {ca' da' : Option Addr} {cc' dc' : Nat} {D : Ch} (hm : ∀ x ∈ s'.m, x.f.length = 8) (hD : ∀ W, D.holds W → LD W s' da' dc') : RsK s s' ca cc da dc ca' cc' da' dc' [Ch.row 58 27 (.slice ca' s'.m.length cc') s'.m.length (s'.m.map cdRow).flatten, D] := by
  intro w0 F A B W hW
  exact ⟨fun _ => hW.lst A.length (by simp; rfl) rfl hm, fun _ => hD W (hW.get (A.length + 1) (by simp))⟩
end Go.Proofs.YtneolmnpebiifaaGreatDoor
end

section
/- A store into an element of a row of the call's own, at an operation of a drawn region. -/
set_option linter.unusedSimpArgs false
set_option linter.unusedVariables false
namespace Go.Ofp
open Go.RowKit
section
variable {P : Program} {w w0 : World} {F : List Nat} {L : List Ch} {ops : Array Oper} {rest : List Oper} {o : Oper} {a : Act} {Q : Exit → Act → World → Prop} {K : Act → World → Prop}
end
end Go.Ofp
end

section
/- The reference's shelf: Write. -/
set_option linter.unusedSimpArgs false
set_option linter.unusedVariables false
namespace Go.Proofs.YtneolmnpebiifaaGreatDoor
open Go.RowKit Go.Ofp
set_option linter.unusedVariables false
set_option maxRecDepth 100000
set_option maxHeartbeats 4000000
end Go.Proofs.YtneolmnpebiifaaGreatDoor
end
