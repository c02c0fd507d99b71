/- A region in which the first two pieces are read and not written: they are the class. -/
import Derived.Test.YtplgpbbghhlbjaaDoorSt9
import Derived.Test.YtplgpbbghhlbjaaDoorCut
set_option linter.unusedSimpArgs false
set_option linter.unusedVariables false
namespace Go.Ofp
open Go.RowKit
theorem St.fore2 {w0 w : World} {F : List Nat} {L : List Ch} {c d : Ch} (h : St w0 F (c :: d :: L) w) : St w0 F [c, d] w := St.fore (A := [c, d]) h
theorem St.fore3 {w0 w : World} {F : List Nat} {L : List Ch} {c d e : Ch} (h : St w0 F (c :: d :: e :: L) w) : St w0 F [c, d, e] w := St.fore (A := [c, d, e]) h
theorem mixs_beginC2 {P : Program} {Q : Exit → Act → World → Prop} {a : Act} {w w0 : World} {F : List Nat} {L : List Ch} {c d : Ch} {id : Nat} {l : List Oper} (hm : P.follows .mixedOrders = true) (hS : St w0 F (c :: d :: L) w)
    (h : ∀ w', St w0 F (c :: d :: L) w' → St w0 F [c, d] w' → wpAnyH P .any l.toArray Q (fun w' => St w0 F [c, d] w') l.length (Array.replicate l.length false) a w') : (Code.region id l.toArray true).wp P Q a w := by
  refine wp_region_held (S := fun w' => St w0 F [c, d] w') hm ?_
  simpa using h w.drew hS.drew hS.drew.fore2
theorem mixs_beginC3 {P : Program} {Q : Exit → Act → World → Prop} {a : Act} {w w0 : World} {F : List Nat} {L : List Ch} {c d e : Ch} {id : Nat} {l : List Oper} (hm : P.follows .mixedOrders = true) (hS : St w0 F (c :: d :: e :: L) w)
    (h : ∀ w', St w0 F (c :: d :: e :: L) w' → St w0 F [c, d, e] w' → wpAnyH P .any l.toArray Q (fun w' => St w0 F [c, d, e] w') l.length (Array.replicate l.length false) a w') : (Code.region id l.toArray true).wp P Q a w := by
  refine wp_region_held (S := fun w' => St w0 F [c, d, e] w') hm ?_
  simpa using h w.drew hS.drew hS.drew.fore3
/-- Some cells of a block of the call's own. -/
def Ch.part (g : Nat) (ks : List (Nat × Value)) : Ch where
  foot := [g]
  holds w := g < w.heap.size ∧ ∀ x ∈ ks, w.cell? ⟨g, x.1, none⟩ = some x.2
  lt h x hx := by simp at hx; subst hx; exact h.1
  keep {w w'} h k := by
    have e := k g (by simp)
    refine ⟨?_, fun x hx => by rw [World.cell?_of_block e]; exact h.2 x hx⟩
    have h1 := Array.getElem?_eq_getElem h.1
    rw [← e] at h1
    exact (Array.getElem?_eq_some_iff.1 h1).1
theorem St.toPart {w0 w : World} {F : List Nat} {L : List Ch} {c : Ch} {g T : Nat} {cs : Array Value} {ks : List (Nat × Value)} (h : St w0 F (c :: Ch.blk g T cs :: L) w) (hk : ∀ x ∈ ks, cs[x.1]? = some x.2) : St w0 F [c, Ch.part g ks] w := by
  have h1 := h.fore2
  have hlt : g < w.heap.size := (Ch.blk g T cs).lt (h.get 1 rfl) g (by simp [Ch.blk])
  have hd : (Ch.part g ks).holds w := ⟨hlt, fun x hx => by
    have := h.cell 1 rfl x.1
    rw [this]
    exact hk x hx⟩
  have h2 := h1.upd (G := []) 1 rfl (Fr.refl _ _) (by simp) hd (by simp [Ch.blk, Ch.part])
  simpa using h2
theorem St.kpart {w0 w : World} {F : List Nat} {L : List Ch} {g : Nat} {ks : List (Nat × Value)} (_ : St w0 F L w) (i : Nat) (hi : L[i]? = some (Ch.part g ks)) : ∀ (x : Nat × Value), x ∈ ks → ∀ s : Cl w0 F L, s.1.cell? ⟨g, x.1, none⟩ = some x.2 := fun x hx s => (s.2.get i hi).2 x hx
theorem mixs_beginP {P : Program} {Q : Exit → Act → World → Prop} {a : Act} {w w0 : World} {F : List Nat} {L : List Ch} {c : Ch} {g T : Nat} {cs : Array Value} {id : Nat} {l : List Oper} (ks : List (Nat × Value)) (hm : P.follows .mixedOrders = true) (hS : St w0 F (c :: Ch.blk g T cs :: L) w) (hk : ∀ x ∈ ks, cs[x.1]? = some x.2)
    (h : ∀ w', St w0 F (c :: Ch.blk g T cs :: L) w' → St w0 F [c, Ch.part g ks] w' → wpAnyH P .any l.toArray Q (fun w' => St w0 F [c, Ch.part g ks] w') l.length (Array.replicate l.length false) a w') : (Code.region id l.toArray true).wp P Q a w := by
  refine wp_region_held (S := fun w' => St w0 F [c, Ch.part g ks] w') hm ?_
  simpa using h w.drew hS.drew (hS.drew.toPart hk)
section
variable {P : Program} {c : Code} {Q : Exit → Act → World → Prop} {a : Act} {w w0 : World} {F : List Nat}
/-- Two new things of any kind. -/
theorem wp_cutxy {X Y : Type} {T : X → Y → Act} {L0 : List Ch} {L : X → Y → List Ch} (h : St w0 F L0 w → c.wp P (CutQ fun a w => ∃ u v, a = T u v ∧ St w0 F (L u v) w) a w) (k : ∀ u v w, St w0 F (L u v) w → Q .normal (T u v) w) : St w0 F L0 w → c.wp P Q a w := fun h0 =>
  wp_cutQ (h h0) fun _ w ⟨u, v, h, hS⟩ => h ▸ k u v w hS
end
end Go.Ofp
