/- A region that draws its order ends in one form: its tail is walked once. -/
import Derived.Test.YtplgpbbghhlbjaaDoorSt8
set_option linter.unusedSimpArgs false
set_option linter.unusedVariables false
namespace Go.Ofp
open Go.RowKit
/-- Behind a region nothing but its common end. -/
@[reducible] def CutQ (S : Act → World → Prop) : Exit → Act → World → Prop
  | .normal, a, w => S a w
  | _, _, _ => False
section
variable {P : Program} {c : Code} {Q : Exit → Act → World → Prop} {a : Act} {w w0 : World} {F : List Nat}
theorem wp_cutQ {S : Act → World → Prop} (h : c.wp P (CutQ S) a w) (k : ∀ a w, S a w → Q .normal a w) : c.wp P Q a w := by
  refine Code.wp_mono (fun e a w q => ?_) h
  cases e with
  | normal => exact k a w q
  | _ => exact q.elim
/-- No new block. -/
theorem wp_cut0 {L0 : List Ch} {T : Act} {L : List Ch} (h : St w0 F L0 w → c.wp P (CutQ fun a w => a = T ∧ St w0 F L w) a w) (k : ∀ w, St w0 F L w → Q .normal T w) : St w0 F L0 w → c.wp P Q a w := fun h0 =>
  wp_cutQ (h h0) fun _ w h => h.1 ▸ k w h.2
/-- One new block. -/
theorem wp_cut1 {L0 : List Ch} {T : Nat → Act} {L : Nat → List Ch} (h : St w0 F L0 w → c.wp P (CutQ fun a w => ∃ g, a = T g ∧ St w0 F (L g) w) a w) (k : ∀ g w, St w0 F (L g) w → Q .normal (T g) w) : St w0 F L0 w → c.wp P Q a w := fun h0 =>
  wp_cutQ (h h0) fun _ w ⟨g, h, hS⟩ => h ▸ k g w hS
/-- Two new blocks. -/
theorem wp_cut2 {L0 : List Ch} {T : Nat → Nat → Act} {L : Nat → Nat → List Ch} (h : St w0 F L0 w → c.wp P (CutQ fun a w => ∃ g1 g2, a = T g1 g2 ∧ St w0 F (L g1 g2) w) a w) (k : ∀ g1 g2 w, St w0 F (L g1 g2) w → Q .normal (T g1 g2) w) : St w0 F L0 w → c.wp P Q a w := fun h0 =>
  wp_cutQ (h h0) fun _ w ⟨g1, g2, h, hS⟩ => h ▸ k g1 g2 w hS
/-- Three new blocks. -/
theorem wp_cut3 {L0 : List Ch} {T : Nat → Nat → Nat → Act} {L : Nat → Nat → Nat → List Ch} (h : St w0 F L0 w → c.wp P (CutQ fun a w => ∃ g1 g2 g3, a = T g1 g2 g3 ∧ St w0 F (L g1 g2 g3) w) a w) (k : ∀ g1 g2 g3 w, St w0 F (L g1 g2 g3) w → Q .normal (T g1 g2 g3) w) : St w0 F L0 w → c.wp P Q a w := fun h0 =>
  wp_cutQ (h h0) fun _ w ⟨g1, g2, g3, h, hS⟩ => h ▸ k g1 g2 g3 w hS
/-- One new value. -/
theorem wp_cutv {L0 : List Ch} {T : Value → Act} {L : Value → List Ch} (h : St w0 F L0 w → c.wp P (CutQ fun a w => ∃ g, a = T g ∧ St w0 F (L g) w) a w) (k : ∀ g w, St w0 F (L g) w → Q .normal (T g) w) : St w0 F L0 w → c.wp P Q a w := fun h0 =>
  wp_cutQ (h h0) fun _ w ⟨g, h, hS⟩ => h ▸ k g w hS
/-- Two new values, three. -/
theorem wp_cutv2 {T : Value → Value → Act} {L0 : List Ch} {L : Value → Value → List Ch} (h : St w0 F L0 w → c.wp P (CutQ fun a w => ∃ u v, a = T u v ∧ St w0 F (L u v) w) a w) (k : ∀ u v w, St w0 F (L u v) w → Q .normal (T u v) w) : St w0 F L0 w → c.wp P Q a w := fun h0 =>
  wp_cutQ (h h0) fun _ w ⟨u, v, h, hS⟩ => h ▸ k u v w hS
theorem wp_cutv3 {T : Value → Value → Value → Act} {L0 : List Ch} {L : Value → Value → Value → List Ch} (h : St w0 F L0 w → c.wp P (CutQ fun a w => ∃ u v x, a = T u v x ∧ St w0 F (L u v x) w) a w) (k : ∀ u v x w, St w0 F (L u v x) w → Q .normal (T u v x) w) : St w0 F L0 w → c.wp P Q a w := fun h0 =>
  wp_cutQ (h h0) fun _ w ⟨u, v, x, h, hS⟩ => h ▸ k u v x w hS
end
end Go.Ofp
