/- Texts laid together: BookV GkR. -/
import Derived.Test.YtneolmnpebiifaaGreatDoorM16
import Derived.Test.YtneolmnpebiifaaGreatDoorM26
import Derived.Test.YtneolmnpebiifaaGreatDoorM28
import Derived.Test.YtneolmnpebiifaaGreatDoorM3
import Derived.Test.YtneolmnpebiifaaGreatDoorM30
import Derived.Test.YtneolmnpebiifaaGreatDoorM9
section
/- The book: both sides in memory, told alike. -/
set_option linter.unusedSimpArgs false
set_option linter.unusedVariables false
namespace Go.Ofp
open Go.RowKit
/-- What new pieces make of a fact on memory. -/
def Stp (p q : World → Prop) (L : List Ch) : Prop := ∀ (w0 : World) (F : List Nat) (A B : List Ch) (W : World), St w0 F (A ++ (L ++ B)) W → p W → q W
/-- A fact that stands over the pieces R. -/
def Ovr (w0 : World) (p : World → Prop) (R : List Ch) : Prop := ∀ (A B : List Ch) (W : World), St w0 [] (A ++ (R ++ B)) W → p W
theorem Stp.same (p : World → Prop) (L : List Ch) : Stp p p L := fun _ _ _ _ _ _ h => h
theorem Ovr.step {w0 : World} {p q : World → Prop} {R L : List Ch} (h : Ovr w0 p R) (k : Stp p q L) : Ovr w0 q (L ++ R) := by
  intro A B W hW
  rw [List.append_assoc] at hW
  have k1 := k w0 [] A (R ++ B) W hW
  rw [← List.append_assoc] at hW
  exact k1 (h (A ++ L) B W hW)
theorem Ovr.more {w0 : World} {p : World → Prop} {R : List Ch} (h : Ovr w0 p R) (L : List Ch) : Ovr w0 p (L ++ R) := h.step (Stp.same p L)
theorem Ovr.at {w0 : World} {p : World → Prop} {R A : List Ch} {W : World} (h : Ovr w0 p R) (hW : St w0 [] (A ++ R) W) : p W := h A [] W (by rw [List.append_nil]; exact hW)
theorem Stp.ovr {w0 : World} {p : World → Prop} {R : List Ch} (h : Stp (fun _ => True) p R) : Ovr w0 p R := fun A B W hW => h w0 [] A B W hW trivial
theorem does_fin {b : BkS} {e : Ed} (h1 : e.check = 0) (h2 : ¬ 1099511627676 < b.seq) : b.does e = b.fin (b.act e) := by
  unfold BkS.does BkS.fin
  rw [if_neg (by simpa using h1), if_neg h2]
theorem check_kind {e : Ed} (h : e.check = 0) : e.kind = 1 ∨ e.kind = 2 ∨ e.kind = 3 ∨ e.kind = 4 ∨ e.kind = 5 ∨ e.kind = 6 ∨ e.kind = 7 := by
  unfold Ed.check at h
  split at h
  · cases h
  · omega
end Go.Ofp
namespace Go.Proofs.YtneolmnpebiifaaGreatDoor
open Go.RowKit Go.Ofp
/-- Where the program's book has its lists. -/
structure PV where
  ga : Option Addr
  gc : Nat
  grs : List Gr
  da : Option Addr
  dc : Nat
abbrev bkV (g gs gm : Nat) (b : BkS) (p : PV) : List Ch := bkA g gs gm b p.ga p.grs.length p.gc p.da p.dc
structure PV.at (p : PV) (b : BkS) (W : World) : Prop where
  ks : keys p.grs = b.ks
  deep : Deep W p.ga p.grs.length p.gc p.grs
/-- Where the reference's book, or plain data, has its lists. -/
structure RV where
  ca : Option Addr
  cc : Nat
  da : Option Addr
  dc : Nat
  ga : Option Addr
  gc : Nat
  grs : List Gr
structure RV.at (r : RV) (b : BkS) (W : World) : Prop where
  ks : keys r.grs = b.ks
  lc : LC W b.sh r.ca r.cc
  ld : LD W b.sh r.da r.dc
  deep : Deep W r.ga r.grs.length r.gc r.grs
/-- Plain data. -/
def bdRow (b : BkS) (r : RV) : List Value := .int .i64 b.seq :: (rsRow b.sh r.ca r.cc r.da r.dc ++ [.slice r.ga r.grs.length r.gc])
theorem bdRow_eq (b : BkS) (r : RV) : bdRow b r = [.int .i64 b.seq, .int .i64 b.sh.next, .slice r.ca b.sh.m.length r.cc, .slice r.da b.sh.dead.length r.dc, .slice r.ga r.grs.length r.gc] := rfl
theorem PV.at.below {p : PV} {b : BkS} {w w' : World} (h : p.at b w) (k : Below w.heap.size w w') : p.at b w' := ⟨h.ks, h.deep.below k⟩
theorem RV.at.below {r : RV} {b : BkS} {w w' : World} (h : r.at b w) (k : Below w.heap.size w w') : r.at b w' := ⟨h.ks, h.lc.below k, h.ld.below k, h.deep.below k⟩
/-- What an act of the program's book leaves. -/
def BkOutV (g gs gm : Nat) (b : BkS) (p : PV) (r : BkS × List (Int × Int) × Int) (w : World) (F : List Nat) (e : Ending) (w' : World) : Prop :=
  ∃ (p' : PV) (a : Option Addr) (c : Nat) (L' : List Ch), e = .returned (.tuple #[.slice a r.2.1.length c, .int .i64 r.2.2]) ∧
    St w F (bkV g gs gm r.1 p' ++ (Ch.row 48 2 (.slice a r.2.1.length c) r.2.1.length (chRows r.2.1) :: L')) w' ∧ Stp (p.at b) (p'.at r.1) L'
theorem BkOut.v {g gs gm : Nat} {b : BkS} {p : PV} {r : BkS × List (Int × Int) × Int} {w : World} {F : List Nat} {e : Ending} {w' : World} (h : BkOut g gs gm p.grs p.ga p.gc r w F e w') : BkOutV g gs gm b p r w F e w' := by
  obtain ⟨ga', gc', grs', da', dc', a, c, L', h1, h2, h3, h4⟩ := h
  exact ⟨⟨ga', gc', grs', da', dc'⟩, a, c, L', h2, h3, fun w0 F0 A B W hW hp => ⟨h1, h4 w0 F0 A B W hW hp.deep⟩⟩
end Go.Proofs.YtneolmnpebiifaaGreatDoor
end

section
/- Groups: the reference's contracts, told by pieces (printed by gen_gk.py). -/
set_option linter.unusedSimpArgs false
set_option linter.unusedVariables false
namespace Go.Proofs.YtneolmnpebiifaaGreatDoor
open Go.RowKit Go.Ofp
set_option linter.unusedVariables false
set_option maxRecDepth 100000
set_option maxHeartbeats 4000000
end Go.Proofs.YtneolmnpebiifaaGreatDoor
end
