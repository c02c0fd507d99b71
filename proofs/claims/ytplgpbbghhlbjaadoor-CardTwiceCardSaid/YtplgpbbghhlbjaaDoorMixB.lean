/- As Mix, with a bound of one's own: what lies below it stands, what lies above may be written. -/
import Derived.Test.YtplgpbbghhlbjaaDoorMix
set_option linter.unusedSimpArgs false
set_option linter.unusedVariables false
namespace Go.Ofp
open Go.RowKit

/-- A world in which all blocks below B stand as they stood. -/
def PastB (B : Nat) (w : World) : Type := { x : World // Below B w x }

theorem PastB.cell {B : Nat} {w : World} (s : PastB B w) {p : Addr} {v : Value} (h : w.cell? p = some v) (hp : p.block < B) : s.1.cell? p = some v := by
  rw [s.2.cell hp]; exact h

section
variable {P : Program} {Q : Exit → Act → World → Prop} {B : Nat}

theorem mixb_begin {id : Nat} {l : List Oper} {a : Act} {w : World} (B : Nat) (hm : P.follows .mixedOrders = true)
    (h : wpAnyH P .any l.toArray Q (fun w' => Below B w.drew w') l.length (Array.replicate l.length false) a w.drew) : (Code.region id l.toArray true).wp P Q a w := by
  refine wp_region_held (S := fun w' => Below B w.drew w') hm ?_
  simpa using h

variable {ops : Array Oper} {w0 w : World} {fuel : Nat} {listed : Array Bool} {a : Act} {oi : Oper}

theorem mixb_take (i : Nat) {v : Value} (hi : ops[i]? = some oi) (hok : (Region.noSelect ops && (Region.free .any ops listed i && (Region.ready .any ops listed).contains i)) = true)
    (hQ : ∀ c a w, Q (.panic c) (a.put oi.dst v) w → Q (.panic c) a w) (hw : Region.wanted oi (yielded ops a.tmps) = true) (hS : Below B w0 w)
    (hy : ∀ s : PastB B w0, (execOp a.eval oi).run P s.1 = .ok (.value v) s.1)
    (h : wpAnyH P .any ops Q (fun w' => Below B w0 w') fuel (listed.setIfInBounds i true) (a.put oi.dst v) w) :
    wpAnyH P .any ops Q (fun w' => Below B w0 w') (fuel + 1) listed a w := by
  simp only [Bool.and_eq_true] at hok
  exact wpAnyH_take hi hok.1 hok.2.1 hok.2.2 hQ (Or.inl ⟨hw, fun w' h' => hy ⟨w', h'⟩⟩) hS h

theorem mixb_skip (i : Nat) (hi : ops[i]? = some oi) (hok : (Region.noSelect ops && (Region.free .any ops listed i && (Region.ready .any ops listed).contains i)) = true)
    (hQ : ∀ c a w, Q (.panic c) (a.put oi.dst undef) w → Q (.panic c) a w) (hw : Region.wanted oi (yielded ops a.tmps) = false) (hS : Below B w0 w)
    (h : wpAnyH P .any ops Q (fun w' => Below B w0 w') fuel (listed.setIfInBounds i true) (a.put oi.dst undef) w) :
    wpAnyH P .any ops Q (fun w' => Below B w0 w') (fuel + 1) listed a w := by
  simp only [Bool.and_eq_true] at hok
  exact wpAnyH_take hi hok.1 hok.2.1 hok.2.2 hQ (Or.inr ⟨hw, rfl⟩) hS h

/-- Number i comes up, which alone may; behind it the class is that of the world then, with whatever bound that holds. -/
theorem mixb_one (i : Nat) {o : Oper} (hr : Region.ready .any ops listed = [i]) (ho : ops[i]? = some o) (hS : Below B w0 w)
    (h : ∀ K' : Act → World → Prop, Shut (∀ B' a w1, B ≤ B' → Below B w w1 → (Below B' w1 w1 → wpAnyH P .any ops Q (fun w' => Below B' w1 w') fuel (listed.setIfInBounds i true) a w1) → K' a w1) →
      if Region.wanted o (yielded ops a.tmps) = true then Oper.wp P o a w K' Q else K' (a.put o.dst undef) w) :
    wpAnyH P .any ops Q (fun w' => Below B w0 w') (fuel + 1) listed a w := by
  refine wpAnyH_ready hr (by simp) (AllReadyH.cons ho (fun K hK => h K ?_) AllReadyH.nil)
  intro B' a1 w1 hB hb hc
  have hb' : Below B w0 w1 := hS.trans hb
  exact hK.out a1 w1 hb' fun _ => wpAnyH_mono (fun _ h => hb'.trans (h.mono hB)) _ _ _ _ (hc (Below.refl _ _))
end

end Go.Ofp
