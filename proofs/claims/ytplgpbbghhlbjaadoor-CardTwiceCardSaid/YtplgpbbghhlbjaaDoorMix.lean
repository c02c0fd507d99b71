/- A region that draws its order and holds calls (or allocations) that wait for one another, with reads between them: the condition on the world is turned behind each call. -/
import Derived.Test.YtplgpbbghhlbjaaDoorKit2
import Derived.Deep.RegionHeld
set_option linter.unusedSimpArgs false
set_option linter.unusedVariables false
namespace Go.Ofp
open Go.RowKit

theorem wpAnyH_mono {P : Program} {md : Region.Mode} {ops : Array Oper} {Q : Exit → Act → World → Prop} {S S' : World → Prop} (h : ∀ w, S' w → S w) :
    ∀ (fuel : Nat) (listed : Array Bool) (a : Act) (w : World), wpAnyH P md ops Q S' fuel listed a w → wpAnyH P md ops Q S fuel listed a w
  | 0, _, _, _, k => k
  | fuel + 1, _, _, _, k => ⟨k.1, fun i hi => wpOp_mono (fun _ _ hh => ⟨h _ hh.1, wpAnyH_mono h fuel _ _ _ hh.2⟩) (k.2 i hi)⟩

/-- The beginning: whatever comes is in order. -/
theorem mix_begin {P : Program} {id : Nat} {l : List Oper} {Q : Exit → Act → World → Prop} {a : Act} {w : World} (hm : P.follows .mixedOrders = true)
    (h : wpAnyH P .any l.toArray Q (fun w' => Below w.drew.heap.size w.drew w') l.length (Array.replicate l.length false) a w.drew) : (Code.region id l.toArray true).wp P Q a w := by
  refine wp_region_held (S := fun w' => Below w.drew.heap.size w.drew w') hm ?_
  simpa using h

section
variable {P : Program} {ops : Array Oper} {Q : Exit → Act → World → Prop} {w0 w : World} {fuel : Nat} {listed : Array Bool} {a : Act} {oi : Oper}

/-- Number i is taken: it yields v in every world that grew out of this one. -/
theorem mix_take (i : Nat) {v : Value} (hi : ops[i]? = some oi) (hok : (Region.noSelect ops && (Region.free .any ops listed i && (Region.ready .any ops listed).contains i)) = true)
    (hQ : ∀ c a w, Q (.panic c) (a.put oi.dst v) w → Q (.panic c) a w) (hw : Region.wanted oi (yielded ops a.tmps) = true) (hS : Below w0.heap.size w0 w)
    (hy : ∀ s : Past w0, (execOp a.eval oi).run P s.1 = .ok (.value v) s.1)
    (h : wpAnyH P .any ops Q (fun w' => Below w0.heap.size w0 w') fuel (listed.setIfInBounds i true) (a.put oi.dst v) w) :
    wpAnyH P .any ops Q (fun w' => Below w0.heap.size w0 w') (fuel + 1) listed a w := by
  simp only [Bool.and_eq_true] at hok
  exact wpAnyH_take hi hok.1 hok.2.1 hok.2.2 hQ (Or.inl ⟨hw, fun w' h' => hy ⟨w', h'⟩⟩) hS h

/-- Number i is passed over: its guard is off. -/
theorem mix_skip (i : Nat) (hi : ops[i]? = some oi) (hok : (Region.noSelect ops && (Region.free .any ops listed i && (Region.ready .any ops listed).contains i)) = true)
    (hQ : ∀ c a w, Q (.panic c) (a.put oi.dst undef) w → Q (.panic c) a w) (hw : Region.wanted oi (yielded ops a.tmps) = false) (hS : Below w0.heap.size w0 w)
    (h : wpAnyH P .any ops Q (fun w' => Below w0.heap.size w0 w') fuel (listed.setIfInBounds i true) (a.put oi.dst undef) w) :
    wpAnyH P .any ops Q (fun w' => Below w0.heap.size w0 w') (fuel + 1) listed a w := by
  simp only [Bool.and_eq_true] at hok
  exact wpAnyH_take hi hok.1 hok.2.1 hok.2.2 hQ (Or.inr ⟨hw, rfl⟩) hS h

/-- From now on the class is that of the world at hand. -/
theorem mix_base {w1 : World} (hb : Below w0.heap.size w0 w1) (h : wpAnyH P .any ops Q (fun w' => Below w1.heap.size w1 w') fuel listed a w) :
    wpAnyH P .any ops Q (fun w' => Below w0.heap.size w0 w') fuel listed a w :=
  wpAnyH_mono (fun _ h => hb.trans (h.mono hb.size)) _ _ _ _ h

/-- Number i comes up, which alone may; behind it the class is that of the world then. -/
theorem mix_one (i : Nat) {o : Oper} (hr : Region.ready .any ops listed = [i]) (ho : ops[i]? = some o) (hS : Below w0.heap.size w0 w)
    (h : ∀ K' : Act → World → Prop, Shut (∀ a w1, Below w.heap.size w w1 → (Below w1.heap.size w1 w1 → wpAnyH P .any ops Q (fun w' => Below w1.heap.size w1 w') fuel (listed.setIfInBounds i true) a w1) → K' a w1) →
      if Region.wanted o (yielded ops a.tmps) = true then Oper.wp P o a w K' Q else K' (a.put o.dst undef) w) :
    wpAnyH P .any ops Q (fun w' => Below w0.heap.size w0 w') (fuel + 1) listed a w := by
  refine wpAnyH_ready hr (by simp) (AllReadyH.cons ho (fun K hK => h K ?_) AllReadyH.nil)
  intro a1 w1 hb hc
  have hb' : Below w0.heap.size w0 w1 := hS.trans (hb.mono hS.size)
  exact hK.out a1 w1 hb' fun _ => mix_base hb' (hc (Below.refl _ _))

/-- Two may come up. -/
theorem mix_two (i j : Nat) {o o' : Oper} (hr : Region.ready .any ops listed = [i, j]) (ho : ops[i]? = some o) (ho' : ops[j]? = some o') (hS : Below w0.heap.size w0 w)
    (h : ∀ K' : Act → World → Prop, Shut (∀ a w1, Below w.heap.size w w1 → (Below w1.heap.size w1 w1 → wpAnyH P .any ops Q (fun w' => Below w1.heap.size w1 w') fuel (listed.setIfInBounds i true) a w1) → K' a w1) →
      if Region.wanted o (yielded ops a.tmps) = true then Oper.wp P o a w K' Q else K' (a.put o.dst undef) w)
    (h' : ∀ K' : Act → World → Prop, Shut (∀ a w1, Below w.heap.size w w1 → (Below w1.heap.size w1 w1 → wpAnyH P .any ops Q (fun w' => Below w1.heap.size w1 w') fuel (listed.setIfInBounds j true) a w1) → K' a w1) →
      if Region.wanted o' (yielded ops a.tmps) = true then Oper.wp P o' a w K' Q else K' (a.put o'.dst undef) w) :
    wpAnyH P .any ops Q (fun w' => Below w0.heap.size w0 w') (fuel + 1) listed a w := by
  refine wpAnyH_ready hr (by simp) (AllReadyH.cons ho (fun K hK => h K ?_) (AllReadyH.cons ho' (fun K hK => h' K ?_) AllReadyH.nil))
  · intro a1 w1 hb hc
    have hb' : Below w0.heap.size w0 w1 := hS.trans (hb.mono hS.size)
    exact hK.out a1 w1 hb' fun _ => mix_base hb' (hc (Below.refl _ _))
  · intro a1 w1 hb hc
    have hb' : Below w0.heap.size w0 w1 := hS.trans (hb.mono hS.size)
    exact hK.out a1 w1 hb' fun _ => mix_base hb' (hc (Below.refl _ _))
end

end Go.Ofp
