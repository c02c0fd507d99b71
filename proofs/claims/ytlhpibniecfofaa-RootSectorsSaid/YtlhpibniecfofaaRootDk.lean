/- A disk's root: plain law. -/
import Derived.Test.YtlhpibniecfofaaRootMath
import Derived.Test.YtlhpibniecfofaaDiskFit
import Derived.Test.YtlhpibniecfofaaDisk6
set_option linter.unusedSimpArgs false
set_option linter.unusedVariables false
namespace Go.Ofp
namespace Dk
/-- The better one of a root and that of a sector. -/
def better (d : Dk) (b : Rt) (i : Int) : Rt := if (d.read i).2 = 0 ∧ (Rt.getB (d.read i).1).2 = true ∧ b.seq < (Rt.getB (d.read i).1).1.seq then (Rt.getB (d.read i).1).1 else b
def best (d : Dk) : Nat → Rt
  | 0 => Rt.none
  | j + 1 => d.better (d.best j) j
/-- A disk's root, or why there is none. -/
def load (d : Dk) : Rt × Int := if d.dead then (Rt.none, 15) else if (d.best 2).seq = 0 then (Rt.none, 16) else (d.best 2, 0)
/-- A root is stored. -/
def store (d : Dk) (x : Rt) : Dk × Int :=
  if x.ok = false ∨ d.sec.length < 2 then (d, 1) else if (d.write (x.seq % 2) x.putB).2 = 0 then (d.write (x.seq % 2) x.putB).1.sync else ((d.write (x.seq % 2) x.putB).1, (d.write (x.seq % 2) x.putB).2)
theorem read_len {d : Dk} (h : d.Ok) (i : Int) : (d.read i).1.length ≤ 64 := by
  unfold Dk.read
  split
  · rename_i hr
    obtain ⟨-, h0, h1⟩ := ready_zero hr
    split
    · simp
    · have hs : (d.see i).b.length = 64 := by
        have e : d.see i = d.wait.foldl (over i) (d.sec.getD i.toNat ⟨[], true⟩) := rfl
        rw [e]
        refine over_len i d.wait (fun w hw => (h.wait w hw).2.2) _ ?_
        have hl : i.toNat < d.sec.length := by omega
        rw [List.getD_eq_getElem?_getD, List.getElem?_eq_getElem hl]
        exact h.sec _ (List.getElem_mem hl)
      exact Nat.le_of_eq hs
  · simp
theorem Fit.store {d : Dk} {n k : Nat} (h : d.Fit n k) (x : Rt) : (d.store x).1.Fit n (k + 1) := by
  unfold Dk.store
  split
  · exact h.mono (by omega)
  · split
    · exact (h.write _ _).sync
    · exact h.write _ _
end Dk
end Go.Ofp
