/- Texts laid together: TransFits. -/
import Derived.Test.YtajldelodnjmoaaM13
import Derived.Test.YtajldelodnjmoaaM15
section
/- Whether cards fit turns. -/
set_option linter.unusedSimpArgs false
set_option linter.unusedVariables false
namespace Go.Ofp
open Go.RowKit
/-- The version of a card among the first k. -/
def verTo (cs : List Cd) (id : Int) (k : Nat) : Int := (((cs.take k).reverse.find? fun c => decide (c.id = id)).map Cd.ver).getD 0
/-- What is known behind the first n turns. -/
structure Fit0 (cs : List Cd) (l : List Tn) (n : Nat) : Prop where
  b : ∀ i (hi : i < l.length), i < n → ∀ k (hk : k < l.length), k < i → l[k].id = l[i].id → l[k].new = l[i].new → l[k].c = l[i].c
  a : ∀ i (hi : i < l.length), i < n → ∀ k (hk : k < cs.length), cs[k].id = l[i].id → cs[k].ver = l[i].new → cs[k] = l[i].c
  c : ∀ i (hi : i < l.length), i < n → firstOf (l.take i) l[i].id = none → verTo cs l[i].id cs.length = l[i].old
end Go.Ofp
namespace Go.Proofs.Ytajldelodnjmoaa
open Go.RowKit Go.Ofp
set_option linter.unusedVariables false
set_option maxRecDepth 100000
set_option maxHeartbeats 4000000

end Go.Proofs.Ytajldelodnjmoaa
end
