/- Roots: which may be, their sectors, the root of a sector; a disk's root: plain law. -/
import Derived.Test.YtlhpibniecfofaaSumMath
import Derived.Test.YtlhpibniecfofaaOctetMath
import Derived.Test.YtlhpibniecfofaaDiskMath
set_option linter.unusedSimpArgs false
set_option linter.unusedVariables false
namespace Go.Ofp

/-- A root. -/
structure Rt where
  seq : Int
  life : Int
  head : Int

namespace Rt
def row (x : Rt) : List Value := [.int .i64 x.seq, .int .i64 x.life, .int .i64 x.head]
def ok (x : Rt) : Bool := decide (1 ≤ x.seq) && (decide (x.seq < 4294967296) && (decide (1 ≤ x.life) && (decide (x.life < 4294967296) && (decide (0 ≤ x.head) && decide (x.head < 1099511627776)))))
theorem ok_iff (x : Rt) : x.ok = true ↔ 1 ≤ x.seq ∧ x.seq < 4294967296 ∧ 1 ≤ x.life ∧ x.life < 4294967296 ∧ 0 ≤ x.head ∧ x.head < 1099511627776 := by simp [ok]
def none : Rt := ⟨0, 0, 0⟩
/-- What a root's sector begins with. -/
def front (x : Rt) : List UInt8 := [114, 111, 111, 116] ++ numB (clampN x.seq) ++ numB (clampN x.life) ++ numB (clampN x.head)
theorem front_length (x : Rt) : x.front.length ≤ 22 := by
  have h1 := numB_six (clampN x.seq) (clampN_le _)
  have h2 := numB_six (clampN x.life) (clampN_le _)
  have h3 := numB_six (clampN x.head) (clampN_le _)
  simp [front]
  omega
def body (x : Rt) : List UInt8 := x.front ++ List.replicate (60 - x.front.length) 0
theorem body_length (x : Rt) : x.body.length = 60 := by
  have := x.front_length
  simp [body]
  omega
/-- A root's sector. -/
def secB (x : Rt) : List UInt8 := sealed x.body
theorem secB_length (x : Rt) : x.secB.length = 64 := by simp [secB, sealed, body_length, le4]
def putB (x : Rt) : List UInt8 := if x.ok then x.secB else []
/-- The numbers behind a root's word. -/
def read (l : List UInt8) : Rt × Int :=
  let a := rdNum (l.drop 4) 0 4294967295
  let b := rdNum a.2.1 a.2.2 4294967295
  let c := rdNum b.2.1 b.2.2 1099511627775
  (⟨a.1, b.1, c.1⟩, c.2.2)
def isB (l : List UInt8) : Bool := decide (l.length = 64 ∧ l.take 4 = [114, 111, 111, 116] ∧ (read l).2 = 0 ∧ (read l).1.ok = true ∧ (read l).1.secB = l)
/-- The root of a sector. -/
def getB (l : List UInt8) : Rt × Bool := if isB l then ((read l).1, true) else (none, false)
end Rt
end Go.Ofp
