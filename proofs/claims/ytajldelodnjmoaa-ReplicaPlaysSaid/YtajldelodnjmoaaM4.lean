/- Texts laid together: Ids2 Each Flat CardMath Open. -/
import Derived.Shelf.Abstract
import Derived.Laws.BitsAllLaws
import Derived.ProofKit
import Derived.OpenShut
import Derived.Test.YtajldelodnjmoaaM1
import Derived.Test.YtajldelodnjmoaaM3
section
/- Lists of numbers: the document's lists. -/
set_option linter.unusedSimpArgs false
set_option linter.unusedVariables false
namespace Go.Proofs.Ytajldelodnjmoaa
open Go.RowKit Go.Ofp
set_option linter.unusedVariables false
set_option maxRecDepth 100000
set_option maxHeartbeats 4000000

end Go.Proofs.Ytajldelodnjmoaa
end

section
/- The numbers of a set of bits, one behind the other. -/
set_option linter.unusedSimpArgs false
set_option linter.unusedVariables false
namespace Go.Ofp
/-- The numbers of a small set. -/
def bitsOf (n : Nat) : List Nat := (List.range 8).filter fun i => n.testBit i
end Go.Ofp
namespace Go.Proofs.Ytajldelodnjmoaa
open Go.RowKit Go.Ofp
set_option linter.unusedVariables false
set_option maxRecDepth 100000
set_option maxHeartbeats 4000000

/-- What the state's cell holds, as a number. -/
def held (b : Nat) (w : World) : Nat := match w.cell? ⟨b, 0, none⟩ with
  | some (.int _ z) => z.toNat
  | _ => 0

end Go.Proofs.Ytajldelodnjmoaa
end

section
/- Rows of one length, one behind the other. -/
set_option linter.unusedSimpArgs false
set_option linter.unusedVariables false
namespace Go.Ofp
theorem flat_len2 {α : Type} (k : Nat) (R : List (List α)) (h : ∀ r ∈ R, r.length = k) : R.flatten.length = R.length * k := by
  induction R with
  | nil => simp
  | cons r R ih => rw [List.flatten_cons, List.length_append, ih (fun x hx => h x (by simp [hx])), h r (by simp), List.length_cons, Nat.add_mul]; omega
theorem flat_drop {α : Type} (k : Nat) (R : List (List α)) (h : ∀ r ∈ R, r.length = k) (j : Nat) : R.flatten.drop (j * k) = (R.drop j).flatten := by
  induction R generalizing j with
  | nil => simp
  | cons r R ih =>
    cases j with
    | zero => simp
    | succ j =>
      have hr := h r (by simp)
      rw [List.flatten_cons, List.drop_succ_cons, ← ih (fun x hx => h x (by simp [hx])), List.drop_append, List.drop_of_length_le (by rw [hr, Nat.add_mul]; omega), List.nil_append, hr, show (j + 1) * k - k = j * k by rw [Nat.add_mul]; omega]
theorem flat_elem {α : Type} (k : Nat) (R : List (List α)) (h : ∀ r ∈ R, r.length = k) (j : Nat) (hj : j < R.length) : (R.flatten.drop (j * k)).take k = R[j] := by
  have hr := h _ (List.getElem_mem hj)
  rw [flat_drop k R h, List.drop_eq_getElem_cons hj, List.flatten_cons, List.take_left' hr]
end Go.Ofp
end

section
/- Cards: plain law. -/
set_option linter.unusedSimpArgs false
set_option linter.unusedVariables false
namespace Go.Ofp
/-- A field's value. -/
structure Vl where
  kind : Int
  n : Int
  s : ByteArray
deriving DecidableEq
/-- No value. -/
def Vl.zero : Vl := ⟨0, 0, ⟨#[]⟩⟩
/-- A card. -/
structure Cd where
  id : Int
  ver : Int
  lab : Nat
  f : List Vl
deriving DecidableEq
/-- A patch. -/
structure Pt where
  mask : Nat
  lab : Nat
  f : List Vl
deriving DecidableEq

/-- Some fields of f in the place of out's. -/
def putF (f : List Vl) (out : List Vl) (l : List Nat) : List Vl := l.foldl (fun o i => o.set i (f.getD i Vl.zero)) out
/-- No fields. -/
def noF : List Vl := List.replicate 8 Vl.zero
def Cd.proj (c : Cd) (m : Nat) : Cd := ⟨c.id, c.ver, if m.testBit 8 then c.lab else 0, putF c.f noF (bitsOf m)⟩
def Cd.of (c : Cd) (m : Nat) : Pt := ⟨m, (c.proj m).lab, (c.proj m).f⟩
def Cd.merge (c : Cd) (p : Pt) : Cd := ⟨c.id, if c.ver < 1099511627776 then c.ver + 1 else c.ver, if p.mask.testBit 8 then p.lab else c.lab, putF p.f c.f (bitsOf p.mask)⟩
def Cd.none (id : Int) : Cd := ⟨id, 0, 0, noF⟩
def Pt.fresh (id : Int) (p : Pt) : Cd := (Cd.none id).merge p
end Go.Ofp
namespace Go.Proofs.Ytajldelodnjmoaa
open Go.RowKit Go.Ofp
set_option linter.unusedVariables false
set_option maxRecDepth 100000
set_option maxHeartbeats 4000000

/-! ### In memory -/
theorem elem_value : Elem Try.prog 38 (.agg #[.int .i64 0, .int .i64 0, .string ⟨#[]⟩]) 3 32 := Elem.mk (by kernel_rfl) (by rfl) (by decide)
def vlRow (v : Vl) : List Value := [.int .i64 v.kind, .int .i64 v.n, .string v.s]
def flRow (f : List Vl) : List Value := (f.map vlRow).flatten
def cdRow (c : Cd) : List Value := .int .i64 c.id :: .int .i64 c.ver :: .int .u32 c.lab :: flRow c.f
theorem flRow_length (f : List Vl) : (flRow f).length = f.length * 3 := by
  induction f with
  | nil => rfl
  | cons v f ih => simp [flRow, vlRow] at ih ⊢; omega
theorem vl_each (f : List Vl) : ∀ r ∈ f.map vlRow, r.length = 3 := by
  intro r hr
  obtain ⟨v, _, rfl⟩ := List.mem_map.1 hr
  rfl
theorem vl_one (v : Vl) : (vlRow v).all Value.oneCell' = true := rfl
theorem fl_one (f : List Vl) : (flRow f).all Value.oneCell' = true := by
  rw [List.all_eq_true]
  intro x hx
  obtain ⟨r, hr, hxr⟩ := List.mem_flatten.1 hx
  obtain ⟨v, _, rfl⟩ := List.mem_map.1 hr
  exact List.all_eq_true.1 (vl_one v) x hxr
/-- One field, behind h cells. -/
theorem fl_at (H : List Value) (f : List Vl) (i : Nat) (v : Vl) (hv : f[i]? = some v) : ((H ++ flRow f).drop (H.length + i * 3)).take 3 = vlRow v := by
  obtain ⟨hi, rfl⟩ := List.getElem?_eq_some_iff.1 hv
  rw [List.drop_append, List.drop_of_length_le (by omega), List.nil_append, show H.length + i * 3 - H.length = i * 3 by omega, flRow, flat_elem 3 _ (vl_each f) i (by simpa using hi), List.getElem_map]
end Go.Proofs.Ytajldelodnjmoaa
end

section
/- What came in, opened: arrays of integers, structs, slices of structs. -/
set_option linter.unusedSimpArgs false
set_option linter.unusedVariables false
namespace Go.Ofp
open Go.RowKit

section
variable {H : Type} {enc : TypeId × Value → H} {P : Program} {w : World} {base : Nat} {spare : Nat → Bool} {held : Bool} {t e : TypeId}

end

theorem wf_i64 {z : Int} (h : (Lit.int .i64 z).wf = true) : -9223372036854775808 ≤ z ∧ z ≤ 9223372036854775807 := by
  simpa [Lit.wf, IntKind.min, IntKind.max, IntKind.bits, IntKind.signed] using h

end Go.Ofp
end
