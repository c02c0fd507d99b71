/- Cards: plain law. -/
import Derived.Test.YtplgpbbghhlbjaaDoorEach
import Derived.Test.YtplgpbbghhlbjaaDoorFlat
set_option linter.unusedSimpArgs false
set_option linter.unusedVariables false
namespace Go.Ofp
/-- A field's value. -/
structure Vl where
  kind : Int
  n : Int
  s : ByteArray
deriving DecidableEq
/-- No value. -/
def Vl.zero : Vl := ⟨0, 0, ⟨#[]⟩⟩
/-- A card. -/
structure Cd where
  id : Int
  ver : Int
  lab : Nat
  f : List Vl
deriving DecidableEq
/-- A patch. -/
structure Pt where
  mask : Nat
  lab : Nat
  f : List Vl
deriving DecidableEq

/-- Some fields of f in the place of out's. -/
def putF (f : List Vl) (out : List Vl) (l : List Nat) : List Vl := l.foldl (fun o i => o.set i (f.getD i Vl.zero)) out
theorem putF_length (f out : List Vl) (l : List Nat) : (putF f out l).length = out.length := by
  unfold putF
  induction l generalizing out with
  | nil => rfl
  | cons i l ih => rw [List.foldl_cons, ih, List.length_set]
theorem putF_snoc (f out : List Vl) (l : List Nat) (i : Nat) : putF f out (l ++ [i]) = (putF f out l).set i (f.getD i Vl.zero) := by simp [putF]
theorem putF_get (f out : List Vl) (l : List Nat) (j : Nat) (hj : j < out.length) : (putF f out l)[j]? = if j ∈ l then some (f.getD j Vl.zero) else out[j]? := by
  induction l generalizing out with
  | nil => simp [putF]
  | cons i l ih =>
    have := ih (out.set i (f.getD i Vl.zero)) (by simpa using hj)
    rw [show putF f out (i :: l) = putF f (out.set i (f.getD i Vl.zero)) l from rfl, this]
    by_cases h1 : j ∈ l
    · simp [h1]
    · by_cases h2 : j = i
      · subst h2; simp [h1, hj]
      · simp [h1, h2, List.getElem?_set_ne (Ne.symm h2)]

/-- No fields. -/
def noF : List Vl := List.replicate 8 Vl.zero
def Cd.proj (c : Cd) (m : Nat) : Cd := ⟨c.id, c.ver, if m.testBit 8 then c.lab else 0, putF c.f noF (bitsOf m)⟩
def Cd.of (c : Cd) (m : Nat) : Pt := ⟨m, (c.proj m).lab, (c.proj m).f⟩
def Cd.merge (c : Cd) (p : Pt) : Cd := ⟨c.id, if c.ver < 1099511627776 then c.ver + 1 else c.ver, if p.mask.testBit 8 then p.lab else c.lab, putF p.f c.f (bitsOf p.mask)⟩
def Cd.none (id : Int) : Cd := ⟨id, 0, 0, noF⟩
def Pt.fresh (id : Int) (p : Pt) : Cd := (Cd.none id).merge p
end Go.Ofp
namespace Go.Proofs.YtplgpbbghhlbjaaDoor
open Go.RowKit Go.Ofp
set_option linter.unusedVariables false
set_option maxRecDepth 100000
set_option maxHeartbeats 4000000

/-! ### In memory -/
theorem elem_value : Elem Tryd.prog 24 (.agg #[.int .i64 0, .int .i64 0, .string ⟨#[]⟩]) 3 32 := Elem.mk (by kernel_rfl) (by rfl) (by decide)
def vlRow (v : Vl) : List Value := [.int .i64 v.kind, .int .i64 v.n, .string v.s]
def flRow (f : List Vl) : List Value := (f.map vlRow).flatten
def cdRow (c : Cd) : List Value := .int .i64 c.id :: .int .i64 c.ver :: .int .u32 c.lab :: flRow c.f
def ptRow (p : Pt) : List Value := .int .u32 p.mask :: .int .u32 p.lab :: flRow p.f
theorem vlRow_length (v : Vl) : (vlRow v).length = 3 := rfl
theorem flRow_length (f : List Vl) : (flRow f).length = f.length * 3 := by
  induction f with
  | nil => rfl
  | cons v f ih => simp [flRow, vlRow] at ih ⊢; omega
theorem vl_each (f : List Vl) : ∀ r ∈ f.map vlRow, r.length = 3 := by
  intro r hr
  obtain ⟨v, _, rfl⟩ := List.mem_map.1 hr
  rfl
theorem vl_one (v : Vl) : (vlRow v).all Value.oneCell' = true := rfl
theorem fl_one (f : List Vl) : (flRow f).all Value.oneCell' = true := by
  rw [List.all_eq_true]
  intro x hx
  obtain ⟨r, hr, hxr⟩ := List.mem_flatten.1 hx
  obtain ⟨v, _, rfl⟩ := List.mem_map.1 hr
  exact List.all_eq_true.1 (vl_one v) x hxr
/-- One field, behind h cells. -/
theorem fl_at (H : List Value) (f : List Vl) (i : Nat) (v : Vl) (hv : f[i]? = some v) : ((H ++ flRow f).drop (H.length + i * 3)).take 3 = vlRow v := by
  obtain ⟨hi, rfl⟩ := List.getElem?_eq_some_iff.1 hv
  rw [List.drop_append, List.drop_of_length_le (by omega), List.nil_append, show H.length + i * 3 - H.length = i * 3 by omega, flRow, flat_elem 3 _ (vl_each f) i (by simpa using hi), List.getElem_map]
theorem fl_put (H : List Value) (f : List Vl) (i : Nat) (v : Vl) (hi : i < f.length) : (H ++ flRow f).take (H.length + i * 3) ++ vlRow v ++ (H ++ flRow f).drop (H.length + i * 3 + 3) = H ++ flRow (f.set i v) := by
  have := flat_set 3 _ (vl_each f) i (by simpa using hi) (vlRow v)
  rw [List.take_append, List.take_of_length_le (by omega), List.drop_append, List.drop_of_length_le (by omega), List.nil_append, show H.length + i * 3 - H.length = i * 3 by omega, show H.length + i * 3 + 3 - H.length = i * 3 + 3 by omega,
    List.append_assoc, List.append_assoc, ← List.append_assoc (List.take _ _), flRow, this, ← List.map_set]
  rfl
end Go.Proofs.YtplgpbbghhlbjaaDoor
