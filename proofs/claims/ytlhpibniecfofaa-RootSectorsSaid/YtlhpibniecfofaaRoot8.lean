/- Roots: the chapter's example; a root read back. -/
import Derived.Test.YtlhpibniecfofaaRootDk
import Derived.Test.YtlhpibniecfofaaOctetBack
set_option linter.unusedSimpArgs false
set_option linter.unusedVariables false
namespace Go.Ofp
namespace Rt
theorem read_secB (x : Rt) (h : x.ok = true) : read x.secB = (x, 0) := by
  obtain ⟨h1, h2, h3, h4, h5, h6⟩ := x.ok_iff.1 h
  obtain ⟨a, b, c⟩ := x
  simp only at h1 h2 h3 h4 h5 h6
  obtain ⟨a, rfl⟩ := Int.eq_ofNat_of_zero_le (show 0 ≤ a by omega)
  obtain ⟨b, rfl⟩ := Int.eq_ofNat_of_zero_le (show 0 ≤ b by omega)
  obtain ⟨c, rfl⟩ := Int.eq_ofNat_of_zero_le (show 0 ≤ c by omega)
  have ca : clampN (a : Int) = a := by unfold clampN maxNum; omega
  have cb : clampN (b : Int) = b := by unfold clampN maxNum; omega
  have cc : clampN (c : Int) = c := by unfold clampN maxNum; omega
  have e : ∃ r, ((⟨a, b, c⟩ : Rt).secB).drop 4 = numB a ++ (numB b ++ (numB c ++ r)) := by
    refine ⟨List.replicate (60 - (front ⟨a, b, c⟩).length) 0 ++ le4 (crc (body ⟨a, b, c⟩)), ?_⟩
    rw [secB, sealed]
    generalize le4 (crc (body ⟨a, b, c⟩)) = cr
    rw [body]
    simp only [front, ca, cb, cc]
    simp
  obtain ⟨r, hr⟩ := e
  unfold read
  rw [hr]
  have n1 := nextB_numB a 4294967295 (numB b ++ (numB c ++ r)) (by unfold maxNum; omega) (by omega)
  have n2 := nextB_numB b 4294967295 (numB c ++ r) (by unfold maxNum; omega) (by omega)
  have n3 := nextB_numB c 1099511627775 r (by unfold maxNum; omega) (by omega)
  simp [rdNum, n1, n2, n3]
theorem get_secB (x : Rt) (h : x.ok = true) : getB x.secB = (x, true) := by
  have ht : x.secB.take 4 = [114, 111, 111, 116] := by
    rw [secB, sealed, body, front]
    simp
  rw [getB, isB, if_pos]
  · rw [read_secB x h]
  · rw [decide_eq_true_eq, read_secB x h]
    exact ⟨x.secB_length, ht, rfl, h, rfl⟩
end Rt
namespace Dk
/-- A disk of two sectors on which nothing waits. -/
def two (a b : Sc) : Dk := ⟨[a, b], [], -1, false⟩
theorem two_write0 (a b : Sc) (x : List UInt8) (hx : x.length = 64) : (two a b).write 0 x = (⟨[a, b], [⟨0, x⟩], -1, false⟩, 0) := by
  simp [write, two, ready, step, hx]
theorem two_write1 (a b : Sc) (x : List UInt8) (hx : x.length = 64) : (two a b).write 1 x = (⟨[a, b], [⟨1, x⟩], -1, false⟩, 0) := by
  simp [write, two, ready, step, hx]
theorem two_store1 (a b : Sc) (x : Rt) (h : x.ok = true) (hs : x.seq % 2 = 1) : (two a b).store x = (two a ⟨x.secB, false⟩, 0) := by
  have hp : x.putB = x.secB := if_pos h
  rw [store, if_neg (by simp [h, two]), hs, hp, two_write1 a b _ x.secB_length, if_pos rfl]
  simp [sync, ready, step, done, two]
theorem two_store0 (a b : Sc) (x : Rt) (h : x.ok = true) (hs : x.seq % 2 = 0) : (two a b).store x = (two ⟨x.secB, false⟩ b, 0) := by
  have hp : x.putB = x.secB := if_pos h
  rw [store, if_neg (by simp [h, two]), hs, hp, two_write0 a b _ x.secB_length, if_pos rfl]
  simp [sync, ready, step, done, two]
theorem two_read0 (a b : Sc) : (two a b).read 0 = if a.bad then ([], 16) else (a.b, 0) := by
  simp [read, two, ready, see]
theorem two_read1 (a b : Sc) : (two a b).read 1 = if b.bad then ([], 16) else (b.b, 0) := by
  simp [read, two, ready, see]
/-- The root of a sector, or none. -/
def rootOf (s : Sc) : Rt × Bool := if s.bad then (Rt.none, false) else Rt.getB s.b
def over1 (b : Rt) (g : Rt × Bool) : Rt := if g.2 = true ∧ b.seq < g.1.seq then g.1 else b
theorem better_of (d : Dk) (b : Rt) (i : Int) (s : Sc) (h : d.read i = if s.bad then ([], 16) else (s.b, 0)) : d.better b i = over1 b (rootOf s) := by
  unfold better over1 rootOf
  rw [h]
  cases s.bad with
  | true => simp
  | false => simp
theorem two_best (a b : Sc) : (two a b).best 2 = over1 (over1 Rt.none (rootOf a)) (rootOf b) := by
  show better _ (better _ Rt.none 0) 1 = _
  rw [better_of _ _ _ b (two_read1 a b), better_of _ _ _ a (two_read0 a b)]
theorem two_load (a b : Sc) : (two a b).load = if (over1 (over1 Rt.none (rootOf a)) (rootOf b)).seq = 0 then (Rt.none, 16) else (over1 (over1 Rt.none (rootOf a)) (rootOf b), 0) := by
  rw [load, if_neg (by simp [two]), two_best]
theorem rootOf_sec (x : Rt) (h : x.ok = true) : rootOf ⟨x.secB, false⟩ = (x, true) := by
  rw [rootOf, if_neg (by simp), Rt.get_secB x h]
theorem rootOf_bad (l : List UInt8) : rootOf ⟨l, true⟩ = (Rt.none, false) := by rw [rootOf, if_pos rfl]
theorem rootOf_zero : rootOf ⟨List.replicate 64 0, false⟩ = (Rt.none, false) := by
  rw [rootOf, if_neg (by simp), Rt.getB, Rt.isB, if_neg]
  rw [decide_eq_true_eq]
  intro h
  have := h.2.1
  simp at this
end Dk
end Go.Ofp
