/- Sectors of pieces: the bytes, and back: plain law. -/
import Derived.Test.YtcpkmgmdhjhfaaaPieceMath
import Derived.Test.YtcpkmgmdhjhfaaaSumMath
set_option linter.unusedSimpArgs false
set_option linter.unusedVariables false
namespace Go.Ofp
set_option linter.unusedVariables false

/-- The lowest k bytes of a number, the lowest first. -/
def le (n : Nat) : Nat → List UInt8
  | 0 => []
  | k + 1 => UInt8.ofNat n :: le (n / 256) k

@[simp] theorem le_length (n k : Nat) : (le n k).length = k := by
  induction k generalizing n with
  | zero => rfl
  | succ k ih => simp [le, ih]

/-- The number of bytes, the lowest first. -/
def numLE : List UInt8 → Nat
  | [] => 0
  | b :: l => b.toNat + 256 * numLE l

theorem numLE_lt (l : List UInt8) : numLE l < 256 ^ l.length := by
  induction l with
  | nil => simp [numLE]
  | cons b l ih =>
    have := b.toNat_lt
    simp only [numLE, List.length_cons, Nat.pow_succ]
    omega

theorem numLE_le (n k : Nat) (h : n < 256 ^ k) : numLE (le n k) = n := by
  induction k generalizing n with
  | zero => simp at h; simp [le, numLE, h]
  | succ k ih =>
    rw [le, numLE, ih _ (by rw [Nat.pow_succ] at h; omega)]
    simp only [UInt8.toNat_ofNat']
    omega

/-- The number that tells a body's size and which end of its record it is. -/
def sizeFlags (p : Pc) : Nat := p.body.size + (if p.first then 64 else 0) + (if p.last then 128 else 0)

theorem sizeFlags_bits (p : Pc) (h : p.body.size ≤ 52) : sizeFlags p < 256 ∧ sizeFlags p % 64 = p.body.size ∧ (sizeFlags p / 64 % 2 == 1) = p.first ∧ (sizeFlags p / 128 == 1) = p.last := by
  unfold sizeFlags
  cases p.first <;> cases p.last <;> simp <;> omega

/-- A sector without its sum. -/
def headB (p : Pc) : List UInt8 := le p.life.toNat 4 ++ (le p.place.toNat 5 ++ (UInt8.ofNat (sizeFlags p) :: (p.body.data.toList ++ List.replicate (52 - p.body.size) 0)))

theorem headB_length (p : Pc) (h : p.body.size ≤ 52) : (headB p).length = 62 := by
  simp only [headB, List.length_append, le_length, List.length_cons, List.length_replicate, ← ba_size]
  omega

/-- A piece's sector. -/
def putB (p : Pc) : List UInt8 := if p.ok then headB p ++ le (crc (headB p)).toNat 2 else []

theorem putB_length (p : Pc) (h : p.ok = true) : (putB p).length = 64 := by
  rw [putB, if_pos h, List.length_append, headB_length p ((Pc.ok_iff p).1 h).2.2.2.2]
  simp

def noPc : Pc := ⟨0, 0, false, false, ⟨#[]⟩⟩

/-- What a sector's bytes say, if they say anything. -/
def readPc (s : ByteArray) : Pc :=
  ⟨numLE (s.data.toList.take 4), numLE ((s.data.toList.drop 4).take 5), (s.data.toList.getD 9 0).toNat / 64 % 2 == 1, (s.data.toList.getD 9 0).toNat / 128 == 1, s.extract 10 (10 + (s.data.toList.getD 9 0).toNat % 64)⟩

/-- The piece of a sector. -/
def getB (s : ByteArray) : Pc × Bool :=
  if s.size = 64 ∧ (s.data.toList.getD 9 0).toNat % 64 ≤ 52 ∧ str (putB (readPc s)) = s then (readPc s, true) else (noPc, false)

theorem get_put (p : Pc) (h : p.ok = true) : getB (str (putB p)) = (p, true) := by
  have hl := putB_length p h
  obtain ⟨h1, h2, h3, h4, h5⟩ := (Pc.ok_iff p).1 h
  obtain ⟨b1, b2, b3, b4⟩ := sizeFlags_bits p h5
  have hput : putB p = le p.life.toNat 4 ++ (le p.place.toNat 5 ++ (UInt8.ofNat (sizeFlags p) :: (p.body.data.toList ++ (List.replicate (52 - p.body.size) 0 ++ le (crc (headB p)).toNat 2)))) := by
    rw [putB, if_pos h, headB]
    simp
  have e9 : ((putB p).getD 9 0).toNat = sizeFlags p := by
    rw [hput, List.getD_eq_getElem?_getD, List.getElem?_append_right (by simp), List.getElem?_append_right (by simp)]
    simp only [le_length]
    simp [UInt8.toNat_ofNat']
    omega
  have e4 : (putB p).take 4 = le p.life.toNat 4 := by
    rw [hput, List.take_append_of_le_length (by simp), List.take_of_length_le (by simp)]
  have e5 : ((putB p).drop 4).take 5 = le p.place.toNat 5 := by
    rw [hput, List.drop_append_of_le_length (by simp), List.drop_of_length_le (by simp), List.nil_append, List.take_append_of_le_length (by simp), List.take_of_length_le (by simp)]
  have eb : (str (putB p)).extract 10 (10 + p.body.size) = p.body := by
    apply ba_ext
    rw [extract_list, str_data]
    have : (putB p).drop 10 = p.body.data.toList ++ (List.replicate (52 - p.body.size) 0 ++ le (crc (headB p)).toNat 2) := by
      rw [hput, List.drop_append, List.drop_of_length_le (by simp), List.nil_append, le_length, List.drop_append, List.drop_of_length_le (by simp), List.nil_append, le_length]
      rfl
    rw [this, List.take_append_of_le_length (by rw [← ba_size]; omega), List.take_of_length_le (by rw [← ba_size]; omega)]
  have hr : readPc (str (putB p)) = p := by
    unfold readPc
    simp only [str_data, e9, e4, e5, b2, b3, b4, eb]
    rw [numLE_le _ _ (by omega), numLE_le _ _ (by omega)]
    obtain ⟨life, place, first, last, body⟩ := p
    simp only at h1 h3 ⊢
    congr 1 <;> omega
  rw [getB, if_pos]
  · rw [hr]
  · rw [hr, str_size, str_data, e9, b2]
    exact ⟨hl, h5, rfl⟩

end Go.Ofp
