/- Texts laid together: Open2 Open3 Piece Sec Sum Sec2 Mix MixB Sec3 St. -/
import Derived.ShutString
import Derived.Deep.RegionHeld
import Derived.Test.YtlhpibniecfofaaM1
section
/- Slices of structs that came in: rows of cells. -/
set_option linter.unusedSimpArgs false
set_option linter.unusedVariables false
namespace Go.Ofp
open Go.RowKit Go.WideShapes

/-- The cells of a slice whose elements have several cells each. -/
structure Rw (w : World) (a : Option Addr) (size : Nat) (rows : List (List Value)) : Prop where
  sl : Sl w a rows.flatten
  each : ∀ r ∈ rows, r.length = size

theorem flatten_get {α : Type} (size : Nat) : ∀ (rows : List (List α)), (∀ r ∈ rows, r.length = size) → ∀ j t (hj : j < rows.length) (ht : t < size), rows.flatten[j * size + t]? = rows[j][t]?
  | [], _, j, t, hj, _ => by simp at hj
  | r :: rows, h, 0, t, _, ht => by
    have := h r (by simp)
    simp only [List.flatten_cons, Nat.zero_mul, Nat.zero_add, List.getElem_cons_zero]
    rw [List.getElem?_append_left (by omega)]
  | r :: rows, h, j + 1, t, hj, ht => by
    have hr := h r (by simp)
    simp only [List.flatten_cons, List.getElem_cons_succ]
    rw [List.getElem?_append_right (by rw [hr, Nat.add_mul]; omega), show (j + 1) * size + t - r.length = j * size + t by rw [hr, Nat.add_mul]; omega]
    exact flatten_get size rows (fun x hx => h x (by simp [hx])) j t (by simpa using hj) ht

theorem Rw.get {w : World} {a : Option Addr} {size : Nat} {rows : List (List Value)} (h : Rw w a size rows) (j : Nat) (hj : j < rows.length) (h0 : 0 < size) :
    ∃ b off, a = some ⟨b, off, none⟩ ∧ ∀ t v, rows[j][t]? = some v → w.cell? ⟨b, off + (j * size + t), none⟩ = some v := by
  have hl : rows.flatten.length = rows.length * size := by
    have : ∀ (rs : List (List Value)), (∀ r ∈ rs, r.length = size) → rs.flatten.length = rs.length * size := by
      intro rs
      induction rs with
      | nil => intro _; simp
      | cons r rs ih => intro h; rw [List.flatten_cons, List.length_append, ih (fun x hx => h x (by simp [hx])), h r (by simp), List.length_cons, Nat.add_mul]; omega
    exact this rows h.each
  have hpos : rows.flatten ≠ [] := by
    intro e
    rw [e, List.length_nil] at hl
    have := Nat.mul_pos (show 0 < rows.length by omega) h0
    omega
  obtain ⟨b, off, rfl⟩ := h.sl.cells hpos
  refine ⟨b, off, rfl, fun t v hv => ?_⟩
  have ht : t < size := by
    have := (List.getElem?_eq_some_iff.1 hv).1
    rwa [h.each _ (List.getElem_mem hj)] at this
  have := h.sl.add (j * size + t) v (by rw [flatten_get size rows h.each j t hj ht]; exact hv)
  rwa [Addr.add_lit] at this

theorem Rw.below {w w' : World} {a : Option Addr} {size : Nat} {rows : List (List Value)} (h : Rw w a size rows) (hb : Below w.heap.size w w') : Rw w' a size rows := ⟨h.sl.below hb, h.each⟩

section
variable {H : Type} {enc : TypeId × Value → H} {P : Program} {w : World} {base : Nat} {spare : Nat → Bool} {held : Bool} {t e : TypeId}

/-- A slice that came in: its elements' cells, each read as an element. -/
theorem open_rows {r : Reach} {b0 : Nat} {v : Value} {d : DataW H} {ps : List MemPlace} (ht : P.underlying t = some (.slice e)) (ho : Value.okWide P w r b0 t v) (h : DataW.Trod enc P w base spare held t v d ps) (hp : 0 < P.cellsOf e) :
    ∃ a n cap, v = .slice a n cap ∧ n ≤ cap ∧ cap ≤ maxLen ∧ ∃ rows, rows.length = n ∧ Rw w a (P.cellsOf e) rows ∧ ∀ cs ∈ rows, ∃ fuel x, DataW.trod enc P w base spare held fuel e cs = some x := by
  obtain ⟨a, n, cap, rfl⟩ := okWide_slice ht ho
  obtain ⟨fuel, hf⟩ := h
  rcases DataW.trod_slice ht hf with ⟨hc, _⟩ | ⟨ad, len, c, elems, rest, m, _, hc, _, _, hlc, hcm, hle, hel, _, _⟩
  · simp only [Value.cells, List.cons.injEq, Value.slice.injEq, and_true] at hc
    obtain ⟨rfl, rfl, rfl⟩ := hc
    exact ⟨none, 0, 0, rfl, Nat.le_refl _, Nat.zero_le _, [], rfl, ⟨Sl.nil _ _, by simp⟩, by simp⟩
  · simp only [Value.cells, List.cons.injEq, Value.slice.injEq, and_true] at hc
    obtain ⟨rfl, rfl, rfl⟩ := hc
    have key : ∀ i, i < n → ∃ cs x, w.cells? base (ad.add (i * P.cellsOf e)) (P.cellsOf e) = some cs ∧ DataW.trod enc P w base spare held m e cs = some x := by
      intro i hi
      have h1 := hel i hi
      rw [List.getElem?_eq_getElem (by omega)] at h1
      obtain ⟨cs, h2, h3⟩ := Option.bind_eq_some_iff.1 h1
      exact ⟨cs, _, h2, h3⟩
    have cell : ∀ i (hi : i < n) cs, w.cells? base (ad.add (i * P.cellsOf e)) (P.cellsOf e) = some cs → cs.length = P.cellsOf e ∧ ∀ t, t < P.cellsOf e → w.cell? ((ad.add (i * P.cellsOf e)).add t) = cs[t]? := by
      intro i hi cs h1
      unfold World.cells? at h1
      split at h1
      · exact ⟨by simpa using mapM_some_length h1, fun t ht => mapM_some_get h1 t t (by simp [ht])⟩
      · cases h1
    refine ⟨some ad, n, cap, rfl, hlc, hcm, (List.range n).map fun i => (w.cells? base (ad.add (i * P.cellsOf e)) (P.cellsOf e)).getD [], by simp, ?_, ?_⟩
    · have heach : ∀ r ∈ (List.range n).map (fun i => (w.cells? base (ad.add (i * P.cellsOf e)) (P.cellsOf e)).getD []), r.length = P.cellsOf e := by
        intro r hr
        obtain ⟨i, hi, rfl⟩ := List.mem_map.1 hr
        rw [List.mem_range] at hi
        obtain ⟨cs, x, h1, _⟩ := key i hi
        rw [h1]
        exact (cell i hi cs h1).1
      refine ⟨?_, heach⟩
      by_cases hn : n = 0
      · subst hn
        exact Sl.nil _ _
      · obtain ⟨b, off, spot⟩ := ad
        have hs : spot = none := by
          obtain ⟨cs, x, h1, _⟩ := key 0 (by omega)
          obtain ⟨hl, hc⟩ := cell 0 (by omega) cs h1
          have := hc 0 hp
          rw [List.getElem?_eq_getElem (by omega)] at this
          simp only [Nat.zero_mul, Addr.add, if_true] at this
          exact World.cell?_spot this
        subst hs
        intro q hq
        have hfl : ∀ (rs : List (List Value)), (∀ r ∈ rs, r.length = P.cellsOf e) → rs.flatten.length = rs.length * P.cellsOf e := by
          intro rs
          induction rs with
          | nil => intro _; simp
          | cons r rs ih => intro h; rw [List.flatten_cons, List.length_append, ih (fun x hx => h x (by simp [hx])), h r (by simp), List.length_cons, Nat.add_mul]; omega
        have hq2 := hq
        rw [hfl _ heach, List.length_map, List.length_range] at hq2
        have hj : q / P.cellsOf e < n := Nat.div_lt_of_lt_mul (by rw [Nat.mul_comm]; exact hq2)
        have ht : q % P.cellsOf e < P.cellsOf e := Nat.mod_lt _ hp
        have hqe : q / P.cellsOf e * P.cellsOf e + q % P.cellsOf e = q := by rw [Nat.mul_comm]; exact Nat.div_add_mod q _
        obtain ⟨cs, x, h1, _⟩ := key _ hj
        obtain ⟨hl, hc⟩ := cell _ hj cs h1
        have hc' := hc _ ht
        have hget := flatten_get (P.cellsOf e) _ heach (q / P.cellsOf e) (q % P.cellsOf e) (by simpa using hj) ht
        rw [hqe] at hget
        simp only [List.getElem_map, List.getElem_range, h1, Option.getD_some] at hget
        refine ⟨b, off, rfl, ?_⟩
        rw [← List.getElem?_eq_getElem hq, hget, ← hc', Addr.add_lit, Addr.add_lit]
        congr 2
        omega
    · intro cs hcs
      obtain ⟨i, hi, rfl⟩ := List.mem_map.1 hcs
      rw [List.mem_range] at hi
      obtain ⟨cs, x, h1, h2⟩ := key i hi
      rw [h1]
      exact ⟨m, x, h2⟩
end

end Go.Ofp
end

section
/- Structs whose fields are integers, strings, bools: their cells. -/
set_option linter.unusedSimpArgs false
set_option linter.unusedVariables false
namespace Go.Ofp
open Go.RowKit Go.WideShapes

section
variable {H : Type} {enc : TypeId × Value → H} {P : Program} {w : World} {base : Nat} {spare : Nat → Bool} {held : Bool}

/-- A field of a struct, read. -/
theorem field_read {t : TypeId} {fs : Array Field} {fuel : Nat} {cs : List Value} {x : DataW H × List MemPlace} (ht : P.underlying t = some (.struct fs)) (h : DataW.trod enc P w base spare held fuel t cs = some x) :
    cs.length = P.cellsOf t ∧ ∀ (i : Nat) (f : Field), fs[i]? = some f → ∃ n y, DataW.trod enc P w base spare held n f.type ((cs.drop f.offset).take (P.cellsOf f.type)) = some y := by
  obtain ⟨xs, n, _, rfl, hl, hlen, hf⟩ := DataW.trod_struct ht h
  refine ⟨hl, fun i f hi => ?_⟩
  have hi' : i < xs.length := by
    have := (Array.getElem?_eq_some_iff.1 hi).1
    omega
  refine ⟨n, xs[i], ?_⟩
  rw [hf i f hi, List.getElem?_eq_getElem hi']

theorem field_int {f : TypeId} {k : IntKind} {o n : Nat} {cs : List Value} {y : DataW H × List MemPlace} (hf : P.underlying f = some (.int k)) (hc : P.cellsOf f = 1) (ho : o < cs.length)
    (h : DataW.trod enc P w base spare held n f ((cs.drop o).take (P.cellsOf f)) = some y) : ∃ z, cs[o]? = some (.int k z) ∧ (Lit.int k z).wf = true := by
  obtain ⟨z, hz, _, hw⟩ := DataW.trod_int hf h
  rw [hc, List.drop_eq_getElem_cons ho] at hz
  simp only [List.take_succ_cons, List.take_zero, List.cons.injEq, and_true] at hz
  exact ⟨z, by rw [List.getElem?_eq_getElem ho, hz], hw⟩
end
end Go.Ofp
end

section
/- The walks of pieces: which may be, how many there are, and what lists of pieces are in memory. -/
set_option linter.unusedSimpArgs false
set_option linter.unusedVariables false
namespace Go.Proofs.Ytlhpibniecfofaa
open Go.RowKit Go.Ofp
set_option linter.unusedVariables false
set_option maxRecDepth 100000
set_option maxHeartbeats 4000000

theorem many_any (n : Nat) (w : World) (hn : n ≤ maxLen) : Calls Try.prog 83 #[.int .i64 n] w fun e w' => e = .returned (.int .i64 (manyB n)) ∧ w = w' := by
  unfold maxLen at hn
  rcases manyB_eq n with ⟨h, e⟩ | ⟨h, e⟩
  · rw [e]
    go_enter Try.func83, Try.ntmps83
    go_wp2_with fail
    go_ret
    exact ⟨rfl, rfl⟩
  · rw [e]
    go_enter Try.func83, Try.ntmps83
    go_wp2_with fail
    go_ret
    have e2 : ((n - 1 : Nat) : Int) = (n : Int) - 1 := by omega
    refine ⟨congrArg (fun z => Ending.returned (.int .i64 z)) ?_, rfl⟩
    have e3 : (((n - 1) / 52 + 1 : Nat) : Int) = (n - 1 : Nat) / 52 + 1 := by omega
    rw [e3, e2]
    omega

theorem check_any (p : Pc) (w : World) : Calls Try.prog 101 #[p.val] w fun e w' => e = .returned (.bool p.ok) ∧ Below w.heap.size w w' := by
  have hok := Pc.ok_iff p
  generalize p.ok = b at hok ⊢
  obtain ⟨life, place, first, last, body⟩ := p
  simp only [Pc.val, Pc.row] at hok ⊢
  replace hok := Lib.hid hok
  go_enter Try.func101, Try.ntmps101
  go_wp2_with fail
  all_goals
    go_ret
    refine ⟨?_, (Below.refl _ _).alloc (Nat.le_refl _) _⟩
    refine congrArg (fun z => Ending.returned (.bool z)) ?_
    rw [Bool.eq_iff_iff, hok.out]
    simp
    omega

/-- A list of pieces in memory. -/
def Ps (w : World) (a : Option Addr) (ps : List Pc) : Prop := Sl w a (ps.map Pc.row).flatten

theorem rows_one (ps : List Pc) : ∀ u ∈ (ps.map Pc.row).flatten, u.oneCell' = true := by
  intro u hu
  obtain ⟨r, hr, hu⟩ := List.mem_flatten.1 hu
  obtain ⟨p, _, rfl⟩ := List.mem_map.1 hr
  simp only [Pc.row, List.mem_cons, List.not_mem_nil, or_false] at hu
  rcases hu with rfl | rfl | rfl | rfl | rfl <;> rfl

theorem row_one (p : Pc) : ∀ u ∈ p.row, u.oneCell' = true := by
  have := rows_one [p]
  simpa using this

theorem Ps.below {w w' : World} {a : Option Addr} {ps : List Pc} (h : Ps w a ps) (hb : Below w.heap.size w w') : Ps w' a ps := Sl.below h hb

theorem Ps.get {w : World} {a : Option Addr} {ps : List Pc} (h : Ps w a ps) (j : Nat) (p : Pc) (hj : ps[j]? = some p) :
    ∃ b off, a = some ⟨b, off, none⟩ ∧ w.cell? ⟨b, off + j * 5, none⟩ = some (.int .i64 p.life) ∧ w.cell? ⟨b, off + j * 5 + 1, none⟩ = some (.int .i64 p.place) ∧
      w.cell? ⟨b, off + j * 5 + 2, none⟩ = some (.bool p.first) ∧ w.cell? ⟨b, off + j * 5 + 3, none⟩ = some (.bool p.last) ∧ w.cell? ⟨b, off + j * 5 + 4, none⟩ = some (.string p.body) := by
  obtain ⟨hl, rfl⟩ := List.getElem?_eq_some_iff.1 hj
  have hr : Rw w a 5 (ps.map Pc.row) := ⟨h, fun r hr => by obtain ⟨p, _, rfl⟩ := List.mem_map.1 hr; rfl⟩
  obtain ⟨b, off, rfl, hc⟩ := hr.get j (by simpa using hl) (by decide)
  simp only [List.getElem_map] at hc
  refine ⟨b, off, rfl, ?_, ?_, ?_, ?_, ?_⟩
  · exact hc 0 _ rfl
  · exact hc 1 _ rfl
  · exact hc 2 _ rfl
  · exact hc 3 _ rfl
  · exact hc 4 _ rfl

theorem elem_pc : Elem Try.prog 148 (.agg #[.int .i64 0, .int .i64 0, .bool false, .bool false, .string ⟨#[]⟩]) 5 40 := Elem.mk (by kernel_rfl) (by rfl) (by decide)
end Go.Proofs.Ytlhpibniecfofaa
end

section
/- The walks of sectors: low bytes, numbers, flags. -/
set_option linter.unusedSimpArgs false
set_option linter.unusedVariables false
namespace Go.Proofs.Ytlhpibniecfofaa
open Go.RowKit Go.Ofp
set_option linter.unusedVariables false
set_option maxRecDepth 100000
set_option maxHeartbeats 4000000

theorem le_snoc (n k : Nat) : le n (k + 1) = le n k ++ [UInt8.ofNat (n / 256 ^ k)] := by
  induction k generalizing n with
  | zero => simp [le]
  | succ k ih => rw [le, ih, le, Nat.div_div_eq_div_mul, Nat.pow_succ, Nat.mul_comm (256 ^ k)]; rfl

theorem set_mid (A L D : List UInt8) (x : UInt8) : (A ++ (L ++ D)).set (A.length + L.length) x = A ++ (L ++ D.set 0 x) := by
  rw [List.set_append_right _ _ (by omega), Nat.add_sub_cancel_left, List.set_append_right _ _ (by omega), Nat.sub_self]

/-- The bytes of a block, when the lowest j bytes of n were laid at a place. -/
def laidAt (bs : List UInt8) (off n j : Nat) : List UInt8 := bs.take off ++ (le n j ++ bs.drop (off + j))

theorem laidAt_length (bs : List UInt8) (off n j : Nat) (h : off + j ≤ bs.length) : (laidAt bs off n j).length = bs.length := by
  simp only [laidAt, List.length_append, List.length_take, le_length, List.length_drop]
  omega

theorem laidAt_set (bs : List UInt8) (off n j : Nat) (h : off + j < bs.length) : (laidAt bs off n j).set (off + j) (UInt8.ofNat (n / 256 ^ j)) = laidAt bs off n (j + 1) := by
  have h1 : (bs.take off).length = off := by rw [List.length_take]; omega
  have h2 := set_mid (bs.take off) (le n j) (bs.drop (off + j)) (UInt8.ofNat (n / 256 ^ j))
  rw [h1, le_length] at h2
  rw [laidAt, h2, laidAt, le_snoc]
  have h3 : bs.drop (off + j) = bs[off + j] :: bs.drop (off + j + 1) := List.drop_eq_getElem_cons h
  rw [h3]
  simp [Nat.add_assoc]

/-- The row of an array of bytes. -/
def bytesOf (bs : List UInt8) : Array Value := (bs.map vb).toArray

theorem bytesOf_set (bs : List UInt8) (i : Nat) (x : UInt8) : (bytesOf bs).setIfInBounds i (vb x) = bytesOf (bs.set i x) := by
  simp [bytesOf, List.map_set]

theorem bytesOf_get (bs : List UInt8) (i : Nat) (h : i < bs.length) : (bytesOf bs)[i]? = some (.int .u8 (bs[i].toNat : Int)) := by
  simp [bytesOf, h, vb]

theorem low_any (g off k cap n : Nat) (t : TypeId) (bs : List UInt8) (w : World) (hw : Whole w g t (bytesOf bs)) (hk : off + k ≤ bs.length) (hb : bs.length ≤ 1000) (hn : n < 9223372036854775808) :
    Calls Try.prog 102 #[.slice (some ⟨g, off, none⟩) k cap, .int .i64 n] w fun e w' => e = .returned (.tuple #[]) ∧ Whole w' g t (bytesOf (laidAt bs off n k)) ∧ w.grownBy w' (some g) := by
  replace hw := Lib.hid hw
  go_enter Try.func102, Try.ntmps102
  go_wp2_with fail
  go_loopg [1, 7] k (fun gk vn vi wr => ∃ j : Nat, j + gk = k ∧ vi = .int .i64 j ∧ vn = .int .i64 ((n / 256 ^ j : Nat) : Int) ∧ Whole wr g t (bytesOf (laidAt bs off n j)) ∧ w.grownBy wr (some g))
  case atStart => exact ⟨0, by omega, rfl, by simp, by simpa [laidAt, le] using hw.out, grown_refl _ _⟩
  case round =>
    obtain ⟨j, hjk, rfl, rfl, hwr, hg⟩ := hrel
    by_cases hj : j < k
    · have hlen := laidAt_length bs off n j (by omega)
      have c0 := hwr.cell (off + j)
      rw [bytesOf_get _ _ (by omega)] at c0
      have f0 := hwr.frozen (off + j)
      have hmn : n / 256 ^ j < 9223372036854775808 := Nat.lt_of_le_of_lt (Nat.div_le_self _ _) hn
      have hset := laidAt_set bs off n j (by omega)
      have hvb := vb_ofNat (n / 256 ^ j)
      have hdd : n / 256 ^ j / 256 = n / 256 ^ (j + 1) := by rw [Nat.div_div_eq_div_mul, Nat.pow_succ]
      generalize n / 256 ^ j = m at hmn hset hvb hdd ⊢
      replace hwr := Lib.hid hwr
      replace hset := Lib.hid hset
      replace hvb := Lib.hid hvb
      replace hdd := Lib.hid hdd
      go_wp2_with fail
      go_roundg (k - (j + 1))
      case measure => omega
      case rel =>
        refine ⟨j + 1, by omega, rfl, ?_, ?_, grown_trans hg (grown_set _ _ _ _)⟩
        · rw [← hdd.out]
          exact congrArg (Value.int .i64) (by omega)
        · have h2 := hwr.out.set (off + j) (vb (UInt8.ofNat m))
          rw [bytesOf_set, hset.out, hvb.out] at h2
          exact h2
    · have e : j = k := by omega
      subst e
      go_wp2_with fail
      exact bodyPost_end (results_none rfl _ _ _) rfl ⟨rfl, hwr, hg⟩

theorem numLE_snoc (l : List UInt8) (b : UInt8) : numLE (l ++ [b]) = numLE l + 256 ^ l.length * b.toNat := by
  induction l with
  | nil => simp [numLE]
  | cons c l ih =>
    simp only [List.cons_append, numLE, ih, List.length_cons, Nat.pow_succ, Nat.mul_add]
    rw [Nat.mul_comm (256 ^ l.length) 256, Nat.mul_assoc]
    omega

theorem numLE_take (l : List UInt8) (j : Nat) (h : j < l.length) : numLE (l.take (j + 1)) = numLE (l.take j) + 256 ^ j * l[j].toNat := by
  rw [List.take_add_one, List.getElem?_eq_getElem h, Option.toList_some, numLE_snoc, List.length_take, Nat.min_eq_left (by omega)]

/-- One byte more of a number, as the walk spells it. -/
theorem or_byte (v c j : Nat) (hv : v < 256 ^ j) (hj : j ≤ 6) (hc : c < 256) : bits .or .i64 (v : Int) (((c * 2 ^ (8 * j) : Nat)) : Int) = ((v + 256 ^ j * c : Nat) : Int) := by
  have e : (256 : Nat) ^ j = 2 ^ (8 * j) := by rw [Nat.pow_mul]
  rw [e] at hv ⊢
  have hp : 2 ^ (8 * j) ≤ 2 ^ 48 := Nat.pow_le_pow_right (by decide) (by omega)
  have hx : c * 2 ^ (8 * j) ≤ 256 * 2 ^ 48 := Nat.mul_le_mul (by omega) hp
  rw [i64_or_nat _ _ (by omega) (by omega), Nat.or_comm, nat_join (8 * j) _ _ (Nat.mul_mod_left _ _) hv, Nat.mul_comm, Nat.add_comm]

theorem number_step (v c j : Nat) (hv : v < 256 ^ j) (hj : j ≤ 6) (hc : c < 256) : bits .or .i64 (v : Int) (wrap64 (wrap64 (c : Int) * 2 ^ (8 * j))) = ((v + 256 ^ j * c : Nat) : Int) := by
  have hp : 2 ^ (8 * j) ≤ 2 ^ 48 := Nat.pow_le_pow_right (by decide) (by omega)
  have hx : c * 2 ^ (8 * j) ≤ 256 * 2 ^ 48 := Nat.mul_le_mul (by omega) hp
  rw [← IntWalk.i64_left, ← IntWalk.i64_left, wrap_i64_nat _ (by omega), show (c : Int) * 2 ^ (8 * j) = ((c * 2 ^ (8 * j) : Nat) : Int) by simp, wrap_i64_nat _ (by omega)]
  exact or_byte v c j hv hj hc

theorem number_any (s : ByteArray) (w : World) (hs : s.size ≤ 7) : Calls Try.prog 111 #[.string s] w fun e w' => e = .returned (.int .i64 (numLE s.data.toList)) ∧ w = w' := by
  go_enter Try.func111, Try.ntmps111
  go_wp2_with fail
  go_loopg [3, 7] s.size (fun gk vn vi wr => ∃ j : Nat, j + gk = s.size ∧ vi = .int .i64 j ∧ vn = .int .i64 (numLE (s.data.toList.take j)) ∧ w = wr)
  case atStart => exact ⟨0, by omega, rfl, rfl, rfl⟩
  case round =>
    obtain ⟨j, hjk, rfl, rfl, rfl⟩ := hrel
    by_cases hj : j < s.size
    · have hlt := numLE_lt (s.data.toList.take j)
      rw [List.length_take, ← ba_size, Nat.min_eq_left (by omega)] at hlt
      have hj' : j < s.data.toList.length := by rw [← ba_size]; exact hj
      have hnx := numLE_take s.data.toList j hj'
      generalize numLE (s.data.toList.take j) = v at hlt hnx ⊢
      have hor := number_step v (s.data.toList[j].toNat) j hlt (by omega) (by have := s.data.toList[j].toNat_lt; omega)
      replace hor := Lib.hid hor
      replace hnx := Lib.hid hnx
      replace hlt := Lib.hid hlt
      go_wp2_with fail
      go_roundg (s.size - (j + 1))
      case measure => omega
      case rel =>
        refine ⟨j + 1, by omega, rfl, ?_, rfl⟩
        rw [hnx.out]
        exact congrArg (Value.int .i64) hor.out
    · have e : j = s.size := by omega
      subst e
      have hfull : s.data.toList.take s.size = s.data.toList := List.take_of_length_le (by rw [ba_size]; omega)
      rw [hfull]
      go_wp2_with fail
      go_ret
      exact ⟨rfl, rfl⟩

theorem flags_any (a : Option Addr) (cap : Nat) (x y : Bool) (w : World) (h : Sl w a [.bool x, .bool y]) : Calls Try.prog 103 #[.slice a 2 cap] w fun e w' => e = .returned (.int .i64 ((if x then 64 else 0) + (if y then 128 else 0))) ∧ w = w' := by
  obtain ⟨b, off, rfl⟩ := h.cells (by simp)
  have c0 := h.add 0 (.bool x) rfl
  have c1 := h.add 1 (.bool y) rfl
  rw [Addr.add_lit] at c0 c1
  simp only [Nat.add_zero] at c0
  clear h
  go_enter Try.func103, Try.ntmps103
  go_wp2_with fail
  go_loopg [3, 8] 2 (fun gk vn vi wr => w = wr ∧ ((gk = 2 ∧ vi = .int .i64 0 ∧ vn = .int .i64 0) ∨ (gk = 1 ∧ vi = .int .i64 1 ∧ vn = .int .i64 (if x then 64 else 0)) ∨ (gk = 0 ∧ vi = .int .i64 2 ∧ vn = .int .i64 ((if x then 64 else 0) + (if y then 128 else 0)))))
  case atStart => exact ⟨rfl, .inl ⟨rfl, rfl, rfl⟩⟩
  case round =>
    obtain ⟨rfl, ⟨rfl, rfl, rfl⟩ | ⟨rfl, rfl, rfl⟩ | ⟨rfl, rfl, rfl⟩⟩ := hrel
    · cases x
      · go_wp2_with fail
        go_roundg 1
        case measure => omega
        case rel => exact ⟨rfl, .inr (.inl ⟨rfl, rfl, rfl⟩)⟩
      · go_wp2_with fail
        go_roundg 1
        case measure => omega
        case rel => exact ⟨rfl, .inr (.inl ⟨rfl, rfl, rfl⟩)⟩
    · cases x <;> cases y
      · go_wp2_with fail
        go_roundg 0
        case measure => omega
        case rel => exact ⟨rfl, .inr (.inr ⟨rfl, rfl, rfl⟩)⟩
      · go_wp2_with fail
        go_roundg 0
        case measure => omega
        case rel => exact ⟨rfl, .inr (.inr ⟨rfl, rfl, rfl⟩)⟩
      · go_wp2_with fail
        go_roundg 0
        case measure => omega
        case rel => exact ⟨rfl, .inr (.inr ⟨rfl, rfl, rfl⟩)⟩
      · go_wp2_with fail
        go_roundg 0
        case measure => omega
        case rel => exact ⟨rfl, .inr (.inr ⟨rfl, rfl, rfl⟩)⟩
    · go_wp2_with fail
      all_goals
        go_ret
        first
          | exact ⟨rfl, rfl⟩
          | simp_all

end Go.Proofs.Ytlhpibniecfofaa
end

section
/- The walks of package sum and of its reference: what each function computes. -/
set_option linter.unusedSimpArgs false
set_option linter.unusedVariables false
namespace Go.Proofs.Ytlhpibniecfofaa
open Go.RowKit Go.Ofp

theorem bits_xor_bv (a b : B32) : bits .xor .u32 (a.toNat : Int) (b.toNat : Int) = ((a ^^^ b).toNat : Int) := by
  rw [u32_xor_nat _ _ a.isLt b.isLt, BitVec.toNat_xor]

theorem half_int (s : B32) : bits .xor .u32 ((s.toNat : Int) / 2) (bits .and .u32 2197175160 (-bits .and .u32 (s.toNat : Int) 1 % 4294967296)) = ((half s).toNat : Int) := by
  have e1 : bits .and .u32 (s.toNat : Int) 1 = ((s.toNat % 2 : Nat) : Int) := by
    have := u32_and_nat s.toNat 1 s.isLt (by decide)
    rw [show ((1 : Nat) : Int) = 1 from rfl] at this
    rw [this, nat_mask1]
  have e2 : (s.toNat : Int) / (2 : Int) = ((s >>> 1).toNat : Int) := by simp [Nat.shiftRight_eq_div_pow]
  rw [e1, e2]
  have hb : s.getLsbD 0 = decide (s.toNat % 2 = 1) := by simp [BitVec.getLsbD, Nat.testBit_zero]
  unfold half
  rw [hb, ← bits_xor_bv]
  congr 1
  rcases Nat.mod_two_eq_zero_or_one s.toNat with h | h <;> rw [h] <;> decide

theorem half_any (s : B32) (w : World) :
    Calls Try.prog 110 #[.int .u32 s.toNat] w fun e w' => e = .returned (.int .u32 (half s).toNat) ∧ w = w' := by
  have h1 := s.isLt
  have e := Lib.hid (half_int s)
  go_enter Try.func110, Try.ntmps110
  go_wp2
  go_ret
  rw [← e.out]
  exact ⟨rfl, rfl⟩

theorem step_byte (s : B32) (b : UInt8) : bits .xor .u32 (s.toNat : Int) (b.toNat : Int) = ((s ^^^ bv b).toNat : Int) := by
  have h := b.toNat_lt
  have e : b.toNat = (bv b).toNat := by simp only [bv, BitVec.toNat_ofNat]; omega
  rw [e, bits_xor_bv]

theorem not_int (x : B32) : bits .xor .u32 IntKind.u32.max (x.toNat : Int) = ((~~~ x).toNat : Int) := by
  rw [show IntKind.u32.max = ((ones.toNat : Nat) : Int) from by decide, bits_xor_bv, ones, BitVec.not_zero, BitVec.allOnes_xor]

theorem take_snoc {α : Type} (l : List α) (k : Nat) (h : k < l.length) : l.take (k + 1) = l.take k ++ [l[k]] := by
  rw [List.take_succ_eq_append_getElem h]

theorem ret_val {a b : Value} (h : a = b) : Ending.returned a = .returned b := by rw [h]

set_option maxHeartbeats 400000 in
theorem of_any (a : Option Addr) (l : List UInt8) (cap : Nat) (w : World) (h : Sl w a (l.map vb)) (hl : l.length ≤ maxLen) :
    Calls Try.prog 104 #[.slice a l.length cap] w fun e w' => e = .returned (.int .u32 (crc l).toNat) ∧ w = w' := by
  unfold maxLen at hl
  have H := Lib.hid h
  clear h
  go_enter Try.func104, Try.ntmps104
  go_wp2
  go_loop [3, 8] (fun s i => ∃ k : Nat, k ≤ l.length ∧ i = .int .i64 k ∧ s = .int .u32 (reg ones (l.take k)).toNat) (fun _ i => l.length - (intOf i).toNat)
  case atStart => exact ⟨0, Nat.zero_le _, rfl, rfl⟩
  case round =>
    obtain ⟨k, hk, rfl, rfl⟩ := hrel
    by_cases hlt : k < l.length
    · obtain ⟨b, off, rfl, hc⟩ := H.out.get k hlt
      have hb := l[k].toNat_lt
      have hx := step_byte (reg ones (l.take k)) l[k]
      go_wp2_with fail
      go_loop [3, 16] (fun s i => ∃ j : Nat, j ≤ 8 ∧ i = .int .i64 j ∧ s = .int .u32 (steps j (reg ones (l.take k) ^^^ bv l[k])).toNat) (fun _ i => 8 - (intOf i).toNat)
      case atStart => exact ⟨0, by omega, rfl, by rw [steps, BitVec.toNat_xor]⟩
      case round =>
        obtain ⟨j, hj, rfl, rfl⟩ := hrel
        clear hx
        by_cases hj8 : j < 8
        · go_wp2_with (go_at_call 110; refine (half_any _ _).mono ?_; rintro e w' ⟨rfl, rfl⟩)
          go_round
          case rel => exact ⟨j + 1, by omega, by go_num, by rw [← steps_succ']⟩
          case measure => simp [intOf]; omega
        · go_wp2_with fail
          go_round
          case rel => exact ⟨k + 1, by omega, by go_num, by rw [take_snoc l k hlt, reg_snoc, show j = 8 by omega]; rfl⟩
          case measure => simp [intOf]; omega
    · go_wp2
      go_ret
      refine ⟨ret_val ?_, rfl⟩
      rw [List.take_of_length_le (by omega)]
      show Value.int .u32 (bits .xor .u32 IntKind.u32.max ((reg ones l).toNat : Int)) = _
      rw [not_int]
      rfl

/-- What Join makes of two sums. -/
def joined (a b : B32) (n : Int) : B32 := if n < 0 ∨ n > 1048576 then 0#32 else steps (8 * n.toNat) a ^^^ b

set_option maxHeartbeats 400000 in
set_option maxHeartbeats 400000 in
theorem elem_u8 : Elem Try.prog 5 (.int .u8 0) 1 1 := Elem.mk (by kernel_rfl) (by rfl) (by decide)

set_option maxRecDepth 10000 in
set_option maxHeartbeats 400000 in
set_option maxRecDepth 10000 in
set_option maxHeartbeats 400000 in
/-- What opening bytes gives. -/
def opened (l : List UInt8) : Option (List UInt8) :=
  if l.length < 4 then none else if sealed (l.take (l.length - 4)) = l then some (l.take (l.length - 4)) else none

theorem of_at (a : Option Addr) (l : List UInt8) (cap : Nat) (w : World) (n : Nat) (hn : n = l.length) (h : Sl w a (l.map vb)) (hl : n ≤ maxLen) :
    Calls Try.prog 104 #[.slice a n cap] w fun e w' => e = .returned (.int .u32 (crc l).toNat) ∧ w = w' := by
  subst hn
  exact of_any a l cap w h hl

end Go.Proofs.Ytlhpibniecfofaa
end

section
/- The walks of sectors: the reference's low bytes; sectors put. -/
set_option linter.unusedSimpArgs false
set_option linter.unusedVariables false
namespace Go.Proofs.Ytlhpibniecfofaa
open Go.RowKit Go.Ofp
set_option linter.unusedVariables false
set_option maxRecDepth 100000
set_option maxHeartbeats 4000000

section
variable {P : Program} {w : World} {ops : Array Oper} {rest : List Oper} {o : Oper} {a : Act} {Q : Exit → Act → World → Prop}

theorem run_alloc_row (w : World) (t : TypeId) {z : Value} (hz : (P.info? t).map (fun i => i.zero) = some (some z)) :
    (Instr.alloc t true (.tuple #[])).run P w = .ok (.pointer (some ⟨w.heap.size, 0, none⟩)) (w.alloc (.cells z.cells t)) := by
  obtain ⟨i, hi, hz'⟩ := Option.map_eq_some_iff.1 hz
  simp [Instr.alloc, zeroValue, typeInfo, hi, hz', go_sem]

/-- The walk's law: a new variable, whose cells are not opened. -/
theorem wpList_alloc_row (hg : o.guard = none) {t : TypeId} (ho : o.op = .alloc t) {z : Value} (hz : (P.info? t).map (fun i => i.zero) = some (some z))
    (h : ∀ w', Whole w' w.heap.size t z.cells → Below w.heap.size w w' → w'.heap.size = w.heap.size + 1 → wpList P ops Q rest (a.put o.dst (.pointer (some ⟨w.heap.size, 0, none⟩))) w') : wpList P ops Q (o :: rest) a w := by
  refine wpList_plain hg fun K hK => ?_
  have hr := run_alloc_row (P := P) w t hz
  unfold Oper.wp execOp
  simp only [ho, Sem.run_bind, hr, Result.andThen_ok, Sem.run_pure]
  exact hK _ _ (h _ (Whole.new _ _ _) ((Below.refl _ _).alloc (Nat.le_refl _) _) (by simp))

/-- A text copied into a place of a row that is known whole. -/
theorem run_copy_str (w : World) (t tx ty e : TypeId) (ht : P.underlying t = some (.slice e)) {z : Value} {bytes : Nat} (he : Elem P e z 1 bytes) (htx : P.underlying tx = some .string)
    {g off n c : Nat} {T : TypeId} {cs : Array Value} (hw : Whole w g T cs) (s : ByteArray) (hs : s.size ≤ n) (hfit : off + s.size ≤ cs.size) :
    ∃ w', (Builtin.copy_ #[t, tx] ty #[.slice (some ⟨g, off, none⟩) n c, .string s]).run P w = .ok (.int .i64 s.size) w' ∧ Whole w' g T (cs.toList.take off ++ s.data.toList.map vb ++ cs.toList.drop (off + s.size)).toArray ∧ w.grownBy w' (some g) := by
  obtain ⟨i, hi, hz, h1, rfl, hzs, hpos⟩ := he
  have hx := Src.string (P := P) w htx s
  have hcells := hx.cells w (fun _ => rfl)
  have hl : (s.data.toList.map vb).length = s.size := by simp
  have hst := run_storeCells_at P g off T (s.data.toList.map vb) 0 cs w hw (by rw [hl]; omega) (vb_one _)
  simp only [Nat.add_zero, hl] at hst
  have hm : s.size.min n = s.size := Nat.min_eq_left hs
  simp only [List.append_assoc] at hst
  refine ⟨w.setRow g (cs.toList.take off ++ s.data.toList.map vb ++ cs.toList.drop (off + s.size)).toArray, ?_, setRow_heap w g cs _ T _ hw, ⟨rfl, rfl, rfl, by simp, fun k _ hk => setRow_other w g k _ (fun e => hk (by simp [e]))⟩⟩
  simp [Builtin.copy_, run_underlying ht, sizeOf, typeInfo, hi, h1, hx.len, hcells, hst, goInt, hm]
end

end Go.Proofs.Ytlhpibniecfofaa
end

section
/- A region that draws its order and holds calls (or allocations) that wait for one another, with reads between them: the condition on the world is turned behind each call. -/
set_option linter.unusedSimpArgs false
set_option linter.unusedVariables false
namespace Go.Ofp
open Go.RowKit

theorem wpAnyH_mono {P : Program} {md : Region.Mode} {ops : Array Oper} {Q : Exit → Act → World → Prop} {S S' : World → Prop} (h : ∀ w, S' w → S w) :
    ∀ (fuel : Nat) (listed : Array Bool) (a : Act) (w : World), wpAnyH P md ops Q S' fuel listed a w → wpAnyH P md ops Q S fuel listed a w
  | 0, _, _, _, k => k
  | fuel + 1, _, _, _, k => ⟨k.1, fun i hi => wpOp_mono (fun _ _ hh => ⟨h _ hh.1, wpAnyH_mono h fuel _ _ _ hh.2⟩) (k.2 i hi)⟩

section
variable {P : Program} {ops : Array Oper} {Q : Exit → Act → World → Prop} {w0 w : World} {fuel : Nat} {listed : Array Bool} {a : Act} {oi : Oper}

end

end Go.Ofp
end

section
/- As Mix, with a bound of one's own: what lies below it stands, what lies above may be written. -/
set_option linter.unusedSimpArgs false
set_option linter.unusedVariables false
namespace Go.Ofp
open Go.RowKit

/-- A world in which all blocks below B stand as they stood. -/
def PastB (B : Nat) (w : World) : Type := { x : World // Below B w x }

theorem PastB.cell {B : Nat} {w : World} (s : PastB B w) {p : Addr} {v : Value} (h : w.cell? p = some v) (hp : p.block < B) : s.1.cell? p = some v := by
  rw [s.2.cell hp]; exact h

section
variable {P : Program} {Q : Exit → Act → World → Prop} {B : Nat}

theorem mixb_begin {id : Nat} {l : List Oper} {a : Act} {w : World} (B : Nat) (hm : P.follows .mixedOrders = true)
    (h : wpAnyH P .any l.toArray Q (fun w' => Below B w.drew w') l.length (Array.replicate l.length false) a w.drew) : (Code.region id l.toArray true).wp P Q a w := by
  refine wp_region_held (S := fun w' => Below B w.drew w') hm ?_
  simpa using h

variable {ops : Array Oper} {w0 w : World} {fuel : Nat} {listed : Array Bool} {a : Act} {oi : Oper}

theorem mixb_take (i : Nat) {v : Value} (hi : ops[i]? = some oi) (hok : (Region.noSelect ops && (Region.free .any ops listed i && (Region.ready .any ops listed).contains i)) = true)
    (hQ : ∀ c a w, Q (.panic c) (a.put oi.dst v) w → Q (.panic c) a w) (hw : Region.wanted oi (yielded ops a.tmps) = true) (hS : Below B w0 w)
    (hy : ∀ s : PastB B w0, (execOp a.eval oi).run P s.1 = .ok (.value v) s.1)
    (h : wpAnyH P .any ops Q (fun w' => Below B w0 w') fuel (listed.setIfInBounds i true) (a.put oi.dst v) w) :
    wpAnyH P .any ops Q (fun w' => Below B w0 w') (fuel + 1) listed a w := by
  simp only [Bool.and_eq_true] at hok
  exact wpAnyH_take hi hok.1 hok.2.1 hok.2.2 hQ (Or.inl ⟨hw, fun w' h' => hy ⟨w', h'⟩⟩) hS h

/-- Number i comes up, which alone may; behind it the class is that of the world then, with whatever bound that holds. -/
theorem mixb_one (i : Nat) {o : Oper} (hr : Region.ready .any ops listed = [i]) (ho : ops[i]? = some o) (hS : Below B w0 w)
    (h : ∀ K' : Act → World → Prop, Shut (∀ B' a w1, B ≤ B' → Below B w w1 → (Below B' w1 w1 → wpAnyH P .any ops Q (fun w' => Below B' w1 w') fuel (listed.setIfInBounds i true) a w1) → K' a w1) →
      if Region.wanted o (yielded ops a.tmps) = true then Oper.wp P o a w K' Q else K' (a.put o.dst undef) w) :
    wpAnyH P .any ops Q (fun w' => Below B w0 w') (fuel + 1) listed a w := by
  refine wpAnyH_ready hr (by simp) (AllReadyH.cons ho (fun K hK => h K ?_) AllReadyH.nil)
  intro B' a1 w1 hB hb hc
  have hb' : Below B w0 w1 := hS.trans hb
  exact hK.out a1 w1 hb' fun _ => wpAnyH_mono (fun _ h => hb'.trans (h.mono hB)) _ _ _ _ (hc (Below.refl _ _))
end

end Go.Ofp
end

section
/- The walk of piece.Put: a piece's sector. -/
set_option linter.unusedSimpArgs false
set_option linter.unusedVariables false
namespace Go.Proofs.Ytlhpibniecfofaa
open Go.RowKit Go.Ofp
set_option linter.unusedVariables false
set_option maxRecDepth 100000
set_option maxHeartbeats 4000000

theorem cell_keep {w w' : World} {g : Nat} {p : Addr} {v : Value} (h : w.cell? p = some v) (hg : w.grownBy w' (some g)) (hne : p.block ≠ g) : w'.cell? p = some v := by
  rw [World.cell?_of_block (hg.block p.block (World.block_lt_of_cell? w p h) (by simpa using hne))]
  exact h

theorem vb_wrap (n : Nat) : vb (UInt8.ofNat n) = .int .u8 (IntKind.u8.wrap (n : Int)) := by
  rw [vb_ofNat]
  congr 1

theorem or_flags (p : Pc) (F : Nat) (hF : (F : Int) = (if p.first then 64 else 0) + (if p.last then 128 else 0)) (h : p.body.size ≤ 52) : bits .or .i64 (p.body.size : Int) (F : Int) = ((sizeFlags p : Nat) : Int) := by
  have h1 : F % 2 ^ 6 = 0 ∧ F ≤ 192 ∧ sizeFlags p = F + p.body.size := by
    unfold sizeFlags
    cases h1 : p.first <;> cases h2 : p.last <;> simp [h1, h2] at hF ⊢ <;> omega
  rw [i64_or_nat _ _ (by omega) (by omega), Nat.or_comm, nat_join 6 F p.body.size h1.1 (by omega), h1.2.2]

theorem put_bytes (p : Pc) (L M : Nat) (hok : p.ok = true) (hL : (L : Int) = p.life) (hM : (M : Int) = p.place) (bs0 bs1 bs2 bs3 bs4 bs5 : List UInt8) (C : Nat)
    (h0 : bs0 = List.replicate 64 0) (h1 : bs1 = laidAt bs0 0 L 4) (h2 : bs2 = laidAt bs1 4 M 5) (h3 : bs3 = bs2.set 9 (UInt8.ofNat (sizeFlags p)))
    (h4 : bs4 = bs3.take 10 ++ p.body.data.toList ++ bs3.drop (10 + p.body.size)) (hC : C = (crc (bs4.take 62)).toNat) (h5 : bs5 = laidAt bs4 62 C 2) : bs5 = putB p := by
  have hs := ((Pc.ok_iff p).1 hok).2.2.2.2
  have eL : p.life.toNat = L := by omega
  have eM : p.place.toNat = M := by omega
  have e1 : bs1 = le L 4 ++ List.replicate 60 0 := by
    rw [h1, h0, laidAt]
    simp [List.drop_replicate]
  have e2 : bs2 = le L 4 ++ (le M 5 ++ List.replicate 55 0) := by
    rw [h2, e1, laidAt, List.take_append_of_le_length (by simp), List.take_of_length_le (by simp), List.drop_append, List.drop_of_length_le (by simp)]
    simp [List.drop_replicate]
  have e3 : bs3 = le L 4 ++ (le M 5 ++ (UInt8.ofNat (sizeFlags p) :: List.replicate 54 0)) := by
    rw [h3, e2, List.set_append_right _ _ (by simp), List.set_append_right _ _ (by simp)]
    simp only [le_length]
    rw [show List.replicate 55 (0 : UInt8) = 0 :: List.replicate 54 0 from rfl]
    rfl
  have hd : headB p = le L 4 ++ (le M 5 ++ (UInt8.ofNat (sizeFlags p) :: (p.body.data.toList ++ List.replicate (52 - p.body.size) 0))) := by rw [headB, eL, eM]
  have hlen := headB_length p hs
  have e4 : bs4 = headB p ++ List.replicate 2 0 := by
    have t10 : bs3.take 10 = le L 4 ++ (le M 5 ++ [UInt8.ofNat (sizeFlags p)]) := by
      rw [e3, List.take_append, List.take_of_length_le (by simp), List.take_append, List.take_of_length_le (by simp)]
      simp
    have d10 : bs3.drop (10 + p.body.size) = List.replicate (52 - p.body.size) 0 ++ List.replicate 2 0 := by
      rw [← List.drop_drop]
      have : bs3.drop 10 = List.replicate 54 0 := by
        rw [e3, List.drop_append, List.drop_of_length_le (by simp), List.nil_append, List.drop_append, List.drop_of_length_le (by simp)]
        simp
      rw [this, List.drop_replicate, List.replicate_append_replicate]
      congr 1
      omega
    rw [h4, t10, d10, hd]
    simp
  have t62 : bs4.take 62 = headB p := by rw [e4, List.take_append_of_le_length (by omega), List.take_of_length_le (by omega)]
  have d64 : bs4.drop 64 = [] := by rw [e4]; exact List.drop_of_length_le (by simp; omega)
  rw [h5, laidAt, t62, hC, t62, putB, if_pos hok, d64]
  simp

theorem put_any (p : Pc) (w : World) : Calls Try.prog 86 #[p.val] w fun e w' => e = .returned (.string (str (putB p))) ∧ Below w.heap.size w w' := by
  have hok := Pc.ok_iff p
  obtain ⟨b, hb⟩ : ∃ b, p.ok = b := ⟨_, rfl⟩
  have cK : ∀ W : World, Calls Try.prog 101 #[.agg #[.int .i64 p.life, .int .i64 p.place, .bool p.first, .bool p.last, .string p.body]] W fun e w' => e = .returned (.bool b) ∧ Below W.heap.size W w' := by
    intro W
    have := check_any p W
    rw [hb] at this
    exact this
  cases b with
  | false =>
    have hp : putB p = [] := by rw [putB, if_neg]; rw [hb]; simp
    rw [hp]
    replace hb := Lib.hid hb
    replace hok := Lib.hid hok
    simp only [Pc.val, Pc.row]
    go_enter Try.func86, Try.ntmps86
    go_wp2_with (go_at_call 101; refine (cK _).mono ?_; rintro _ w1 ⟨rfl, hb1⟩)
    go_ret
    exact ⟨rfl, Below.trans ((Below.refl _ _).alloc (Nat.le_refl _) _) (hb1.mono (by simp))⟩
  | true =>
    obtain ⟨h1, h2, h3, h4, h5⟩ := hok.1 hb
    obtain ⟨L, hL⟩ : ∃ L : Nat, (L : Int) = p.life := ⟨p.life.toNat, by omega⟩
    obtain ⟨M, hM⟩ : ∃ M : Nat, (M : Int) = p.place := ⟨p.place.toNat, by omega⟩
    have hL1 : L < 9223372036854775808 := by omega
    have hM1 : M < 9223372036854775808 := by omega
    replace hb := Lib.hid hb
    replace hok := Lib.hid hok
    replace hL := Lib.hid hL
    replace hM := Lib.hid hM
    simp only [Pc.val, Pc.row]
    rw [← hL.out, ← hM.out] at cK ⊢
    clear h1 h2 h3 h4
    replace cK := Lib.hid cK
    go_enter Try.func86, Try.ntmps86
    go_wp2_with (first
      | (go_at_call 101; refine (cK.out _).mono ?_; rintro _ w1 ⟨rfl, hb1⟩)
      | (with_reducible refine wpList_alloc_row (t := 120) (z := .agg (bytesOf (List.replicate 64 0))) rfl rfl (by kernel_rfl) ?_; intro w2 hW2 hb2 hs2))
    have hx1 := (Whole.new w 148 #[.int .i64 L, .int .i64 M, .bool p.first, .bool p.last, .string p.body]).below hb1 (by simp)
    have hlt : w.heap.size < w1.heap.size := hx1.lt
    have hx2 := hx1.below hb2 hlt
    have hne : w.heap.size ≠ w1.heap.size := by omega
    have hB1 : Below w.heap.size w w1 := Below.trans ((Below.refl _ _).alloc (Nat.le_refl _) _) (hb1.mono (by simp))
    have hB2 : Below w.heap.size w w2 := hB1.trans (hb2.mono (by omega))
    clear hb1 hb2 hx1 hs2
    generalize w1.heap.size = g at hW2 hlt hne ⊢
    generalize hpb : w.heap.size = pb at hx2 hlt hne hB2 ⊢
    clear hB1
    have c0 := hx2.cell 0
    have c1 := hx2.cell 1
    have c2 := hx2.cell 2
    have c3 := hx2.cell 3
    have c4 := hx2.cell 4
    simp at c0 c1 c2 c3 c4
    simp only [Value.cells] at hW2
    obtain ⟨bs0, hbs0⟩ : ∃ bs0, bs0 = List.replicate 64 (0 : UInt8) := ⟨_, rfl⟩
    rw [← hbs0] at hW2
    have hl0 : bs0.length = 64 := by rw [hbs0, List.length_replicate]
    replace hbs0 := Lib.hid hbs0
    have hW2' := hW2.drew
    replace hW2' := Lib.hid hW2'
    clear hW2
    replace hpb := Lib.hid hpb
    clear hx2
    simp only [Act.put, List.setIfInBounds_toArray, List.set_cons_zero, List.set_cons_succ]
    have d0 : w2.drew.cell? ⟨pb, 0, none⟩ = some (.int .i64 L) := c0
    have d1 : w2.drew.cell? ⟨pb, 1, none⟩ = some (.int .i64 M) := c1
    have d2 : w2.drew.cell? ⟨pb, 2, none⟩ = some (.bool p.first) := c2
    have d3 : w2.drew.cell? ⟨pb, 3, none⟩ = some (.bool p.last) := c3
    have d4 : w2.drew.cell? ⟨pb, 4, none⟩ = some (.string p.body) := c4
    have hBd : Below pb w w2.drew := hB2.drew
    clear c0 c1 c2 c3 c4 hB2
    go_region_held (fun w' => w'.cell? ⟨pb, 0, none⟩ = some (.int .i64 L)) (assumption) ((go_at_call 102; refine (low_any g 0 4 64 L 120 bs0 w2.drew hW2'.out (by omega) (by omega) hL1).mono ?_; rintro _ w3 ⟨rfl, hW3, hg3⟩; have c0 := cell_keep d0 hg3 hne; have c1 := cell_keep d1 hg3 hne; have c2 := cell_keep d2 hg3 hne; have c3 := cell_keep d3 hg3 hne; have c4 := cell_keep d4 hg3 hne))
    have hB3 : Below pb w w3 := hBd.grown hg3 (Nat.le_of_lt (World.block_lt_of_cell? _ _ d0)) (fun k hk => by cases hk; omega)
    generalize hbs1 : laidAt bs0 0 L 4 = bs1 at hW3
    have hl1 : bs1.length = 64 := by rw [← hbs1, laidAt_length _ _ _ _ (by omega), hl0]
    replace hbs1 := Lib.hid hbs1
    clear d0 d1 d2 d3 d4 hg3
    go_wp2_with fail
    have hW3' := hW3.drew
    replace hW3' := Lib.hid hW3'
    clear hW3
    have d0 : w3.drew.cell? ⟨pb, 0, none⟩ = some (.int .i64 L) := c0
    have d1 : w3.drew.cell? ⟨pb, 1, none⟩ = some (.int .i64 M) := c1
    have d2 : w3.drew.cell? ⟨pb, 2, none⟩ = some (.bool p.first) := c2
    have d3 : w3.drew.cell? ⟨pb, 3, none⟩ = some (.bool p.last) := c3
    have d4 : w3.drew.cell? ⟨pb, 4, none⟩ = some (.string p.body) := c4
    have hBd' : Below pb w w3.drew := hB3.drew
    clear c0 c1 c2 c3 c4 hBd
    go_region_held (fun w' => w'.cell? ⟨pb, 1, none⟩ = some (.int .i64 M)) (assumption) ((go_at_call 102; refine (low_any g 4 5 60 M 120 bs1 w3.drew hW3'.out (by omega) (by omega) hM1).mono ?_; rintro _ w4 ⟨rfl, hW4, hg4⟩; have c0 := cell_keep d0 hg4 hne; have c1 := cell_keep d1 hg4 hne; have c2 := cell_keep d2 hg4 hne; have c3 := cell_keep d3 hg4 hne; have c4 := cell_keep d4 hg4 hne))
    have hB4 : Below pb w w4 := hBd'.grown hg4 (Nat.le_of_lt (World.block_lt_of_cell? _ _ d0)) (fun k hk => by cases hk; omega)
    generalize hbs2 : laidAt bs1 4 M 5 = bs2 at hW4
    have hl2 : bs2.length = 64 := by rw [← hbs2, laidAt_length _ _ _ _ (by omega), hl1]
    replace hbs2 := Lib.hid hbs2
    clear d0 d1 d2 d3 d4 hg4
    go_wp2_with fail
    refine mixb_begin g (by kernel_rfl) ?_
    have hW4' := hW4.drew
    replace hW4' := Lib.hid hW4'
    have d0 : w4.drew.cell? ⟨pb, 0, none⟩ = some (.int .i64 L) := c0
    have d2 : w4.drew.cell? ⟨pb, 2, none⟩ = some (.bool p.first) := c2
    have d3 : w4.drew.cell? ⟨pb, 3, none⟩ = some (.bool p.last) := c3
    have d4 : w4.drew.cell? ⟨pb, 4, none⟩ = some (.string p.body) := c4
    have hBd4 : Below pb w w4.drew := hB4.drew
    generalize w4.drew = w5 at hW4' d0 d2 d3 d4 hBd4 ⊢
    clear hW4 c0 c1 c2 c3 c4 hB4 hBd'
    have k0 : Below g w5 w5 := Below.refl _ _
    have k2 : ∀ s : PastB g w5, s.1.cell? ⟨pb, 2, none⟩ = some (.bool p.first) := fun s => s.cell d2 hlt
    have k3 : ∀ s : PastB g w5, s.1.cell? ⟨pb, 3, none⟩ = some (.bool p.last) := fun s => s.cell d3 hlt
    have k4 : ∀ s : PastB g w5, s.1.cell? ⟨pb, 4, none⟩ = some (.string p.body) := fun s => s.cell d4 hlt
    refine mixb_take 0 (v := ?_) rfl (by kernel_rfl) (fun _ _ _ h => h) (by kernel_rfl) (by assumption) (fun s => ?hy) ?_; case hy => (go_simp <;> with_reducible rfl)
    try simp only [List.getElem_toArray, List.getElem_cons_succ, List.getElem_cons_zero, Act.put, List.setIfInBounds_toArray, List.set_cons_zero, List.set_cons_succ]
    refine mixb_take 1 (v := ?_) rfl (by kernel_rfl) (fun _ _ _ h => h) (by kernel_rfl) (by assumption) (fun s => ?hy) ?_; case hy => (go_simp <;> with_reducible rfl)
    try simp only [List.getElem_toArray, List.getElem_cons_succ, List.getElem_cons_zero, Act.put, List.setIfInBounds_toArray, List.set_cons_zero, List.set_cons_succ]
    refine mixb_take 2 (v := ?_) rfl (by kernel_rfl) (fun _ _ _ h => h) (by kernel_rfl) (by assumption) (fun s => ?hy) ?_; case hy => (go_simp <;> with_reducible rfl)
    try simp only [List.getElem_toArray, List.getElem_cons_succ, List.getElem_cons_zero, Act.put, List.setIfInBounds_toArray, List.set_cons_zero, List.set_cons_succ]
    refine mixb_take 3 (v := ?_) rfl (by kernel_rfl) (fun _ _ _ h => h) (by kernel_rfl) (by assumption) (fun s => ?hy) ?_; case hy => (go_simp <;> with_reducible rfl)
    try simp only [List.getElem_toArray, List.getElem_cons_succ, List.getElem_cons_zero, Act.put, List.setIfInBounds_toArray, List.set_cons_zero, List.set_cons_succ]
    refine mixb_take 4 (v := ?_) rfl (by kernel_rfl) (fun _ _ _ h => h) (by kernel_rfl) (by assumption) (fun s => ?hy) ?_; case hy => (go_simp <;> with_reducible rfl)
    try simp only [List.getElem_toArray, List.getElem_cons_succ, List.getElem_cons_zero, Act.put, List.setIfInBounds_toArray, List.set_cons_zero, List.set_cons_succ]
    refine mixb_take 5 (v := ?_) rfl (by kernel_rfl) (fun _ _ _ h => h) (by kernel_rfl) (by assumption) (fun s => ?hy) ?_; case hy => (go_simp <;> with_reducible rfl)
    try simp only [List.getElem_toArray, List.getElem_cons_succ, List.getElem_cons_zero, Act.put, List.setIfInBounds_toArray, List.set_cons_zero, List.set_cons_succ]
    refine mixb_take 6 (v := ?_) rfl (by kernel_rfl) (fun _ _ _ h => h) (by kernel_rfl) (by assumption) (fun s => ?hy) ?_; case hy => (go_simp <;> with_reducible rfl)
    try simp only [List.getElem_toArray, List.getElem_cons_succ, List.getElem_cons_zero, Act.put, List.setIfInBounds_toArray, List.set_cons_zero, List.set_cons_succ]
    obtain ⟨F, hF⟩ : ∃ F : Nat, (F : Int) = (if p.first then 64 else 0) + (if p.last then 128 else 0) := ⟨(if p.first then 64 else 0) + (if p.last then 128 else 0), by cases p.first <;> cases p.last <;> rfl⟩
    have hor := or_flags p F hF h5
    replace hF := Lib.hid hF
    have hgs : g < w5.heap.size := hW4'.out.lt
    refine mixb_one 7 (by kernel_rfl) rfl (by assumption) (fun K hK => ?_)
    go_simp
    (skip)
    have hsl := Sl.new w5 #[.bool p.first, .bool p.last] 4 (0, 0)
    have hW6 := Whole.below hW4'.out ((Below.refl w5.heap.size w5).alloc (Nat.le_refl _) (.cells #[.bool p.first, .bool p.last] 4)) hgs
    have k6 : Below g w5 (w5.alloc (.cells #[.bool p.first, .bool p.last] 4)) := (Below.refl _ _).alloc (by omega) _
    refine hK.out g _ _ (Nat.le_refl _) k6 fun h6 => ?_
    clear hK K k2 k3 k4
    have hBd6 : Below pb w (w5.alloc (.cells #[.bool p.first, .bool p.last] 4)) := hBd4.trans (k6.mono (by omega))
    have e0 := (k6.cell hlt).trans d0
    have e4 := (k6.cell hlt).trans d4
    generalize hsz5 : w5.heap.size = q5 at hsl hgs ⊢
    generalize w5.alloc (.cells #[.bool p.first, .bool p.last] 4) = w6 at hsl hW6 k6 h6 hBd6 e0 e4 ⊢
    clear d0 d2 d3 d4 hBd4 k0
    skip
    refine mixb_one 8 (by kernel_rfl) rfl (by assumption) (fun K hK => ?_)
    go_simp
    (refine (flags_any _ _ p.first p.last w6 hsl).mono ?_; rintro _ _ ⟨rfl, rfl⟩; rw [← hF.out])
    refine hK.out g _ _ (Nat.le_refl _) (Below.refl _ _) fun h7 => ?_
    clear hK K h7
    refine mixb_take 9 (v := ?_) rfl (by kernel_rfl) (fun _ _ _ h => h) (by kernel_rfl) (by assumption) (fun s => ?hy) ?_; case hy => (go_simp <;> with_reducible rfl)
    try simp only [List.getElem_toArray, List.getElem_cons_succ, List.getElem_cons_zero, Act.put, List.setIfInBounds_toArray, List.set_cons_zero, List.set_cons_succ]
    refine mixb_take 10 (v := ?_) rfl (by kernel_rfl) (fun _ _ _ h => h) (by kernel_rfl) (by assumption) (fun s => ?hy) ?_; case hy => (go_simp <;> with_reducible rfl)
    try simp only [List.getElem_toArray, List.getElem_cons_succ, List.getElem_cons_zero, Act.put, List.setIfInBounds_toArray, List.set_cons_zero, List.set_cons_succ]
    refine mixb_take 11 (v := ?_) rfl (by kernel_rfl) (fun _ _ _ h => h) (by kernel_rfl) (by assumption) (fun s => ?hy) ?_; case hy => (go_simp <;> with_reducible rfl)
    try simp only [List.getElem_toArray, List.getElem_cons_succ, List.getElem_cons_zero, Act.put, List.setIfInBounds_toArray, List.set_cons_zero, List.set_cons_succ]
    have c9 := hW6.cell 9
    rw [bytesOf_get _ _ (by omega)] at c9
    have f9 := hW6.frozen 9
    replace hW6 := Lib.hid hW6
    refine mixb_one 12 (by kernel_rfl) rfl (by assumption) (fun K hK => ?_)
    go_simp
    (skip)
    have hvb := vb_wrap (sizeFlags p)
    have hW7 := hW6.out.set 9 (vb (UInt8.ofNat (sizeFlags p)))
    rw [bytesOf_set, hvb] at hW7
    have k7 : Below g w6 (w6.setCell ⟨g, 9, none⟩ (.int .u8 (IntKind.u8.wrap (sizeFlags p : Int)))) := (Below.refl _ _).grown (grown_set _ _ _ _) (by have := hW6.out.lt; omega) (fun k hk => by cases hk; exact Nat.le_refl _)
    refine hK.out g _ _ (Nat.le_refl _) k7 fun h7 => ?_
    clear hK K h7
    have hBd7 := hBd6.trans (k7.mono (by omega))
    have f0 := (k7.cell hlt).trans e0
    have f4 := (k7.cell hlt).trans e4
    generalize w6.setCell ⟨g, 9, none⟩ (.int .u8 (IntKind.u8.wrap (sizeFlags p : Int))) = w7 at hW7 k7 hBd7 f0 f4 ⊢
    generalize hbs3 : bs2.set 9 (UInt8.ofNat (sizeFlags p)) = bs3 at hW7
    have hl3 : bs3.length = 64 := by rw [← hbs3, List.length_set, hl2]
    replace hbs3 := Lib.hid hbs3
    clear k7 k6 e0 e4 hsl c9 f9 hvb hor h6
    refine wpAnyH_done (by kernel_rfl) ?_ _
    go_wp2_with fail
    refine mixb_begin g (by kernel_rfl) ?_
    have hW7' := hW7.drew
    replace hW7' := Lib.hid hW7'
    have d0 : w7.drew.cell? ⟨pb, 0, none⟩ = some (.int .i64 L) := f0
    have d4 : w7.drew.cell? ⟨pb, 4, none⟩ = some (.string p.body) := f4
    have hBd8 : Below pb w w7.drew := hBd7.drew
    generalize w7.drew = w8 at hW7' d0 d4 hBd8 ⊢
    clear hW7 f0 f4 hBd7
    have k0 : Below g w8 w8 := Below.refl _ _
    have k4 : ∀ s : PastB g w8, s.1.cell? ⟨pb, 4, none⟩ = some (.string p.body) := fun s => s.cell d4 hlt
    refine mixb_take 0 (v := ?_) rfl (by kernel_rfl) (fun _ _ _ h => h) (by kernel_rfl) (by assumption) (fun s => ?hy) ?_; case hy => (go_simp <;> with_reducible rfl)
    try simp only [List.getElem_toArray, List.getElem_cons_succ, List.getElem_cons_zero, Act.put, List.setIfInBounds_toArray, List.set_cons_zero, List.set_cons_succ]
    refine mixb_take 1 (v := ?_) rfl (by kernel_rfl) (fun _ _ _ h => h) (by kernel_rfl) (by assumption) (fun s => ?hy) ?_; case hy => (go_simp <;> with_reducible rfl)
    try simp only [List.getElem_toArray, List.getElem_cons_succ, List.getElem_cons_zero, Act.put, List.setIfInBounds_toArray, List.set_cons_zero, List.set_cons_succ]
    refine mixb_take 2 (v := ?_) rfl (by kernel_rfl) (fun _ _ _ h => h) (by kernel_rfl) (by assumption) (fun s => ?hy) ?_; case hy => (go_simp <;> with_reducible rfl)
    try simp only [List.getElem_toArray, List.getElem_cons_succ, List.getElem_cons_zero, Act.put, List.setIfInBounds_toArray, List.set_cons_zero, List.set_cons_succ]
    refine mixb_one 3 (by kernel_rfl) rfl (by assumption) (fun K hK => ?_)
    go_simp
    (skip)
    obtain ⟨w9, hr9, hW9, hg9⟩ := run_copy_str (P := Try.prog) w8 127 9 3 5 Try.underlying127 elem_u8 Try.underlying9 (off := 10) (n := 52) (c := 54) hW7'.out p.body h5 (by simp [bytesOf]; omega)
    rw [hr9]
    simp only [Result.andThen_ok]
    rw [Oper.upon_value]
    have k9 : Below g w8 w9 := (Below.refl _ _).grown hg9 (by have := hW7'.out.lt; omega) (fun k hk => by cases hk; exact Nat.le_refl _)
    refine hK.out g _ _ (Nat.le_refl _) k9 fun h9 => ?_
    clear hK K h9 k4 k0 hr9 hg9
    have hBd9 := hBd8.trans (k9.mono (by omega))
    have f0 := (k9.cell hlt).trans d0
    have f4 := (k9.cell hlt).trans d4
    obtain ⟨bs4, hbs4⟩ : ∃ bs4, bs4 = bs3.take 10 ++ p.body.data.toList ++ bs3.drop (10 + p.body.size) := ⟨_, rfl⟩
    have hW9' : Whole w9 g 120 (bytesOf bs4) := by
      have e : ((bytesOf bs3).toList.take 10 ++ p.body.data.toList.map vb ++ (bytesOf bs3).toList.drop (10 + p.body.size)).toArray = bytesOf bs4 := by
        rw [hbs4]
        simp [bytesOf, List.map_take, List.map_drop]
      rw [← e]
      exact hW9
    have hl4 : bs4.length = 64 := by
      rw [hbs4]
      simp only [List.length_append, List.length_take, List.length_drop, ← ba_size]
      omega
    replace hbs4 := Lib.hid hbs4
    clear hW9 k9 d0 d4 hBd8
    refine wpAnyH_done (by kernel_rfl) ?_ _
    go_wp2_with fail
    refine mixb_begin g (by kernel_rfl) ?_
    have hW10 := hW9'.drew
    replace hW10 := Lib.hid hW10
    have hBd10 : Below pb w w9.drew := hBd9.drew
    generalize w9.drew = w10 at hW10 hBd10 ⊢
    clear hW9' f0 f4 hBd9
    have k0 : Below g w10 w10 := Below.refl _ _
    refine mixb_take 0 (v := ?_) rfl (by kernel_rfl) (fun _ _ _ h => h) (by kernel_rfl) (by assumption) (fun s => ?hy) ?_; case hy => (go_simp <;> with_reducible rfl)
    try simp only [List.getElem_toArray, List.getElem_cons_succ, List.getElem_cons_zero, Act.put, List.setIfInBounds_toArray, List.set_cons_zero, List.set_cons_succ]
    refine mixb_take 1 (v := ?_) rfl (by kernel_rfl) (fun _ _ _ h => h) (by kernel_rfl) (by assumption) (fun s => ?hy) ?_; case hy => (go_simp <;> with_reducible rfl)
    try simp only [List.getElem_toArray, List.getElem_cons_succ, List.getElem_cons_zero, Act.put, List.setIfInBounds_toArray, List.set_cons_zero, List.set_cons_succ]
    have hs62 : Sl w10 (some ⟨g, 0, none⟩) ((bs4.take 62).map vb) := by
      intro i hi
      rw [List.length_map, List.length_take] at hi
      refine ⟨g, 0, rfl, ?_⟩
      have hc := hW10.out.cell (0 + i)
      rw [bytesOf_get _ _ (by omega)] at hc
      rw [hc]
      simp [vb]
    refine mixb_one 2 (by kernel_rfl) rfl (by assumption) (fun K hK => ?_)
    go_simp
    (refine (of_at (some ⟨g, 0, none⟩) (bs4.take 62) 64 w10 62 (by rw [List.length_take]; omega) hs62 (by unfold maxLen; omega)).mono ?_; rintro _ _ ⟨rfl, rfl⟩)
    refine hK.out g _ _ (Nat.le_refl _) (Below.refl _ _) fun h11 => ?_
    clear hK K h11 hs62
    obtain ⟨C, hC⟩ : ∃ C, C = (crc (bs4.take 62)).toNat := ⟨_, rfl⟩
    have hC1 : C < 4294967296 := by rw [hC]; exact (crc (bs4.take 62)).isLt
    rw [← hC]
    replace hC := Lib.hid hC
    refine mixb_take 3 (v := ?_) rfl (by kernel_rfl) (fun _ _ _ h => h) (by kernel_rfl) (by assumption) (fun s => ?hy) ?_; case hy => (go_simp <;> with_reducible rfl)
    try simp only [List.getElem_toArray, List.getElem_cons_succ, List.getElem_cons_zero, Act.put, List.setIfInBounds_toArray, List.set_cons_zero, List.set_cons_succ]
    refine mixb_one 4 (by kernel_rfl) rfl (by assumption) (fun K hK => ?_)
    go_simp
    (rw [wrap_i64_nat C (by omega)]; refine (low_any g 62 2 2 C 120 bs4 w10 hW10.out (by omega) (by omega) (by omega)).mono ?_; rintro _ w11 ⟨rfl, hW11, hg11⟩)
    have k11 : Below g w10 w11 := (Below.refl _ _).grown hg11 (by have := hW10.out.lt; omega) (fun k hk => by cases hk; exact Nat.le_refl _)
    refine hK.out g _ _ (Nat.le_refl _) k11 fun h12 => ?_
    clear hK K h12 k0 hg11
    have hBd11 := hBd10.trans (k11.mono (by omega))
    have hl5 := laidAt_length bs4 62 C 2 (by omega)
    generalize hbs5 : laidAt bs4 62 C 2 = bs5 at hW11 hl5
    replace hbs5 := Lib.hid hbs5
    clear k11 hBd10
    refine wpAnyH_done (by kernel_rfl) ?_ _
    have hsl : Sl w11 (some ⟨g, 0, none⟩) (bs5.map vb) := by
      intro i hi
      rw [List.length_map] at hi
      refine ⟨g, 0, rfl, ?_⟩
      have hc := hW11.cell (0 + i)
      rw [bytesOf_get _ _ (by omega)] at hc
      rw [hc]
      simp [vb]
    replace hsl := Lib.hid hsl
    go_wp2_with (with_reducible refine wpList_bts (src := 127) (dst := 9) (x := .tmp 36) (l := bs5) rfl rfl Try.underlying127 Try.underlying5 Try.underlying9 rfl hsl.out (by omega) ?_)
    go_ret
    have hfin : bs5 = putB p := put_bytes p L M hb.out hL.out hM.out bs0 bs1 bs2 bs3 bs4 bs5 C hbs0.out hbs1.out.symm hbs2.out.symm hbs3.out.symm hbs4.out hC.out hbs5.out.symm
    rw [hfin, hpb.out]
    exact ⟨rfl, hBd11⟩

end Go.Proofs.Ytlhpibniecfofaa
end

section
/- The state of a walk in one word: which blocks may be written, and what lies in the call's own. -/
set_option linter.unusedSimpArgs false
set_option linter.unusedVariables false
namespace Go.Ofp
open Go.RowKit

/-- All blocks but those of F stand. -/
structure Fr (F : List Nat) (w w' : World) : Prop where
  os : w'.os = w.os
  tape : w'.tape = w.tape
  output : w'.output = w.output
  size : w.heap.size ≤ w'.heap.size
  block : ∀ k, k < w.heap.size → k ∉ F → w'.heap[k]? = w.heap[k]?

namespace Fr
theorem refl (F : List Nat) (w : World) : Fr F w w := ⟨rfl, rfl, rfl, Nat.le_refl _, fun _ _ _ => rfl⟩
theorem mono {F G : List Nat} {w w' : World} (h : Fr F w w') (hs : ∀ g ∈ F, g ∈ G) : Fr G w w' := ⟨h.os, h.tape, h.output, h.size, fun k hk hn => h.block k hk fun hg => hn (hs k hg)⟩
theorem trans {F G : List Nat} {a b c : World} (h : Fr F a b) (k : Fr G b c) (hs : ∀ g ∈ G, g ∈ F ∨ a.heap.size ≤ g) : Fr F a c :=
  ⟨k.os.trans h.os, k.tape.trans h.tape, k.output.trans h.output, Nat.le_trans h.size k.size, fun i hi hn =>
    (k.block i (Nat.lt_of_lt_of_le hi h.size) fun hg => (hs i hg).elim hn fun h2 => by omega).trans (h.block i hi hn)⟩
theorem of_below {w w' : World} (h : Below w.heap.size w w') : Fr [] w w' := ⟨h.os, h.tape, h.output, h.size, fun k hk _ => h.block k hk⟩
theorem below {w w' : World} (h : Fr [] w w') : Below w.heap.size w w' := ⟨h.os, h.tape, h.output, h.size, fun k hk => h.block k hk (by simp)⟩
theorem of_grown {w w' : World} {g : Nat} (h : w.grownBy w' (some g)) : Fr [g] w w' := ⟨h.os, h.tape, h.output, h.size, fun k hk hn => h.block k hk (by simpa using hn)⟩
theorem of_row {w w' : World} {r : Option Nat} (h : w.grownBy w' r) : Fr r.toList w w' := ⟨h.os, h.tape, h.output, h.size, fun k hk hn => h.block k hk (by cases r <;> simp_all)⟩
theorem of_all {w w' : World} (h : ∀ row, w.grownBy w' row) : Fr [] w w' := of_row (h none)
theorem grown {w w' : World} {g : Nat} (h : Fr [g] w w') : w.grownBy w' (some g) := ⟨h.os, h.tape, h.output, h.size, fun k hk hn => h.block k hk (by simpa using hn)⟩
theorem drew (w : World) : Fr [] w w.drew := ⟨rfl, rfl, rfl, Nat.le_refl _, fun _ _ _ => rfl⟩
theorem alloc (w : World) (o : Obj) : Fr [] w (w.alloc o) := of_below ((Below.refl _ _).alloc (Nat.le_refl _) _)
theorem set (w : World) (g i : Nat) (u : Value) : Fr [g] w (w.setCell ⟨g, i, none⟩ u) := of_grown (grown_set w g i u)
theorem same {w w' : World} (h : w = w') : Fr [] w w' := h ▸ refl _ _
theorem cell {F : List Nat} {w w' : World} (h : Fr F w w') {p : Addr} {v : Value} (hc : w.cell? p = some v) (hp : p.block ∉ F) : w'.cell? p = some v := by
  rw [World.cell?_of_block (h.block p.block (World.block_lt_of_cell? w p hc) hp)]; exact hc
end Fr

/-- A piece of the call's own memory: the blocks that it is made of, and what is said of them. -/
structure Ch where
  foot : List Nat
  holds : World → Prop
  lt : ∀ {w}, holds w → ∀ g ∈ foot, g < w.heap.size
  keep : ∀ {w w'}, holds w → (∀ g ∈ foot, w'.heap[g]? = w.heap[g]?) → holds w'

/-- A block of cells. -/
def Ch.blk (g : Nat) (t : TypeId) (cs : Array Value) : Ch where
  foot := [g]
  holds w := Whole w g t cs
  lt h x hx := by simp at hx; subst hx; exact h.lt
  keep h k := (k g (by simp)).trans h

theorem ownsRow_zero {w : World} {base e size n : Nat} {v : Value} {xs : List Value} (h : w.ownsRow base e size v n xs) : w.ownsRow 0 e size v n xs := by
  refine ⟨h.1, h.2.imp id ?_⟩
  rintro ⟨g, cap, cur, h1, _, h2⟩
  exact ⟨g, cap, cur, h1, Nat.zero_le _, h2⟩
theorem ownsRow_foot {w : World} {base e size n : Nat} {v : Value} {xs : List Value} (h : w.ownsRow base e size v n xs) : ∀ g ∈ v.ownBlock.toList, base ≤ g := by
  rcases h.2 with ⟨rfl, _⟩ | ⟨g, cap, cur, rfl, hb, _⟩
  · simp [Value.ownBlock]
  · simpa [Value.ownBlock] using hb

/-- A slice of the call's own. -/
def Ch.row (e : TypeId) (size : Nat) (v : Value) (n : Nat) (xs : List Value) : Ch where
  foot := v.ownBlock.toList
  holds w := w.ownsRow 0 e size v n xs
  lt {w} h g hg := by
    rcases h.2 with ⟨rfl, _⟩ | ⟨g', cap, cur, rfl, _, hh, _⟩
    · simp [Value.ownBlock] at hg
    · simp [Value.ownBlock] at hg
      subst hg
      exact (Array.getElem?_eq_some_iff.1 hh).1
  keep {w w'} h k := by
    refine ⟨h.1, h.2.imp id ?_⟩
    rintro ⟨g, cap, cur, rfl, h0, hh, h2⟩
    exact ⟨g, cap, cur, rfl, h0, (k g (by simp [Value.ownBlock])).trans hh, h2⟩

/-- Of the blocks that were there when w0 was, those of F may be written; L lies in the call's own. -/
structure St (w0 : World) (F : List Nat) (L : List Ch) (w : World) : Prop where
  fr : Fr F w0 w
  own : ∀ (i : Nat) (c : Ch), L[i]? = some c → c.holds w ∧ ∀ g ∈ c.foot, g ∈ F ∨ w0.heap.size ≤ g
  apart : ∀ (i j : Nat) (c d : Ch), L[i]? = some c → L[j]? = some d → i ≠ j → ∀ g ∈ c.foot, g ∉ d.foot

namespace St
variable {w0 w w1 : World} {F G : List Nat} {L : List Ch} {c d : Ch}

theorem start (w : World) : St w [] [] w := ⟨Fr.refl _ _, by simp, by simp⟩
theorem get (h : St w0 F L w) (i : Nat) (hi : L[i]? = some c) : c.holds w := (h.own i c hi).1
theorem lt (h : St w0 F L w) (i : Nat) (hi : L[i]? = some c) : ∀ g ∈ c.foot, g < w.heap.size := c.lt (h.get i hi)

theorem upd (h : St w0 F L w) (i : Nat) (hi : L[i]? = some c) (hf : Fr G w w1) (hG : ∀ g ∈ G, g ∈ c.foot) (hd : d.holds w1) (hfoot : ∀ g ∈ d.foot, g ∈ c.foot ∨ w.heap.size ≤ g) : St w0 F (L.set i d) w1 := by
  have hc := h.own i c hi
  have hlt : i < L.length := (List.getElem?_eq_some_iff.1 hi).1
  refine ⟨h.fr.trans hf fun g hg => hc.2 g (hG g hg), fun j e he => ?_, fun j k e e' he he' hjk => ?_⟩
  · rw [List.getElem?_set] at he
    split at he
    · cases he
      refine ⟨hd, fun g hg => ?_⟩
      rcases hfoot g hg with h1 | h1
      · exact hc.2 g h1
      · exact .inr (Nat.le_trans h.fr.size h1)
    · rename_i hij
      obtain ⟨h1, h2⟩ := h.own j e he
      refine ⟨e.keep h1 fun g hg => hf.block g (e.lt h1 g hg) fun hgG => ?_, h2⟩
      exact h.apart j i e c he hi (Ne.symm hij) g hg (hG g hgG)
  · rw [List.getElem?_set] at he he'
    split at he
    · rename_i hij
      cases he
      rw [if_neg (by omega)] at he'
      intro g hg hg'
      rcases hfoot g hg with h1 | h1
      · exact h.apart i k c e' hi he' (by omega) g h1 hg'
      · have := e'.lt (h.own k e' he').1 g hg'
        omega
    · split at he'
      · rename_i hik
        cases he'
        intro g hg hg'
        rcases hfoot g hg' with h1 | h1
        · exact h.apart i j c e hi he (by omega) g h1 hg
        · have := e.lt (h.own j e he).1 g hg
          omega
      · exact h.apart j k e e' he he' hjk

theorem keep (h : St w0 F L w) (hf : Fr [] w w1) : St w0 F L w1 :=
  ⟨h.fr.trans hf (by simp), fun j e he => ⟨e.keep (h.own j e he).1 fun g hg => hf.block g (e.lt (h.own j e he).1 g hg) (by simp), (h.own j e he).2⟩, h.apart⟩

theorem push (h : St w0 F L w) (hf : Fr [] w w1) (hd : d.holds w1) (hfoot : ∀ g ∈ d.foot, w.heap.size ≤ g) : St w0 F (d :: L) w1 := by
  have hk := h.keep hf
  refine ⟨hk.fr, fun j e he => ?_, fun j k e e' he he' hjk => ?_⟩
  · cases j with
    | zero => simp at he; subst he; exact ⟨hd, fun g hg => .inr (Nat.le_trans h.fr.size (hfoot g hg))⟩
    | succ j => exact hk.own j e (by simpa using he)
  · cases j with
    | zero =>
      cases k with
      | zero => exact absurd rfl hjk
      | succ k =>
        simp at he he'
        subst he
        intro g hg hg'
        have := e'.lt (h.own k e' he').1 g hg'
        have := hfoot g hg
        omega
    | succ j =>
      cases k with
      | zero =>
        simp at he he'
        subst he'
        intro g hg hg'
        have := e.lt (h.own j e he).1 g hg
        have := hfoot g hg'
        omega
      | succ k => exact h.apart j k e e' (by simpa using he) (by simpa using he') (by omega)

theorem drop (h : St w0 F (d :: L) w) : St w0 F L w :=
  ⟨h.fr, fun i c hi => h.own (i + 1) c (by simpa using hi), fun i j c d hi hj hij => h.apart (i + 1) (j + 1) c d (by simpa using hi) (by simpa using hj) (by omega)⟩
theorem empty (h : St w0 F L w) : St w0 F [] w := ⟨h.fr, by simp, by simp⟩
theorem below (h : St w0 [] L w) : Below w0.heap.size w0 w := h.fr.below

/-! What is read. -/
theorem cell {g t : Nat} {cs : Array Value} (h : St w0 F L w) (i : Nat) (hi : L[i]? = some (Ch.blk g t cs)) (j : Nat) : w.cell? ⟨g, j, none⟩ = cs[j]? := Whole.cell (h.get i hi) j
theorem frozen {g t : Nat} {cs : Array Value} (h : St w0 F L w) (i : Nat) (hi : L[i]? = some (Ch.blk g t cs)) (j : Nat) : w.frozen? ⟨g, j, none⟩ = false := Whole.frozen (h.get i hi) j
theorem old (h : St w0 F L w) {p : Addr} {v : Value} (hc : w0.cell? p = some v) (hp : p.block ∉ F) : w.cell? p = some v := h.fr.cell hc hp
theorem sl (h : St w0 [] L w) {a : Option Addr} {xs : List Value} (hs : Sl w0 a xs) : Sl w a xs := hs.below h.below
theorem row {e size n : Nat} {v : Value} {xs : List Value} (h : St w0 F L w) (i : Nat) (hi : L[i]? = some (Ch.row e size v n xs)) : ∃ a cap, v = .slice a n cap ∧ Sl w a xs ∧ xs.length = n * size ∧ n ≤ cap ∧ cap ≤ maxLen := owns_sl (h.get i hi)

theorem rowsl {e size n c m : Nat} {a : Option Addr} {xs : List Value} (h : St w0 F L w) (i : Nat) (hi : L[i]? = some (Ch.row e size (.slice a n c) m xs)) : Sl w a xs := by
  obtain ⟨a', c', e', hs, -⟩ := h.row i hi
  cases e'
  exact hs

/-! What is done. -/
theorem drew (h : St w0 F L w) : St w0 F L w.drew := h.keep (Fr.drew _)
theorem alloc (h : St w0 F L w) (cs : Array Value) (t : TypeId) : St w0 F (Ch.blk w.heap.size t cs :: L) (w.alloc (.cells cs t)) :=
  h.push (Fr.alloc _ _) (Whole.new w t cs) (by simp [Ch.blk])
theorem new (h : St w0 F L w) (cs : Array Value) (t : TypeId) : ∃ g w1, w.heap.size = g ∧ w.alloc (.cells cs t) = w1 ∧ St w0 F (Ch.blk g t cs :: L) w1 := ⟨_, _, rfl, rfl, h.alloc cs t⟩
theorem set {g t : Nat} {cs : Array Value} (h : St w0 F L w) (i : Nat) (hi : L[i]? = some (Ch.blk g t cs)) (j : Nat) (u : Value) : St w0 F (L.set i (Ch.blk g t (cs.setIfInBounds j u))) (w.setCell ⟨g, j, none⟩ u) :=
  h.upd i hi (Fr.set w g j u) (by simp [Ch.blk]) (Whole.set (h.get i hi) j u) (by simp [Ch.blk])
theorem fresh {e size n : Nat} {v : Value} {xs : List Value} (h : St w0 F L w) (hf : Fr [] w w1) (ho : w1.ownsRow w.heap.size e size v n xs) : St w0 F (Ch.row e size v n xs :: L) w1 :=
  h.push hf (ownsRow_zero ho) (ownsRow_foot ho)
theorem keepB (h : St w0 F L w) (hb : Below w.heap.size w w1) : St w0 F L w1 := h.keep (Fr.of_below hb)
end St

/-! ### The walk's laws in a region that keeps its order -/
section
variable {P : Program} {w0 w : World} {F : List Nat} {L : List Ch} {ops : Array Oper} {rest : List Oper} {o : Oper} {a : Act} {Q : Exit → Act → World → Prop}

/-- append to a slice of the call's own. -/
theorem wpList_app_st (i : Nat) {e size n : Nat} {v : Value} {xs : List Value} (hS : St w0 F L w) (hi : L[i]? = some (Ch.row e size v n xs)) (hgd : o.guard = none) {s x : Operand} {t tx : TypeId} (ho : o.op = .call { callee := .builtin .append, args := #[s, x], argTypes := #[t, tx] })
    (ht : P.underlying t = some (.slice e)) {z : Value} {bytes : Nat} (he : Elem P e z size bytes) (hs : a.eval s = v)
    {xv : Value} {m : Nat} {news : List Value} (hx : Src P w tx xv size m news) (hxv : a.eval x = xv) (h1 : ∀ u ∈ news, u.oneCell' = true)
    (hb : (n + m) * bytes ≤ 140737488355328) (h63 : n + m ≤ maxLen)
    (h : ∀ v' w', St w0 F (L.set i (Ch.row e size v' (n + m) (xs ++ news))) w' → wpList P ops Q rest (a.put o.dst v') w') : wpList P ops Q (o :: rest) a w := by
  refine wpList_app hgd ho ht he (hS.get i hi) hs hx hxv h1 hb h63 (Nat.zero_le _) fun v' w' h2 _ h3 h4 => h v' w' ?_
  refine hS.upd i hi (Fr.of_row h3) (by intro g hg; exact hg) h2 ?_
  intro g hg
  rcases h4 with h4 | h4
  · left; simpa [Ch.row, h4] using hg
  · right
    simp [Ch.row, h4] at hg
    omega

/-- make([]T, n). -/
theorem wpList_mkfull_st (hS : St w0 F L w) (hg : o.guard = none) {l c : Operand} {t : TypeId} (hop : o.op = Op.makeSlice t l c)
    {e : TypeId} (h1 : P.underlying t = some (.slice e)) {z : Value} {size bytes : Nat} (he : Elem P e z size bytes)
    {kl kc : IntKind} {N C : Int} (hl : a.eval l = .int kl N) (hc : a.eval c = .int kc C) (n : Nat) (hL : N = (n : Int)) (hC : C = (n : Int)) (hb : n * bytes ≤ 281474976710656) (hm : n ≤ maxLen)
    (hK : ∀ g w', St w0 F (Ch.row e size (.slice (some ⟨g, 0, none⟩) n n) n (madeCells z.cells (n * size)).toList :: L) w' → wpList P ops Q rest (a.put o.dst (.slice (some ⟨g, 0, none⟩) n n)) w') :
    wpList P ops Q (o :: rest) a w :=
  wpList_mkfull hg hop h1 he hl hc n hL hC hb hm fun _ h2 h3 => hK _ _ (hS.fresh (Fr.of_all h3) h2)
end

/-! ### Regions that draw their order -/
/-- The worlds in which L stands. -/
def Cl (w0 : World) (F : List Nat) (L : List Ch) : Type := { x : World // St w0 F L x }

section
variable {w0 w : World} {F : List Nat} {L : List Ch}
theorem St.kblk {g t : Nat} {cs : Array Value} (_ : St w0 F L w) (i : Nat) (hi : L[i]? = some (Ch.blk g t cs)) : ∀ (s : Cl w0 F L) (j : Nat), s.1.cell? ⟨g, j, none⟩ = cs[j]? := fun s j => s.2.cell i hi j
theorem St.kold0 (_ : St w0 [] L w) {p : Addr} {v : Value} (hc : w0.cell? p = some v) : ∀ s : Cl w0 [] L, s.1.cell? p = some v := fun s => s.2.old hc (by simp)

variable {P : Program} {Q : Exit → Act → World → Prop}

theorem mixs_begin {id : Nat} {l : List Oper} {a : Act} (hm : P.follows .mixedOrders = true) (hS : St w0 F L w)
    (h : ∀ w', St w0 F L w' → wpAnyH P .any l.toArray Q (fun w' => St w0 F L w') l.length (Array.replicate l.length false) a w') : (Code.region id l.toArray true).wp P Q a w := by
  refine wp_region_held (S := fun w' => St w0 F L w') hm ?_
  simpa using h w.drew hS.drew

variable {ops : Array Oper} {fuel : Nat} {listed : Array Bool} {a : Act} {oi : Oper}

theorem mixs_take (i : Nat) {v : Value} (hi : ops[i]? = some oi) (hok : (Region.noSelect ops && (Region.free .any ops listed i && (Region.ready .any ops listed).contains i)) = true)
    (hQ : ∀ c a w, Q (.panic c) (a.put oi.dst v) w → Q (.panic c) a w) (hw : Region.wanted oi (yielded ops a.tmps) = true) (hS : St w0 F L w)
    (hy : ∀ s : Cl w0 F L, (execOp a.eval oi).run P s.1 = .ok (.value v) s.1)
    (h : wpAnyH P .any ops Q (fun w' => St w0 F L w') fuel (listed.setIfInBounds i true) (a.put oi.dst v) w) :
    wpAnyH P .any ops Q (fun w' => St w0 F L w') (fuel + 1) listed a w := by
  simp only [Bool.and_eq_true] at hok
  exact wpAnyH_take hi hok.1 hok.2.1 hok.2.2 hQ (Or.inl ⟨hw, fun w' h' => hy ⟨w', h'⟩⟩) hS h

theorem mixs_skip (i : Nat) (hi : ops[i]? = some oi) (hok : (Region.noSelect ops && (Region.free .any ops listed i && (Region.ready .any ops listed).contains i)) = true)
    (hQ : ∀ c a w, Q (.panic c) (a.put oi.dst undef) w → Q (.panic c) a w) (hw : Region.wanted oi (yielded ops a.tmps) = false) (hS : St w0 F L w)
    (h : wpAnyH P .any ops Q (fun w' => St w0 F L w') fuel (listed.setIfInBounds i true) (a.put oi.dst undef) w) :
    wpAnyH P .any ops Q (fun w' => St w0 F L w') (fuel + 1) listed a w := by
  simp only [Bool.and_eq_true] at hok
  exact wpAnyH_take hi hok.1 hok.2.1 hok.2.2 hQ (Or.inr ⟨hw, rfl⟩) hS h

/-- Number i comes up, which alone may; behind it the class may be a narrower one. -/
theorem mixs_one (i : Nat) {o : Oper} (hr : Region.ready .any ops listed = [i]) (ho : ops[i]? = some o)
    (h : ∀ K' : Act → World → Prop, Shut (∀ (L' : List Ch) a w1, (∀ x, St w0 F L' x → St w0 F L x) → St w0 F L' w1 → (St w0 F L' w1 → wpAnyH P .any ops Q (fun w' => St w0 F L' w') fuel (listed.setIfInBounds i true) a w1) → K' a w1) →
      if Region.wanted o (yielded ops a.tmps) = true then Oper.wp P o a w K' Q else K' (a.put o.dst undef) w) :
    wpAnyH P .any ops Q (fun w' => St w0 F L w') (fuel + 1) listed a w := by
  refine wpAnyH_ready hr (by simp) (AllReadyH.cons ho (fun K hK => h K ?_) AllReadyH.nil)
  intro L' a1 w1 hL hb hc
  exact hK.out a1 w1 (hL _ hb) fun _ => wpAnyH_mono (fun _ h => hL _ h) _ _ _ _ (hc hb)

/-- Two may come up. -/
theorem mixs_two (i j : Nat) {oi oj : Oper} (hr : Region.ready .any ops listed = [i, j]) (hio : ops[i]? = some oi) (hjo : ops[j]? = some oj)
    (hi : ∀ K' : Act → World → Prop, Shut (∀ (L' : List Ch) a w1, (∀ x, St w0 F L' x → St w0 F L x) → St w0 F L' w1 → (St w0 F L' w1 → wpAnyH P .any ops Q (fun w' => St w0 F L' w') fuel (listed.setIfInBounds i true) a w1) → K' a w1) →
      if Region.wanted oi (yielded ops a.tmps) = true then Oper.wp P oi a w K' Q else K' (a.put oi.dst undef) w)
    (hj : ∀ K' : Act → World → Prop, Shut (∀ (L' : List Ch) a w1, (∀ x, St w0 F L' x → St w0 F L x) → St w0 F L' w1 → (St w0 F L' w1 → wpAnyH P .any ops Q (fun w' => St w0 F L' w') fuel (listed.setIfInBounds j true) a w1) → K' a w1) →
      if Region.wanted oj (yielded ops a.tmps) = true then Oper.wp P oj a w K' Q else K' (a.put oj.dst undef) w) :
    wpAnyH P .any ops Q (fun w' => St w0 F L w') (fuel + 1) listed a w := by
  refine wpAnyH_ready hr (by simp) (AllReadyH.cons hio (fun K hK => hi K ?_) (AllReadyH.cons hjo (fun K hK => hj K ?_) AllReadyH.nil))
  all_goals
    intro L' a1 w1 hL hb hc
    exact hK.out a1 w1 (hL _ hb) fun _ => wpAnyH_mono (fun _ h => hL _ h) _ _ _ _ (hc hb)

/-- Three may come up. -/
theorem mixs_three (i j k : Nat) {oi oj ok : Oper} (hr : Region.ready .any ops listed = [i, j, k]) (hio : ops[i]? = some oi) (hjo : ops[j]? = some oj) (hko : ops[k]? = some ok)
    (hi : ∀ K' : Act → World → Prop, Shut (∀ (L' : List Ch) a w1, (∀ x, St w0 F L' x → St w0 F L x) → St w0 F L' w1 → (St w0 F L' w1 → wpAnyH P .any ops Q (fun w' => St w0 F L' w') fuel (listed.setIfInBounds i true) a w1) → K' a w1) →
      if Region.wanted oi (yielded ops a.tmps) = true then Oper.wp P oi a w K' Q else K' (a.put oi.dst undef) w)
    (hj : ∀ K' : Act → World → Prop, Shut (∀ (L' : List Ch) a w1, (∀ x, St w0 F L' x → St w0 F L x) → St w0 F L' w1 → (St w0 F L' w1 → wpAnyH P .any ops Q (fun w' => St w0 F L' w') fuel (listed.setIfInBounds j true) a w1) → K' a w1) →
      if Region.wanted oj (yielded ops a.tmps) = true then Oper.wp P oj a w K' Q else K' (a.put oj.dst undef) w)
    (hk : ∀ K' : Act → World → Prop, Shut (∀ (L' : List Ch) a w1, (∀ x, St w0 F L' x → St w0 F L x) → St w0 F L' w1 → (St w0 F L' w1 → wpAnyH P .any ops Q (fun w' => St w0 F L' w') fuel (listed.setIfInBounds k true) a w1) → K' a w1) →
      if Region.wanted ok (yielded ops a.tmps) = true then Oper.wp P ok a w K' Q else K' (a.put ok.dst undef) w) :
    wpAnyH P .any ops Q (fun w' => St w0 F L w') (fuel + 1) listed a w := by
  refine wpAnyH_ready hr (by simp) (AllReadyH.cons hio (fun K hK => hi K ?_) (AllReadyH.cons hjo (fun K hK => hj K ?_) (AllReadyH.cons hko (fun K hK => hk K ?_) AllReadyH.nil)))
  all_goals
    intro L' a1 w1 hL hb hc
    exact hK.out a1 w1 (hL _ hb) fun _ => wpAnyH_mono (fun _ h => hL _ h) _ _ _ _ (hc hb)

end

end Go.Ofp
end
