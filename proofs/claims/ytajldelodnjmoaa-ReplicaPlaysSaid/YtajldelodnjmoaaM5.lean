/- Texts laid together: Open2 Open3 CardOpen MapI MapK. -/
import Derived.ShutString
import Derived.Maps.OwnSet
import Derived.Lib.SlKeysI
import Derived.Test.YtajldelodnjmoaaM1
import Derived.Test.YtajldelodnjmoaaM2
import Derived.Test.YtajldelodnjmoaaM4
section
/- Slices of structs that came in: rows of cells. -/
set_option linter.unusedSimpArgs false
set_option linter.unusedVariables false
namespace Go.Ofp
open Go.RowKit Go.WideShapes

/-- The cells of a slice whose elements have several cells each. -/
structure Rw (w : World) (a : Option Addr) (size : Nat) (rows : List (List Value)) : Prop where
  sl : Sl w a rows.flatten
  each : ∀ r ∈ rows, r.length = size

theorem flatten_get {α : Type} (size : Nat) : ∀ (rows : List (List α)), (∀ r ∈ rows, r.length = size) → ∀ j t (hj : j < rows.length) (ht : t < size), rows.flatten[j * size + t]? = rows[j][t]?
  | [], _, j, t, hj, _ => by simp at hj
  | r :: rows, h, 0, t, _, ht => by
    have := h r (by simp)
    simp only [List.flatten_cons, Nat.zero_mul, Nat.zero_add, List.getElem_cons_zero]
    rw [List.getElem?_append_left (by omega)]
  | r :: rows, h, j + 1, t, hj, ht => by
    have hr := h r (by simp)
    simp only [List.flatten_cons, List.getElem_cons_succ]
    rw [List.getElem?_append_right (by rw [hr, Nat.add_mul]; omega), show (j + 1) * size + t - r.length = j * size + t by rw [hr, Nat.add_mul]; omega]
    exact flatten_get size rows (fun x hx => h x (by simp [hx])) j t (by simpa using hj) ht

theorem Rw.get {w : World} {a : Option Addr} {size : Nat} {rows : List (List Value)} (h : Rw w a size rows) (j : Nat) (hj : j < rows.length) (h0 : 0 < size) :
    ∃ b off, a = some ⟨b, off, none⟩ ∧ ∀ t v, rows[j][t]? = some v → w.cell? ⟨b, off + (j * size + t), none⟩ = some v := by
  have hl : rows.flatten.length = rows.length * size := by
    have : ∀ (rs : List (List Value)), (∀ r ∈ rs, r.length = size) → rs.flatten.length = rs.length * size := by
      intro rs
      induction rs with
      | nil => intro _; simp
      | cons r rs ih => intro h; rw [List.flatten_cons, List.length_append, ih (fun x hx => h x (by simp [hx])), h r (by simp), List.length_cons, Nat.add_mul]; omega
    exact this rows h.each
  have hpos : rows.flatten ≠ [] := by
    intro e
    rw [e, List.length_nil] at hl
    have := Nat.mul_pos (show 0 < rows.length by omega) h0
    omega
  obtain ⟨b, off, rfl⟩ := h.sl.cells hpos
  refine ⟨b, off, rfl, fun t v hv => ?_⟩
  have ht : t < size := by
    have := (List.getElem?_eq_some_iff.1 hv).1
    rwa [h.each _ (List.getElem_mem hj)] at this
  have := h.sl.add (j * size + t) v (by rw [flatten_get size rows h.each j t hj ht]; exact hv)
  rwa [Addr.add_lit] at this

theorem Rw.below {w w' : World} {a : Option Addr} {size : Nat} {rows : List (List Value)} (h : Rw w a size rows) (hb : Below w.heap.size w w') : Rw w' a size rows := ⟨h.sl.below hb, h.each⟩

section
variable {H : Type} {enc : TypeId × Value → H} {P : Program} {w : World} {base : Nat} {spare : Nat → Bool} {held : Bool} {t e : TypeId}

/-- A slice that came in: its elements' cells, each read as an element. -/
theorem open_rows {r : Reach} {b0 : Nat} {v : Value} {d : DataW H} {ps : List MemPlace} (ht : P.underlying t = some (.slice e)) (ho : Value.okWide P w r b0 t v) (h : DataW.Trod enc P w base spare held t v d ps) (hp : 0 < P.cellsOf e) :
    ∃ a n cap, v = .slice a n cap ∧ n ≤ cap ∧ cap ≤ maxLen ∧ ∃ rows, rows.length = n ∧ Rw w a (P.cellsOf e) rows ∧ ∀ cs ∈ rows, ∃ fuel x, DataW.trod enc P w base spare held fuel e cs = some x := by
  obtain ⟨a, n, cap, rfl⟩ := okWide_slice ht ho
  obtain ⟨fuel, hf⟩ := h
  rcases DataW.trod_slice ht hf with ⟨hc, _⟩ | ⟨ad, len, c, elems, rest, m, _, hc, _, _, hlc, hcm, hle, hel, _, _⟩
  · simp only [Value.cells, List.cons.injEq, Value.slice.injEq, and_true] at hc
    obtain ⟨rfl, rfl, rfl⟩ := hc
    exact ⟨none, 0, 0, rfl, Nat.le_refl _, Nat.zero_le _, [], rfl, ⟨Sl.nil _ _, by simp⟩, by simp⟩
  · simp only [Value.cells, List.cons.injEq, Value.slice.injEq, and_true] at hc
    obtain ⟨rfl, rfl, rfl⟩ := hc
    have key : ∀ i, i < n → ∃ cs x, w.cells? base (ad.add (i * P.cellsOf e)) (P.cellsOf e) = some cs ∧ DataW.trod enc P w base spare held m e cs = some x := by
      intro i hi
      have h1 := hel i hi
      rw [List.getElem?_eq_getElem (by omega)] at h1
      obtain ⟨cs, h2, h3⟩ := Option.bind_eq_some_iff.1 h1
      exact ⟨cs, _, h2, h3⟩
    have cell : ∀ i (hi : i < n) cs, w.cells? base (ad.add (i * P.cellsOf e)) (P.cellsOf e) = some cs → cs.length = P.cellsOf e ∧ ∀ t, t < P.cellsOf e → w.cell? ((ad.add (i * P.cellsOf e)).add t) = cs[t]? := by
      intro i hi cs h1
      unfold World.cells? at h1
      split at h1
      · exact ⟨by simpa using mapM_some_length h1, fun t ht => mapM_some_get h1 t t (by simp [ht])⟩
      · cases h1
    refine ⟨some ad, n, cap, rfl, hlc, hcm, (List.range n).map fun i => (w.cells? base (ad.add (i * P.cellsOf e)) (P.cellsOf e)).getD [], by simp, ?_, ?_⟩
    · have heach : ∀ r ∈ (List.range n).map (fun i => (w.cells? base (ad.add (i * P.cellsOf e)) (P.cellsOf e)).getD []), r.length = P.cellsOf e := by
        intro r hr
        obtain ⟨i, hi, rfl⟩ := List.mem_map.1 hr
        rw [List.mem_range] at hi
        obtain ⟨cs, x, h1, _⟩ := key i hi
        rw [h1]
        exact (cell i hi cs h1).1
      refine ⟨?_, heach⟩
      by_cases hn : n = 0
      · subst hn
        exact Sl.nil _ _
      · obtain ⟨b, off, spot⟩ := ad
        have hs : spot = none := by
          obtain ⟨cs, x, h1, _⟩ := key 0 (by omega)
          obtain ⟨hl, hc⟩ := cell 0 (by omega) cs h1
          have := hc 0 hp
          rw [List.getElem?_eq_getElem (by omega)] at this
          simp only [Nat.zero_mul, Addr.add, if_true] at this
          exact World.cell?_spot this
        subst hs
        intro q hq
        have hfl : ∀ (rs : List (List Value)), (∀ r ∈ rs, r.length = P.cellsOf e) → rs.flatten.length = rs.length * P.cellsOf e := by
          intro rs
          induction rs with
          | nil => intro _; simp
          | cons r rs ih => intro h; rw [List.flatten_cons, List.length_append, ih (fun x hx => h x (by simp [hx])), h r (by simp), List.length_cons, Nat.add_mul]; omega
        have hq2 := hq
        rw [hfl _ heach, List.length_map, List.length_range] at hq2
        have hj : q / P.cellsOf e < n := Nat.div_lt_of_lt_mul (by rw [Nat.mul_comm]; exact hq2)
        have ht : q % P.cellsOf e < P.cellsOf e := Nat.mod_lt _ hp
        have hqe : q / P.cellsOf e * P.cellsOf e + q % P.cellsOf e = q := by rw [Nat.mul_comm]; exact Nat.div_add_mod q _
        obtain ⟨cs, x, h1, _⟩ := key _ hj
        obtain ⟨hl, hc⟩ := cell _ hj cs h1
        have hc' := hc _ ht
        have hget := flatten_get (P.cellsOf e) _ heach (q / P.cellsOf e) (q % P.cellsOf e) (by simpa using hj) ht
        rw [hqe] at hget
        simp only [List.getElem_map, List.getElem_range, h1, Option.getD_some] at hget
        refine ⟨b, off, rfl, ?_⟩
        rw [← List.getElem?_eq_getElem hq, hget, ← hc', Addr.add_lit, Addr.add_lit]
        congr 2
        omega
    · intro cs hcs
      obtain ⟨i, hi, rfl⟩ := List.mem_map.1 hcs
      rw [List.mem_range] at hi
      obtain ⟨cs, x, h1, h2⟩ := key i hi
      rw [h1]
      exact ⟨m, x, h2⟩
end

end Go.Ofp
end

section
/- Structs whose fields are integers, strings, bools: their cells. -/
set_option linter.unusedSimpArgs false
set_option linter.unusedVariables false
namespace Go.Ofp
open Go.RowKit Go.WideShapes

section
variable {H : Type} {enc : TypeId × Value → H} {P : Program} {w : World} {base : Nat} {spare : Nat → Bool} {held : Bool}

/-- A field of a struct, read. -/
theorem field_read {t : TypeId} {fs : Array Field} {fuel : Nat} {cs : List Value} {x : DataW H × List MemPlace} (ht : P.underlying t = some (.struct fs)) (h : DataW.trod enc P w base spare held fuel t cs = some x) :
    cs.length = P.cellsOf t ∧ ∀ (i : Nat) (f : Field), fs[i]? = some f → ∃ n y, DataW.trod enc P w base spare held n f.type ((cs.drop f.offset).take (P.cellsOf f.type)) = some y := by
  obtain ⟨xs, n, _, rfl, hl, hlen, hf⟩ := DataW.trod_struct ht h
  refine ⟨hl, fun i f hi => ?_⟩
  have hi' : i < xs.length := by
    have := (Array.getElem?_eq_some_iff.1 hi).1
    omega
  refine ⟨n, xs[i], ?_⟩
  rw [hf i f hi, List.getElem?_eq_getElem hi']

theorem field_int {f : TypeId} {k : IntKind} {o n : Nat} {cs : List Value} {y : DataW H × List MemPlace} (hf : P.underlying f = some (.int k)) (hc : P.cellsOf f = 1) (ho : o < cs.length)
    (h : DataW.trod enc P w base spare held n f ((cs.drop o).take (P.cellsOf f)) = some y) : ∃ z, cs[o]? = some (.int k z) ∧ (Lit.int k z).wf = true := by
  obtain ⟨z, hz, _, hw⟩ := DataW.trod_int hf h
  rw [hc, List.drop_eq_getElem_cons ho] at hz
  simp only [List.take_succ_cons, List.take_zero, List.cons.injEq, and_true] at hz
  exact ⟨z, by rw [List.getElem?_eq_getElem ho, hz], hw⟩
end
end Go.Ofp
end

section
/- Cards and patches that came in, opened. -/
set_option linter.unusedSimpArgs false
set_option linter.unusedVariables false
namespace Go.Ofp
open Go.RowKit Go.WideShapes
section
variable {H : Type} {enc : TypeId × Value → H} {P : Program} {w : World} {base : Nat} {spare : Nat → Bool} {held : Bool}
theorem field_text {f : TypeId} {o n : Nat} {cs : List Value} {y : DataW H × List MemPlace} (hf : P.underlying f = some .string) (hc : P.cellsOf f = 1) (ho : o < cs.length)
    (h : DataW.trod enc P w base spare held n f ((cs.drop o).take (P.cellsOf f)) = some y) : ∃ s : ByteArray, cs[o]? = some (.string s) ∧ s.size ≤ maxLen := by
  obtain ⟨z, hz, _, hs⟩ := DataW.trod_string hf h
  rw [hc, List.drop_eq_getElem_cons ho] at hz
  simp only [List.take_succ_cons, List.take_zero, List.cons.injEq, and_true] at hz
  exact ⟨z, by rw [List.getElem?_eq_getElem ho, hz], hs⟩
end
/-- What is known of a value that came in. -/
structure VlIn (v : Vl) : Prop where
  kind : -9223372036854775808 ≤ v.kind ∧ v.kind ≤ 9223372036854775807
  n : -9223372036854775808 ≤ v.n ∧ v.n ≤ 9223372036854775807
  s : v.s.size ≤ maxLen
structure CdIn (c : Cd) : Prop where
  id : -9223372036854775808 ≤ c.id ∧ c.id ≤ 9223372036854775807
  ver : -9223372036854775808 ≤ c.ver ∧ c.ver ≤ 9223372036854775807
  lab : c.lab < 4294967296
  len : c.f.length = 8
  f : ∀ v ∈ c.f, VlIn v
structure PtIn (p : Pt) : Prop where
  mask : p.mask < 4294967296
  lab : p.lab < 4294967296
  len : p.f.length = 8
  f : ∀ v ∈ p.f, VlIn v
theorem wf_u32n {z : Int} (h : (Lit.int .u32 z).wf = true) : ∃ x : Nat, z = x ∧ x < 4294967296 := by
  have hb : 0 ≤ z ∧ z ≤ 4294967295 := by simpa [Lit.wf, IntKind.min, IntKind.max, IntKind.bits, IntKind.signed] using h
  exact ⟨z.toNat, by omega, by omega⟩
end Go.Ofp
namespace Go.Proofs.Ytajldelodnjmoaa
open Go.RowKit Go.Ofp Go.WideShapes
set_option linter.unusedVariables false
set_option maxRecDepth 100000
set_option maxHeartbeats 1000000
section
variable {H : Type} {enc : TypeId × Value → H} {w : World} {base : Nat} {spare : Nat → Bool} {held : Bool}
theorem read_vl {cs : List Value} (h : ∃ fuel x, DataW.trod enc Try.prog w base spare held fuel 38 cs = some x) : ∃ v : Vl, cs = vlRow v ∧ VlIn v := by
  obtain ⟨fuel, x, h⟩ := h
  obtain ⟨hl, hf⟩ := field_read Try.underlying38 h
  have hc : Try.prog.cellsOf 38 = 3 := by kernel_rfl
  rw [hc] at hl
  obtain ⟨n0, y0, h0⟩ := hf 0 _ rfl
  obtain ⟨n1, y1, h1⟩ := hf 1 _ rfl
  obtain ⟨n2, y2, h2⟩ := hf 2 _ rfl
  obtain ⟨z0, e0, w0⟩ := field_int Try.underlying3 (by kernel_rfl) (by rw [hl]; decide) h0
  obtain ⟨z1, e1, w1⟩ := field_int Try.underlying3 (by kernel_rfl) (by rw [hl]; decide) h1
  obtain ⟨z2, e2, w2⟩ := field_text Try.underlying9 (by kernel_rfl) (by rw [hl]; decide) h2
  match cs, hl with
  | [c0, c1, c2], _ =>
    simp at e0 e1 e2
    exact ⟨⟨z0, z1, z2⟩, by rw [e0, e1, e2]; rfl, wf_i64 w0, wf_i64 w1, w2⟩
theorem read_fl {cs : List Value} (h : ∃ fuel x, DataW.trod enc Try.prog w base spare held fuel 39 cs = some x) : ∃ f : List Vl, cs = flRow f ∧ f.length = 8 ∧ ∀ v ∈ f, VlIn v := by
  obtain ⟨fuel, x, h⟩ := h
  obtain ⟨xs, m, _, _, hl, hn, hi⟩ := DataW.trod_array Try.underlying39 h
  have hc : Try.prog.cellsOf 39 = 24 := by kernel_rfl
  have hv : Try.prog.cellsOf 38 = 3 := by kernel_rfl
  rw [hc] at hl
  have key : ∀ i, i < 8 → ∃ y, DataW.trod enc Try.prog w base spare held m 38 ((cs.drop (i * 3)).take 3) = some y := by
    intro i hi8
    have := hi i hi8
    rw [hv, List.getElem?_eq_getElem (by omega)] at this
    exact ⟨_, this⟩
  obtain ⟨y0, h0⟩ := key 0 (by decide)
  obtain ⟨y1, h1⟩ := key 1 (by decide)
  obtain ⟨y2, h2⟩ := key 2 (by decide)
  obtain ⟨y3, h3⟩ := key 3 (by decide)
  obtain ⟨y4, h4⟩ := key 4 (by decide)
  obtain ⟨y5, h5⟩ := key 5 (by decide)
  obtain ⟨y6, h6⟩ := key 6 (by decide)
  obtain ⟨y7, h7⟩ := key 7 (by decide)
  match cs, hl with
  | [c0, c1, c2, c3, c4, c5, c6, c7, c8, c9, c10, c11, c12, c13, c14, c15, c16, c17, c18, c19, c20, c21, c22, c23], _ =>
    simp only [Nat.reduceMul, List.drop_succ_cons, List.drop_zero, List.take_succ_cons, List.take_zero] at h0 h1 h2 h3 h4 h5 h6 h7
    obtain ⟨v0, e0, w0⟩ := read_vl ⟨_, _, h0⟩
    obtain ⟨v1, e1, w1⟩ := read_vl ⟨_, _, h1⟩
    obtain ⟨v2, e2, w2⟩ := read_vl ⟨_, _, h2⟩
    obtain ⟨v3, e3, w3⟩ := read_vl ⟨_, _, h3⟩
    obtain ⟨v4, e4, w4⟩ := read_vl ⟨_, _, h4⟩
    obtain ⟨v5, e5, w5⟩ := read_vl ⟨_, _, h5⟩
    obtain ⟨v6, e6, w6⟩ := read_vl ⟨_, _, h6⟩
    obtain ⟨v7, e7, w7⟩ := read_vl ⟨_, _, h7⟩
    simp only [vlRow, List.cons.injEq, and_true] at e0 e1 e2 e3 e4 e5 e6 e7
    refine ⟨[v0, v1, v2, v3, v4, v5, v6, v7], ?_, rfl, ?_⟩
    · simp only [flRow, List.map_cons, List.map_nil, List.flatten_cons, List.flatten_nil, vlRow, List.cons_append, List.nil_append]
      simp only [e0, e1, e2, e3, e4, e5, e6, e7]
    · intro v hv
      simp only [List.mem_cons, List.not_mem_nil, or_false] at hv
      rcases hv with rfl | rfl | rfl | rfl | rfl | rfl | rfl | rfl <;> assumption
theorem read_cd {cs : List Value} (h : ∃ fuel x, DataW.trod enc Try.prog w base spare held fuel 41 cs = some x) : ∃ c : Cd, cs = cdRow c ∧ CdIn c := by
  obtain ⟨fuel, x, h⟩ := h
  obtain ⟨hl, hf⟩ := field_read Try.underlying41 h
  have hc : Try.prog.cellsOf 41 = 27 := by kernel_rfl
  have hc3 : Try.prog.cellsOf 39 = 24 := by kernel_rfl
  rw [hc] at hl
  obtain ⟨n0, y0, h0⟩ := hf 0 _ rfl
  obtain ⟨n1, y1, h1⟩ := hf 1 _ rfl
  obtain ⟨n2, y2, h2⟩ := hf 2 _ rfl
  obtain ⟨n3, y3, h3⟩ := hf 3 _ rfl
  obtain ⟨z0, e0, w0⟩ := field_int Try.underlying3 (by kernel_rfl) (by rw [hl]; decide) h0
  obtain ⟨z1, e1, w1⟩ := field_int Try.underlying3 (by kernel_rfl) (by rw [hl]; decide) h1
  obtain ⟨z2, e2, w2⟩ := field_int Try.underlying36 (by kernel_rfl) (by rw [hl]; decide) h2
  have h3' : DataW.trod enc Try.prog w base spare held n3 39 ((cs.drop 3).take (Try.prog.cellsOf 39)) = some y3 := h3
  rw [hc3, List.take_of_length_le (by rw [List.length_drop, hl]; decide)] at h3'
  obtain ⟨f, hf3, hf8, hfi⟩ := read_fl ⟨_, _, h3'⟩
  obtain ⟨x2, rfl, hx2⟩ := wf_u32n w2
  match cs, hl with
  | c0 :: c1 :: c2 :: rest, _ =>
    simp at e0 e1 e2 hf3
    exact ⟨⟨z0, z1, x2, f⟩, by rw [e0, e1, e2, hf3]; rfl, wf_i64 w0, wf_i64 w1, hx2, hf8, hfi⟩
end
end Go.Proofs.Ytajldelodnjmoaa
end

section
/- Maps of the call's own, keyed by whole numbers: what such a map holds is told as a function. -/
set_option linter.unusedSimpArgs false
set_option linter.unusedVariables false
namespace Go.Ofp
open Go.RowKit Go.Maps

/-- Elements read as themselves. -/
def tokR (v : Value) : Option (DataW Value × List MemPlace) := some (.held v, [])

/-- Block b is a map of at most n entries, keyed by whole numbers, that holds f. -/
def IMap (P : Program) (k : TypeId) (w : World) (b n : Nat) (f : Int → Option Value) : Prop :=
  ∃ D, w.ownsMap P k tokR b n D ∧ ∀ i, (Lit.int .i64 i).wf = true → Maps.has D (.int .i64 i) = (f i).isSome ∧ ∀ v, f i = some v → ∀ z, D.atKey (.int .i64 i) z = .held v

def putM (f : Int → Option Value) (k : Int) (v : Value) : Int → Option Value := fun i => if i = k then some v else f i
def delM (f : Int → Option Value) (k : Int) : Int → Option Value := fun i => if i = k then none else f i
def noM : Int → Option Value := fun _ => none

theorem IMap.lt {P : Program} {k : TypeId} {w : World} {b n : Nat} {f : Int → Option Value} (h : IMap P k w b n f) : b < w.heap.size := by
  obtain ⟨D, h, -⟩ := h
  exact h.lt
theorem IMap.keep {P : Program} {k : TypeId} {w w' : World} {b n : Nat} {f : Int → Option Value} (h : IMap P k w b n f) (hk : w'.heap[b]? = w.heap[b]?) : IMap P k w' b n f := by
  obtain ⟨D, ⟨es, clock, hb, r⟩, hf⟩ := h
  exact ⟨D, ⟨es, clock, hk.trans hb, r⟩, hf⟩
theorem IMap.mono {P : Program} {k : TypeId} {w : World} {b n m : Nat} {f : Int → Option Value} (h : IMap P k w b n f) (hm : n ≤ m) : IMap P k w b m f := by
  obtain ⟨D, h, hf⟩ := h
  exact ⟨D, h.mono hm, hf⟩

/-- A map of the call's own. -/
def Ch.map (P : Program) (k : TypeId) (b n : Nat) (f : Int → Option Value) : Ch where
  foot := [b]
  holds w := IMap P k w b n f
  lt h x hx := by simp at hx; subst hx; exact h.lt
  keep h k := h.keep (k b (by simp))

section
variable {P : Program} {k : TypeId} {w : World} {b n : Nat} {f : Int → Option Value}

theorem isK (i : Int) : WideAt.IsKeyLit (.int .i64 i) := trivial

theorem IMap.made (w : World) (P : Program) (k : TypeId) : IMap P k (w.alloc (.map #[] 0)) w.heap.size 0 noM :=
  ⟨_, World.ownsMap_made w P k tokR, fun i _ => ⟨rfl, fun v hv => by cases hv⟩⟩

theorem IMap.look_ok {t e : TypeId} (h : IMap P k w b n f) (hk : P.underlying k = some (.int .i64)) (ht : P.underlying t = some (.map k e)) {z : Value} (hz : (zeroValue e).run P w = .ok z w) {i : Int} (hi : (Lit.int .i64 i).wf = true) :
    (Instr.lookup t (.map (some b)) (.int .i64 i) true).run P w = .ok (.tuple #[(f i).getD z, .bool (f i).isSome]) w := by
  obtain ⟨D, ⟨es, clock, hb, F, hs, rfl⟩, hf⟩ := h
  obtain ⟨h1, h2⟩ := hf i hi
  rcases Maps.fit_look true (int_keyed hk) ht hz hb F (keyOf_int_mk hk hi) with ⟨hrun, _, hat⟩ | ⟨e0, y, _, _, hrun, hRv, hat, _⟩
  · rw [hrun]
    rw [Maps.has_false_of_atKey hat] at h1
    cases hfi : f i with
    | none => rfl
    | some v => rw [hfi] at h1; cases h1
  · rw [hrun]
    rw [Maps.has_true_of_atKey hat] at h1
    cases hfi : f i with
    | none => rw [hfi] at h1; cases h1
    | some v =>
      have e1 := (h2 v hfi .nil).symm.trans (hat .nil)
      cases hRv
      cases e1
      rfl

theorem IMap.look {t e : TypeId} (h : IMap P k w b n f) (hk : P.underlying k = some (.int .i64)) (ht : P.underlying t = some (.map k e)) {z : Value} (hz : (zeroValue e).run P w = .ok z w) {i : Int} (hi : (Lit.int .i64 i).wf = true) :
    (Instr.lookup t (.map (some b)) (.int .i64 i) false).run P w = .ok ((f i).getD z) w := by
  obtain ⟨D, ⟨es, clock, hb, F, hs, rfl⟩, hf⟩ := h
  obtain ⟨h1, h2⟩ := hf i hi
  rcases Maps.fit_look false (int_keyed hk) ht hz hb F (keyOf_int_mk hk hi) with ⟨hrun, _, hat⟩ | ⟨e0, y, _, _, hrun, hRv, hat, _⟩
  · rw [hrun]
    rw [Maps.has_false_of_atKey hat] at h1
    cases hfi : f i with
    | none => rfl
    | some v => rw [hfi] at h1; cases h1
  · rw [hrun]
    rw [Maps.has_true_of_atKey hat] at h1
    cases hfi : f i with
    | none => rw [hfi] at h1; cases h1
    | some v =>
      have e1 := (h2 v hfi .nil).symm.trans (hat .nil)
      cases hRv
      cases e1
      rfl

theorem IMap.store {t e : TypeId} (h : IMap P k w b n f) (hk : P.underlying k = some (.int .i64)) (ht : P.underlying t = some (.map k e)) (hn : n < maxLen) {i : Int} (hi : (Lit.int .i64 i).wf = true) (v : Value) :
    ∃ w', (Instr.mapUpdate t (.map (some b)) (.int .i64 i) v).run P w = .ok () w' ∧ IMap P k w' b (n + 1) (putM f i v) ∧ w.grownBy w' (some b) := by
  obtain ⟨D, hown, hf⟩ := h
  obtain ⟨w', h1, h2, h3⟩ := hown.update (int_keyed hk) ht hn (keyOf_int_mk hk hi) (val := v) (d := .held v) (ps := []) rfl
  refine ⟨w', h1, ⟨_, h2, fun j hj => ?_⟩, h3⟩
  by_cases e : j = i
  · subst e
    refine ⟨by rw [Maps.has_put_same hown.isMap (isK _)]; simp [putM], fun u hu z => ?_⟩
    rw [Maps.atKey_put_same hown.isMap (isK _)]
    simp [putM] at hu
    rw [hu]
  · have hne : (Lit.int .i64 j) ≠ Lit.int .i64 i := fun h => e (by cases h; rfl)
    refine ⟨by rw [Maps.has_put_other hne, (hf j hj).1]; simp [putM, e], fun u hu z => ?_⟩
    rw [Maps.atKey_put_other hne]
    exact (hf j hj).2 u (by simpa [putM, e] using hu) z

theorem IMap.drop {t e : TypeId} (h : IMap P k w b n f) (hk : P.underlying k = some (.int .i64)) (ht : P.underlying t = some (.map k e)) {i : Int} (hi : (Lit.int .i64 i).wf = true) (ty : TypeId) :
    ∃ w', (Builtin.delete_ #[t, k] ty #[.map (some b), .int .i64 i]).run P w = .ok (.tuple #[]) w' ∧ IMap P k w' b n (delM f i) ∧ w.grownBy w' (some b) := by
  obtain ⟨D, hown, hf⟩ := h
  obtain ⟨w', h1, h2, h3⟩ := hown.drop (int_keyed hk) ht (keyOf_int_mk hk hi) ty
  refine ⟨w', h1, ⟨_, h2, fun j hj => ?_⟩, h3.grown⟩
  by_cases e : j = i
  · subst e
    exact ⟨by rw [Maps.has_del_same]; simp [delM], fun u hu z => by simp [delM] at hu⟩
  · have hne : (Lit.int .i64 j) ≠ Lit.int .i64 i := fun h => e (by cases h; rfl)
    refine ⟨by rw [Maps.has_del_other hne, (hf j hj).1]; simp [delM, e], fun u hu z => ?_⟩
    rw [Maps.atKey_del_other hne]
    exact (hf j hj).2 u (by simpa [delM, e] using hu) z

end

namespace St
variable {P : Program} {k : TypeId} {w0 w w1 : World} {F : List Nat} {L : List Ch} {b n : Nat} {f : Int → Option Value}
theorem makeMap (h : St w0 F L w) (P : Program) (k : TypeId) : St w0 F (Ch.map P k w.heap.size 0 noM :: L) (w.alloc (.map #[] 0)) :=
  h.push (Fr.alloc _ _) (IMap.made w P k) (by simp [Ch.map])
end St

section
variable {P : Program} {w0 w : World} {F : List Nat} {L : List Ch} {ops : Array Oper} {rest : List Oper} {o : Oper} {a : Act} {Q : Exit → Act → World → Prop} {k : TypeId} {b n : Nat} {f : Int → Option Value}

/-- A new map. -/
theorem wpList_makemap_st (hS : St w0 F L w) (hgd : o.guard = none) {t e : TypeId} (ho : o.op = .makeMap t none) (ht : P.underlying t = some (.map k e))
    (h : ∀ g w', St w0 F (Ch.map P k g 0 noM :: L) w' → wpList P ops Q rest (a.put o.dst (.map (some g))) w') : wpList P ops Q (o :: rest) a w := by
  refine wpList_plain hgd fun K hK => ?_
  have hr := @run_makeMap P t w
  unfold Oper.wp execOp
  simp only [ho, Sem.run_bind, hr, Result.andThen_ok, Sem.run_pure]
  exact hK _ _ (h _ _ (hS.makeMap P k))

/-- v, ok := m[i]. -/
theorem wpList_lookok_st (i : Nat) (hS : St w0 F L w) (hi : L[i]? = some (Ch.map P k b n f)) (hgd : o.guard = none) {t e : TypeId} {x y : Operand} (ho : o.op = .lookup t x y true) (hx : a.eval x = .map (some b)) {j : Int} (hy : a.eval y = .int .i64 j)
    (hk : P.underlying k = some (.int .i64)) (ht : P.underlying t = some (.map k e)) {z : Value} (hz : ∀ W, (zeroValue e).run P W = .ok z W) (hj : (Lit.int .i64 j).wf = true)
    (h : wpList P ops Q rest (a.put o.dst (.tuple #[(f j).getD z, .bool (f j).isSome])) w) : wpList P ops Q (o :: rest) a w := by
  refine wpList_plain hgd fun K hK => ?_
  have hr := (hS.get i hi).look_ok (P := P) hk ht (hz w) hj
  unfold Oper.wp execOp
  simp only [ho, hx, hy, Sem.run_bind, hr, Result.andThen_ok, Sem.run_pure]
  exact hK _ _ h

/-- m[i]. -/
theorem wpList_look_st (i : Nat) (hS : St w0 F L w) (hi : L[i]? = some (Ch.map P k b n f)) (hgd : o.guard = none) {t e : TypeId} {x y : Operand} (ho : o.op = .lookup t x y false) (hx : a.eval x = .map (some b)) {j : Int} (hy : a.eval y = .int .i64 j)
    (hk : P.underlying k = some (.int .i64)) (ht : P.underlying t = some (.map k e)) {z : Value} (hz : ∀ W, (zeroValue e).run P W = .ok z W) (hj : (Lit.int .i64 j).wf = true)
    (h : wpList P ops Q rest (a.put o.dst ((f j).getD z)) w) : wpList P ops Q (o :: rest) a w := by
  refine wpList_plain hgd fun K hK => ?_
  have hr := (hS.get i hi).look (P := P) hk ht (hz w) hj
  unfold Oper.wp execOp
  simp only [ho, hx, hy, Sem.run_bind, hr, Result.andThen_ok, Sem.run_pure]
  exact hK _ _ h

/-- m[i] = v. -/
theorem wpList_mapput_st (i : Nat) (hS : St w0 F L w) (hi : L[i]? = some (Ch.map P k b n f)) (hgd : o.guard = none) {t e : TypeId} {x y v : Operand} (ho : o.op = .mapUpdate t x y v) (hx : a.eval x = .map (some b)) {j : Int} (hy : a.eval y = .int .i64 j) {u : Value} (hv : a.eval v = u)
    (hk : P.underlying k = some (.int .i64)) (ht : P.underlying t = some (.map k e)) (hn : n < maxLen) (hj : (Lit.int .i64 j).wf = true)
    (h : ∀ w', St w0 F (L.set i (Ch.map P k b (n + 1) (putM f j u))) w' → wpList P ops Q rest (a.put o.dst undef) w') : wpList P ops Q (o :: rest) a w := by
  refine wpList_plain hgd fun K hK => ?_
  obtain ⟨w', hr, h2, h3⟩ := (hS.get i hi).store (P := P) hk ht hn hj u
  unfold Oper.wp execOp
  simp only [ho, hx, hy, hv, Sem.run_bind, hr, Result.andThen_ok, Sem.run_pure]
  exact hK _ _ (h w' (hS.upd i hi (Fr.of_grown h3) (by simp [Ch.map]) h2 (by simp [Ch.map])))

/-- delete(m, i). -/
theorem wpList_mapdel_st (i : Nat) (hS : St w0 F L w) (hi : L[i]? = some (Ch.map P k b n f)) (hgd : o.guard = none) {t e : TypeId} {x y : Operand} (ho : o.op = .call { callee := .builtin .delete, args := #[x, y], argTypes := #[t, k] }) (hx : a.eval x = .map (some b)) {j : Int} (hy : a.eval y = .int .i64 j)
    (hk : P.underlying k = some (.int .i64)) (ht : P.underlying t = some (.map k e)) (hj : (Lit.int .i64 j).wf = true)
    (h : ∀ w', St w0 F (L.set i (Ch.map P k b n (delM f j))) w' → wpList P ops Q rest (a.put o.dst (.tuple #[])) w') : wpList P ops Q (o :: rest) a w := by
  refine wpList_plain hgd fun K hK => ?_
  obtain ⟨w', hr, h2, h3⟩ := (hS.get i hi).drop (P := P) hk ht hj o.type
  unfold Oper.wp execOp
  simp only [ho, resolve, invoke, builtin, hx, hy, List.map_toArray, List.map_cons, List.map_nil, Sem.run_bind, Sem.run_pure, hr, Result.andThen_ok]
  exact hK _ _ (h w' (hS.upd i hi (Fr.of_grown h3) (by simp [Ch.map]) h2 (by simp [Ch.map])))
end

section
variable {P : Program} {w0 w : World} {F : List Nat} {L : List Ch} {ops : Array Oper} {o : Oper} {a : Act} {Q : Exit → Act → World → Prop} {K : Act → World → Prop} {k : TypeId} {b n : Nat} {f : Int → Option Value}
/-- m[i] = v, at an operation of a drawn region. -/
theorem op_mapput_st (hw : Region.wanted o (yielded ops a.tmps) = true) (i : Nat) (hS : St w0 F L w) (hi : L[i]? = some (Ch.map P k b n f)) {t e : TypeId} {x y v : Operand} (ho : o.op = .mapUpdate t x y v) (hx : a.eval x = .map (some b)) {j : Int} (hy : a.eval y = .int .i64 j) {u : Value} (hv : a.eval v = u)
    (hk : P.underlying k = some (.int .i64)) (ht : P.underlying t = some (.map k e)) (hn : n < maxLen) (hj : (Lit.int .i64 j).wf = true)
    (h : ∀ w', St w0 F (L.set i (Ch.map P k b (n + 1) (putM f j u))) w' → K (a.put o.dst undef) w') : if Region.wanted o (yielded ops a.tmps) = true then Oper.wp P o a w K Q else K (a.put o.dst undef) w := by
  rw [if_pos hw]
  obtain ⟨w', hr, h2, h3⟩ := (hS.get i hi).store (P := P) hk ht hn hj u
  unfold Oper.wp execOp
  simp only [ho, hx, hy, hv, Sem.run_bind, hr, Result.andThen_ok, Sem.run_pure]
  exact h w' (hS.upd i hi (Fr.of_grown h3) (by simp [Ch.map]) h2 (by simp [Ch.map]))
end
theorem wf_of_i64 {z : Int} (h : -9223372036854775808 ≤ z ∧ z ≤ 9223372036854775807) : (Lit.int .i64 z).wf = true := by
  simpa [Lit.wf, IntKind.min, IntKind.max, IntKind.bits, IntKind.signed] using h
end Go.Ofp
end

section
/- The keys of a map of whole numbers, sorted. -/
set_option linter.unusedSimpArgs false
set_option linter.unusedVariables false
namespace Go.Ofp
open Go.RowKit Go.Maps

/-- The keys of f, rising. -/
def IsKeys (f : Int → Option Value) (ks : List Int) : Prop := ks.Pairwise (· < ·) ∧ ∀ x, x ∈ ks ↔ ((Lit.int .i64 x).wf = true ∧ (f x).isSome = true)

theorem rising_unique : ∀ {a b : List Int}, a.Pairwise (· < ·) → b.Pairwise (· < ·) → (∀ x, x ∈ a ↔ x ∈ b) → a = b
  | [], [], _, _, _ => rfl
  | [], y :: b, _, _, h => absurd ((h y).2 (by simp)) (by simp)
  | x :: a, [], _, _, h => absurd ((h x).1 (by simp)) (by simp)
  | x :: a, y :: b, h1, h2, h => by
    obtain ⟨p1, p2⟩ := List.pairwise_cons.1 h1
    obtain ⟨q1, q2⟩ := List.pairwise_cons.1 h2
    have e : x = y := by
      rcases List.mem_cons.1 ((h x).1 (by simp)) with e | hx
      · exact e
      · rcases List.mem_cons.1 ((h y).2 (by simp)) with e | hy
        · exact e.symm
        · have := q1 x hx
          have := p1 y hy
          omega
    subst e
    congr 1
    refine rising_unique p2 q2 fun z => ⟨fun hz => ?_, fun hz => ?_⟩
    · rcases List.mem_cons.1 ((h z).1 (by simp [hz])) with e | k
      · have := p1 z hz; omega
      · exact k
    · rcases List.mem_cons.1 ((h z).2 (by simp [hz])) with e | k
      · have := q1 z hz; omega
      · exact k

theorem IMap.keys {P : Program} {k : TypeId} {w : World} {b n : Nat} {f : Int → Option Value} (h : IMap P k w b n f) (hk : P.underlying k = some (.int .i64)) :
    ∃ D : DataW Value, w.ownsMap P k tokR b n D ∧ Maps.size D ≤ n ∧ ∀ ss : List Int, ss.Perm (intKeys D) → IsKeys f (ss.mergeSort fun x y => decide (x ≤ y)) ∧ ss.length ≤ n := by
  obtain ⟨D, hown, hf⟩ := h
  refine ⟨D, hown, hown.size_le, fun ss hp => ?_⟩
  obtain ⟨es, rfl, hpw, -⟩ := hown.entries (int_keyed hk)
  obtain ⟨es', hD', hko⟩ := hown.keysOf
  obtain rfl : es = es' := by simpa using hD'
  have hi : ∀ p ∈ es, ∃ x, p.1 = .int .i64 x ∧ (Lit.int .i64 x).wf = true := fun p hp => by
    obtain ⟨v, hv⟩ := hko p hp
    obtain ⟨x, _, hx, hw⟩ := Maps.keyOf_i64 hk hv
    exact ⟨x, hx, hw⟩
  have hnd : (intKeys (.map es)).Nodup := by
    show (es.map fun p => intOf p.1).Nodup
    refine List.pairwise_map.2 (hpw.imp_of_mem fun {p q} hp' hq' hne e => hne ?_)
    obtain ⟨x, hx, -⟩ := hi p hp'
    obtain ⟨y, hy, -⟩ := hi q hq'
    rw [hx, hy] at e ⊢
    exact congrArg _ e
  have hsz := hown.size_le
  refine ⟨⟨?_, fun x => ?_⟩, by rw [hp.length_eq]; simpa [intKeys, Maps.size] using hsz⟩
  · have tr : ∀ a b c : Int, decide (a ≤ b) = true → decide (b ≤ c) = true → decide (a ≤ c) = true := fun a b c h1 h2 => by simp only [decide_eq_true_eq] at *; exact Int.le_trans h1 h2
    have tot : ∀ a b : Int, (decide (a ≤ b) || decide (b ≤ a)) = true := fun a b => by simp only [Bool.or_eq_true, decide_eq_true_eq]; exact Int.le_total a b
    have h1 := List.pairwise_mergeSort tr tot ss
    have h2 : (ss.mergeSort fun x y => decide (x ≤ y)).Nodup := (List.mergeSort_perm ss _).nodup_iff.2 (hp.nodup_iff.2 hnd)
    refine (h1.and h2).imp fun {a b} ⟨h3, h4⟩ => ?_
    simp only [decide_eq_true_eq] at h3
    omega
  · rw [(List.mergeSort_perm ss _).mem_iff, hp.mem_iff]
    show x ∈ es.map (fun p => intOf p.1) ↔ _
    rw [List.mem_map]
    constructor
    · rintro ⟨p, hp', rfl⟩
      obtain ⟨a, ha, hw⟩ := hi p hp'
      rw [ha]
      refine ⟨hw, ?_⟩
      show (f a).isSome = true
      rw [← (hf a hw).1, has_eq, List.any_eq_true]
      exact ⟨p, hp', by rw [ha]; simp [Lit.sameKey]⟩
    · rintro ⟨hw, hs⟩
      rw [← (hf x hw).1, has_eq, List.any_eq_true] at hs
      obtain ⟨p, hp', hk'⟩ := hs
      obtain ⟨a, ha, -⟩ := hi p hp'
      rw [ha] at hk'
      exact ⟨p, hp', by rw [ha]; simpa [Lit.sameKey, intOf] using hk'⟩

end Go.Ofp
end
