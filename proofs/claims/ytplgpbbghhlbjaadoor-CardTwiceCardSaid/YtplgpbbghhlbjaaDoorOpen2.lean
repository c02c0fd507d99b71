/- Slices of structs that came in: rows of cells. -/
import Derived.Test.YtplgpbbghhlbjaaDoorKit2
import Derived.Test.YtplgpbbghhlbjaaDoorOpen
set_option linter.unusedSimpArgs false
set_option linter.unusedVariables false
namespace Go.Ofp
open Go.RowKit Go.WideShapes

/-- The cells of a slice whose elements have several cells each. -/
structure Rw (w : World) (a : Option Addr) (size : Nat) (rows : List (List Value)) : Prop where
  sl : Sl w a rows.flatten
  each : ∀ r ∈ rows, r.length = size

theorem flatten_get {α : Type} (size : Nat) : ∀ (rows : List (List α)), (∀ r ∈ rows, r.length = size) → ∀ j t (hj : j < rows.length) (ht : t < size), rows.flatten[j * size + t]? = rows[j][t]?
  | [], _, j, t, hj, _ => by simp at hj
  | r :: rows, h, 0, t, _, ht => by
    have := h r (by simp)
    simp only [List.flatten_cons, Nat.zero_mul, Nat.zero_add, List.getElem_cons_zero]
    rw [List.getElem?_append_left (by omega)]
  | r :: rows, h, j + 1, t, hj, ht => by
    have hr := h r (by simp)
    simp only [List.flatten_cons, List.getElem_cons_succ]
    rw [List.getElem?_append_right (by rw [hr, Nat.add_mul]; omega), show (j + 1) * size + t - r.length = j * size + t by rw [hr, Nat.add_mul]; omega]
    exact flatten_get size rows (fun x hx => h x (by simp [hx])) j t (by simpa using hj) ht

theorem Rw.get {w : World} {a : Option Addr} {size : Nat} {rows : List (List Value)} (h : Rw w a size rows) (j : Nat) (hj : j < rows.length) (h0 : 0 < size) :
    ∃ b off, a = some ⟨b, off, none⟩ ∧ ∀ t v, rows[j][t]? = some v → w.cell? ⟨b, off + (j * size + t), none⟩ = some v := by
  have hl : rows.flatten.length = rows.length * size := by
    have : ∀ (rs : List (List Value)), (∀ r ∈ rs, r.length = size) → rs.flatten.length = rs.length * size := by
      intro rs
      induction rs with
      | nil => intro _; simp
      | cons r rs ih => intro h; rw [List.flatten_cons, List.length_append, ih (fun x hx => h x (by simp [hx])), h r (by simp), List.length_cons, Nat.add_mul]; omega
    exact this rows h.each
  have hpos : rows.flatten ≠ [] := by
    intro e
    rw [e, List.length_nil] at hl
    have := Nat.mul_pos (show 0 < rows.length by omega) h0
    omega
  obtain ⟨b, off, rfl⟩ := h.sl.cells hpos
  refine ⟨b, off, rfl, fun t v hv => ?_⟩
  have ht : t < size := by
    have := (List.getElem?_eq_some_iff.1 hv).1
    rwa [h.each _ (List.getElem_mem hj)] at this
  have := h.sl.add (j * size + t) v (by rw [flatten_get size rows h.each j t hj ht]; exact hv)
  rwa [Addr.add_lit] at this

theorem Rw.below {w w' : World} {a : Option Addr} {size : Nat} {rows : List (List Value)} (h : Rw w a size rows) (hb : Below w.heap.size w w') : Rw w' a size rows := ⟨h.sl.below hb, h.each⟩

section
variable {H : Type} {enc : TypeId × Value → H} {P : Program} {w : World} {base : Nat} {spare : Nat → Bool} {held : Bool} {t e : TypeId}

/-- A slice that came in: its elements' cells, each read as an element. -/
theorem open_rows {r : Reach} {b0 : Nat} {v : Value} {d : DataW H} {ps : List MemPlace} (ht : P.underlying t = some (.slice e)) (ho : Value.okWide P w r b0 t v) (h : DataW.Trod enc P w base spare held t v d ps) (hp : 0 < P.cellsOf e) :
    ∃ a n cap, v = .slice a n cap ∧ n ≤ cap ∧ cap ≤ maxLen ∧ ∃ rows, rows.length = n ∧ Rw w a (P.cellsOf e) rows ∧ ∀ cs ∈ rows, ∃ fuel x, DataW.trod enc P w base spare held fuel e cs = some x := by
  obtain ⟨a, n, cap, rfl⟩ := okWide_slice ht ho
  obtain ⟨fuel, hf⟩ := h
  rcases DataW.trod_slice ht hf with ⟨hc, _⟩ | ⟨ad, len, c, elems, rest, m, _, hc, _, _, hlc, hcm, hle, hel, _, _⟩
  · simp only [Value.cells, List.cons.injEq, Value.slice.injEq, and_true] at hc
    obtain ⟨rfl, rfl, rfl⟩ := hc
    exact ⟨none, 0, 0, rfl, Nat.le_refl _, Nat.zero_le _, [], rfl, ⟨Sl.nil _ _, by simp⟩, by simp⟩
  · simp only [Value.cells, List.cons.injEq, Value.slice.injEq, and_true] at hc
    obtain ⟨rfl, rfl, rfl⟩ := hc
    have key : ∀ i, i < n → ∃ cs x, w.cells? base (ad.add (i * P.cellsOf e)) (P.cellsOf e) = some cs ∧ DataW.trod enc P w base spare held m e cs = some x := by
      intro i hi
      have h1 := hel i hi
      rw [List.getElem?_eq_getElem (by omega)] at h1
      obtain ⟨cs, h2, h3⟩ := Option.bind_eq_some_iff.1 h1
      exact ⟨cs, _, h2, h3⟩
    have cell : ∀ i (hi : i < n) cs, w.cells? base (ad.add (i * P.cellsOf e)) (P.cellsOf e) = some cs → cs.length = P.cellsOf e ∧ ∀ t, t < P.cellsOf e → w.cell? ((ad.add (i * P.cellsOf e)).add t) = cs[t]? := by
      intro i hi cs h1
      unfold World.cells? at h1
      split at h1
      · exact ⟨by simpa using mapM_some_length h1, fun t ht => mapM_some_get h1 t t (by simp [ht])⟩
      · cases h1
    refine ⟨some ad, n, cap, rfl, hlc, hcm, (List.range n).map fun i => (w.cells? base (ad.add (i * P.cellsOf e)) (P.cellsOf e)).getD [], by simp, ?_, ?_⟩
    · have heach : ∀ r ∈ (List.range n).map (fun i => (w.cells? base (ad.add (i * P.cellsOf e)) (P.cellsOf e)).getD []), r.length = P.cellsOf e := by
        intro r hr
        obtain ⟨i, hi, rfl⟩ := List.mem_map.1 hr
        rw [List.mem_range] at hi
        obtain ⟨cs, x, h1, _⟩ := key i hi
        rw [h1]
        exact (cell i hi cs h1).1
      refine ⟨?_, heach⟩
      by_cases hn : n = 0
      · subst hn
        exact Sl.nil _ _
      · obtain ⟨b, off, spot⟩ := ad
        have hs : spot = none := by
          obtain ⟨cs, x, h1, _⟩ := key 0 (by omega)
          obtain ⟨hl, hc⟩ := cell 0 (by omega) cs h1
          have := hc 0 hp
          rw [List.getElem?_eq_getElem (by omega)] at this
          simp only [Nat.zero_mul, Addr.add, if_true] at this
          exact World.cell?_spot this
        subst hs
        intro q hq
        have hfl : ∀ (rs : List (List Value)), (∀ r ∈ rs, r.length = P.cellsOf e) → rs.flatten.length = rs.length * P.cellsOf e := by
          intro rs
          induction rs with
          | nil => intro _; simp
          | cons r rs ih => intro h; rw [List.flatten_cons, List.length_append, ih (fun x hx => h x (by simp [hx])), h r (by simp), List.length_cons, Nat.add_mul]; omega
        have hq2 := hq
        rw [hfl _ heach, List.length_map, List.length_range] at hq2
        have hj : q / P.cellsOf e < n := Nat.div_lt_of_lt_mul (by rw [Nat.mul_comm]; exact hq2)
        have ht : q % P.cellsOf e < P.cellsOf e := Nat.mod_lt _ hp
        have hqe : q / P.cellsOf e * P.cellsOf e + q % P.cellsOf e = q := by rw [Nat.mul_comm]; exact Nat.div_add_mod q _
        obtain ⟨cs, x, h1, _⟩ := key _ hj
        obtain ⟨hl, hc⟩ := cell _ hj cs h1
        have hc' := hc _ ht
        have hget := flatten_get (P.cellsOf e) _ heach (q / P.cellsOf e) (q % P.cellsOf e) (by simpa using hj) ht
        rw [hqe] at hget
        simp only [List.getElem_map, List.getElem_range, h1, Option.getD_some] at hget
        refine ⟨b, off, rfl, ?_⟩
        rw [← List.getElem?_eq_getElem hq, hget, ← hc', Addr.add_lit, Addr.add_lit]
        congr 2
        omega
    · intro cs hcs
      obtain ⟨i, hi, rfl⟩ := List.mem_map.1 hcs
      rw [List.mem_range] at hi
      obtain ⟨cs, x, h1, h2⟩ := key i hi
      rw [h1]
      exact ⟨m, x, h2⟩
end

end Go.Ofp
