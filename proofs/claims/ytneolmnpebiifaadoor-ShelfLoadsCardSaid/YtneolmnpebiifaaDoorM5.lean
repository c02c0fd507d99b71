/- Texts laid together: Open Open2 Open3 CardOpen TransNet TransOpen CardPatchR CardCheck2 CardCheck3 IdsCheck Trans1 Ids3 Along IdsLib IdsIns IdsOps Trans2 CardDiff CardDiffR CardSame. -/
import Derived.ProofKit
import Derived.OpenShut
import Derived.ShutString
import Derived.Lib.Overlaps
import Derived.Laws.Externs
import Derived.Test.YtneolmnpebiifaaDoorM1
import Derived.Test.YtneolmnpebiifaaDoorM2
import Derived.Test.YtneolmnpebiifaaDoorM3
import Derived.Test.YtneolmnpebiifaaDoorM4
section
/- What came in, opened: arrays of integers, structs, slices of structs. -/
set_option linter.unusedSimpArgs false
set_option linter.unusedVariables false
namespace Go.Ofp
open Go.RowKit

section
variable {H : Type} {enc : TypeId × Value → H} {P : Program} {w : World} {base : Nat} {spare : Nat → Bool} {held : Bool} {t e : TypeId}

end

theorem wf_i64 {z : Int} (h : (Lit.int .i64 z).wf = true) : -9223372036854775808 ≤ z ∧ z ≤ 9223372036854775807 := by
  simpa [Lit.wf, IntKind.min, IntKind.max, IntKind.bits, IntKind.signed] using h

end Go.Ofp
end

section
/- Slices of structs that came in: rows of cells. -/
set_option linter.unusedSimpArgs false
set_option linter.unusedVariables false
namespace Go.Ofp
open Go.RowKit Go.WideShapes

/-- The cells of a slice whose elements have several cells each. -/
structure Rw (w : World) (a : Option Addr) (size : Nat) (rows : List (List Value)) : Prop where
  sl : Sl w a rows.flatten
  each : ∀ r ∈ rows, r.length = size

theorem flatten_get {α : Type} (size : Nat) : ∀ (rows : List (List α)), (∀ r ∈ rows, r.length = size) → ∀ j t (hj : j < rows.length) (ht : t < size), rows.flatten[j * size + t]? = rows[j][t]?
  | [], _, j, t, hj, _ => by simp at hj
  | r :: rows, h, 0, t, _, ht => by
    have := h r (by simp)
    simp only [List.flatten_cons, Nat.zero_mul, Nat.zero_add, List.getElem_cons_zero]
    rw [List.getElem?_append_left (by omega)]
  | r :: rows, h, j + 1, t, hj, ht => by
    have hr := h r (by simp)
    simp only [List.flatten_cons, List.getElem_cons_succ]
    rw [List.getElem?_append_right (by rw [hr, Nat.add_mul]; omega), show (j + 1) * size + t - r.length = j * size + t by rw [hr, Nat.add_mul]; omega]
    exact flatten_get size rows (fun x hx => h x (by simp [hx])) j t (by simpa using hj) ht

theorem Rw.get {w : World} {a : Option Addr} {size : Nat} {rows : List (List Value)} (h : Rw w a size rows) (j : Nat) (hj : j < rows.length) (h0 : 0 < size) :
    ∃ b off, a = some ⟨b, off, none⟩ ∧ ∀ t v, rows[j][t]? = some v → w.cell? ⟨b, off + (j * size + t), none⟩ = some v := by
  have hl : rows.flatten.length = rows.length * size := by
    have : ∀ (rs : List (List Value)), (∀ r ∈ rs, r.length = size) → rs.flatten.length = rs.length * size := by
      intro rs
      induction rs with
      | nil => intro _; simp
      | cons r rs ih => intro h; rw [List.flatten_cons, List.length_append, ih (fun x hx => h x (by simp [hx])), h r (by simp), List.length_cons, Nat.add_mul]; omega
    exact this rows h.each
  have hpos : rows.flatten ≠ [] := by
    intro e
    rw [e, List.length_nil] at hl
    have := Nat.mul_pos (show 0 < rows.length by omega) h0
    omega
  obtain ⟨b, off, rfl⟩ := h.sl.cells hpos
  refine ⟨b, off, rfl, fun t v hv => ?_⟩
  have ht : t < size := by
    have := (List.getElem?_eq_some_iff.1 hv).1
    rwa [h.each _ (List.getElem_mem hj)] at this
  have := h.sl.add (j * size + t) v (by rw [flatten_get size rows h.each j t hj ht]; exact hv)
  rwa [Addr.add_lit] at this

theorem Rw.below {w w' : World} {a : Option Addr} {size : Nat} {rows : List (List Value)} (h : Rw w a size rows) (hb : Below w.heap.size w w') : Rw w' a size rows := ⟨h.sl.below hb, h.each⟩

section
variable {H : Type} {enc : TypeId × Value → H} {P : Program} {w : World} {base : Nat} {spare : Nat → Bool} {held : Bool} {t e : TypeId}

end

end Go.Ofp
end

section
/- Structs whose fields are integers, strings, bools: their cells. -/
set_option linter.unusedSimpArgs false
set_option linter.unusedVariables false
namespace Go.Ofp
open Go.RowKit Go.WideShapes

section
variable {H : Type} {enc : TypeId × Value → H} {P : Program} {w : World} {base : Nat} {spare : Nat → Bool} {held : Bool}

/-- A field of a struct, read. -/
theorem field_read {t : TypeId} {fs : Array Field} {fuel : Nat} {cs : List Value} {x : DataW H × List MemPlace} (ht : P.underlying t = some (.struct fs)) (h : DataW.trod enc P w base spare held fuel t cs = some x) :
    cs.length = P.cellsOf t ∧ ∀ (i : Nat) (f : Field), fs[i]? = some f → ∃ n y, DataW.trod enc P w base spare held n f.type ((cs.drop f.offset).take (P.cellsOf f.type)) = some y := by
  obtain ⟨xs, n, _, rfl, hl, hlen, hf⟩ := DataW.trod_struct ht h
  refine ⟨hl, fun i f hi => ?_⟩
  have hi' : i < xs.length := by
    have := (Array.getElem?_eq_some_iff.1 hi).1
    omega
  refine ⟨n, xs[i], ?_⟩
  rw [hf i f hi, List.getElem?_eq_getElem hi']

theorem field_int {f : TypeId} {k : IntKind} {o n : Nat} {cs : List Value} {y : DataW H × List MemPlace} (hf : P.underlying f = some (.int k)) (hc : P.cellsOf f = 1) (ho : o < cs.length)
    (h : DataW.trod enc P w base spare held n f ((cs.drop o).take (P.cellsOf f)) = some y) : ∃ z, cs[o]? = some (.int k z) ∧ (Lit.int k z).wf = true := by
  obtain ⟨z, hz, _, hw⟩ := DataW.trod_int hf h
  rw [hc, List.drop_eq_getElem_cons ho] at hz
  simp only [List.take_succ_cons, List.take_zero, List.cons.injEq, and_true] at hz
  exact ⟨z, by rw [List.getElem?_eq_getElem ho, hz], hw⟩
end
end Go.Ofp
end

section
/- Cards and patches that came in, opened. -/
set_option linter.unusedSimpArgs false
set_option linter.unusedVariables false
namespace Go.Ofp
open Go.RowKit Go.WideShapes
section
variable {H : Type} {enc : TypeId × Value → H} {P : Program} {w : World} {base : Nat} {spare : Nat → Bool} {held : Bool}
theorem field_text {f : TypeId} {o n : Nat} {cs : List Value} {y : DataW H × List MemPlace} (hf : P.underlying f = some .string) (hc : P.cellsOf f = 1) (ho : o < cs.length)
    (h : DataW.trod enc P w base spare held n f ((cs.drop o).take (P.cellsOf f)) = some y) : ∃ s : ByteArray, cs[o]? = some (.string s) ∧ s.size ≤ maxLen := by
  obtain ⟨z, hz, _, hs⟩ := DataW.trod_string hf h
  rw [hc, List.drop_eq_getElem_cons ho] at hz
  simp only [List.take_succ_cons, List.take_zero, List.cons.injEq, and_true] at hz
  exact ⟨z, by rw [List.getElem?_eq_getElem ho, hz], hs⟩
end
/-- What is known of a value that came in. -/
structure VlIn (v : Vl) : Prop where
  kind : -9223372036854775808 ≤ v.kind ∧ v.kind ≤ 9223372036854775807
  n : -9223372036854775808 ≤ v.n ∧ v.n ≤ 9223372036854775807
  s : v.s.size ≤ maxLen
structure CdIn (c : Cd) : Prop where
  id : -9223372036854775808 ≤ c.id ∧ c.id ≤ 9223372036854775807
  ver : -9223372036854775808 ≤ c.ver ∧ c.ver ≤ 9223372036854775807
  lab : c.lab < 4294967296
  len : c.f.length = 8
  f : ∀ v ∈ c.f, VlIn v
structure PtIn (p : Pt) : Prop where
  mask : p.mask < 4294967296
  lab : p.lab < 4294967296
  len : p.f.length = 8
  f : ∀ v ∈ p.f, VlIn v
theorem wf_u32n {z : Int} (h : (Lit.int .u32 z).wf = true) : ∃ x : Nat, z = x ∧ x < 4294967296 := by
  have hb : 0 ≤ z ∧ z ≤ 4294967295 := by simpa [Lit.wf, IntKind.min, IntKind.max, IntKind.bits, IntKind.signed] using h
  exact ⟨z.toNat, by omega, by omega⟩
end Go.Ofp
namespace Go.Proofs.YtneolmnpebiifaaDoor
open Go.RowKit Go.Ofp Go.WideShapes
set_option linter.unusedVariables false
set_option maxRecDepth 100000
set_option maxHeartbeats 1000000
section
variable {H : Type} {enc : TypeId × Value → H} {w : World} {base : Nat} {spare : Nat → Bool} {held : Bool}
theorem read_vl {cs : List Value} (h : ∃ fuel x, DataW.trod enc Tryd.prog w base spare held fuel 27 cs = some x) : ∃ v : Vl, cs = vlRow v ∧ VlIn v := by
  obtain ⟨fuel, x, h⟩ := h
  obtain ⟨hl, hf⟩ := field_read Tryd.underlying27 h
  have hc : Tryd.prog.cellsOf 27 = 3 := by kernel_rfl
  rw [hc] at hl
  obtain ⟨n0, y0, h0⟩ := hf 0 _ rfl
  obtain ⟨n1, y1, h1⟩ := hf 1 _ rfl
  obtain ⟨n2, y2, h2⟩ := hf 2 _ rfl
  obtain ⟨z0, e0, w0⟩ := field_int Tryd.underlying3 (by kernel_rfl) (by rw [hl]; decide) h0
  obtain ⟨z1, e1, w1⟩ := field_int Tryd.underlying3 (by kernel_rfl) (by rw [hl]; decide) h1
  obtain ⟨z2, e2, w2⟩ := field_text Tryd.underlying9 (by kernel_rfl) (by rw [hl]; decide) h2
  match cs, hl with
  | [c0, c1, c2], _ =>
    simp at e0 e1 e2
    exact ⟨⟨z0, z1, z2⟩, by rw [e0, e1, e2]; rfl, wf_i64 w0, wf_i64 w1, w2⟩
theorem read_fl {cs : List Value} (h : ∃ fuel x, DataW.trod enc Tryd.prog w base spare held fuel 28 cs = some x) : ∃ f : List Vl, cs = flRow f ∧ f.length = 8 ∧ ∀ v ∈ f, VlIn v := by
  obtain ⟨fuel, x, h⟩ := h
  obtain ⟨xs, m, _, _, hl, hn, hi⟩ := DataW.trod_array Tryd.underlying28 h
  have hc : Tryd.prog.cellsOf 28 = 24 := by kernel_rfl
  have hv : Tryd.prog.cellsOf 27 = 3 := by kernel_rfl
  rw [hc] at hl
  have key : ∀ i, i < 8 → ∃ y, DataW.trod enc Tryd.prog w base spare held m 27 ((cs.drop (i * 3)).take 3) = some y := by
    intro i hi8
    have := hi i hi8
    rw [hv, List.getElem?_eq_getElem (by omega)] at this
    exact ⟨_, this⟩
  obtain ⟨y0, h0⟩ := key 0 (by decide)
  obtain ⟨y1, h1⟩ := key 1 (by decide)
  obtain ⟨y2, h2⟩ := key 2 (by decide)
  obtain ⟨y3, h3⟩ := key 3 (by decide)
  obtain ⟨y4, h4⟩ := key 4 (by decide)
  obtain ⟨y5, h5⟩ := key 5 (by decide)
  obtain ⟨y6, h6⟩ := key 6 (by decide)
  obtain ⟨y7, h7⟩ := key 7 (by decide)
  match cs, hl with
  | [c0, c1, c2, c3, c4, c5, c6, c7, c8, c9, c10, c11, c12, c13, c14, c15, c16, c17, c18, c19, c20, c21, c22, c23], _ =>
    simp only [Nat.reduceMul, List.drop_succ_cons, List.drop_zero, List.take_succ_cons, List.take_zero] at h0 h1 h2 h3 h4 h5 h6 h7
    obtain ⟨v0, e0, w0⟩ := read_vl ⟨_, _, h0⟩
    obtain ⟨v1, e1, w1⟩ := read_vl ⟨_, _, h1⟩
    obtain ⟨v2, e2, w2⟩ := read_vl ⟨_, _, h2⟩
    obtain ⟨v3, e3, w3⟩ := read_vl ⟨_, _, h3⟩
    obtain ⟨v4, e4, w4⟩ := read_vl ⟨_, _, h4⟩
    obtain ⟨v5, e5, w5⟩ := read_vl ⟨_, _, h5⟩
    obtain ⟨v6, e6, w6⟩ := read_vl ⟨_, _, h6⟩
    obtain ⟨v7, e7, w7⟩ := read_vl ⟨_, _, h7⟩
    simp only [vlRow, List.cons.injEq, and_true] at e0 e1 e2 e3 e4 e5 e6 e7
    refine ⟨[v0, v1, v2, v3, v4, v5, v6, v7], ?_, rfl, ?_⟩
    · simp only [flRow, List.map_cons, List.map_nil, List.flatten_cons, List.flatten_nil, vlRow, List.cons_append, List.nil_append]
      simp only [e0, e1, e2, e3, e4, e5, e6, e7]
    · intro v hv
      simp only [List.mem_cons, List.not_mem_nil, or_false] at hv
      rcases hv with rfl | rfl | rfl | rfl | rfl | rfl | rfl | rfl <;> assumption
theorem read_cd {cs : List Value} (h : ∃ fuel x, DataW.trod enc Tryd.prog w base spare held fuel 38 cs = some x) : ∃ c : Cd, cs = cdRow c ∧ CdIn c := by
  obtain ⟨fuel, x, h⟩ := h
  obtain ⟨hl, hf⟩ := field_read Tryd.underlying38 h
  have hc : Tryd.prog.cellsOf 38 = 27 := by kernel_rfl
  have hc3 : Tryd.prog.cellsOf 28 = 24 := by kernel_rfl
  rw [hc] at hl
  obtain ⟨n0, y0, h0⟩ := hf 0 _ rfl
  obtain ⟨n1, y1, h1⟩ := hf 1 _ rfl
  obtain ⟨n2, y2, h2⟩ := hf 2 _ rfl
  obtain ⟨n3, y3, h3⟩ := hf 3 _ rfl
  obtain ⟨z0, e0, w0⟩ := field_int Tryd.underlying3 (by kernel_rfl) (by rw [hl]; decide) h0
  obtain ⟨z1, e1, w1⟩ := field_int Tryd.underlying3 (by kernel_rfl) (by rw [hl]; decide) h1
  obtain ⟨z2, e2, w2⟩ := field_int Tryd.underlying25 (by kernel_rfl) (by rw [hl]; decide) h2
  have h3' : DataW.trod enc Tryd.prog w base spare held n3 28 ((cs.drop 3).take (Tryd.prog.cellsOf 28)) = some y3 := h3
  rw [hc3, List.take_of_length_le (by rw [List.length_drop, hl]; decide)] at h3'
  obtain ⟨f, hf3, hf8, hfi⟩ := read_fl ⟨_, _, h3'⟩
  obtain ⟨x2, rfl, hx2⟩ := wf_u32n w2
  match cs, hl with
  | c0 :: c1 :: c2 :: rest, _ =>
    simp at e0 e1 e2 hf3
    exact ⟨⟨z0, z1, x2, f⟩, by rw [e0, e1, e2, hf3]; rfl, wf_i64 w0, wf_i64 w1, hx2, hf8, hfi⟩
theorem read_pt {cs : List Value} (h : ∃ fuel x, DataW.trod enc Tryd.prog w base spare held fuel 30 cs = some x) : ∃ p : Pt, cs = ptRow p ∧ PtIn p := by
  obtain ⟨fuel, x, h⟩ := h
  obtain ⟨hl, hf⟩ := field_read Tryd.underlying30 h
  have hc : Tryd.prog.cellsOf 30 = 26 := by kernel_rfl
  have hc3 : Tryd.prog.cellsOf 28 = 24 := by kernel_rfl
  rw [hc] at hl
  obtain ⟨n0, y0, h0⟩ := hf 0 _ rfl
  obtain ⟨n1, y1, h1⟩ := hf 1 _ rfl
  obtain ⟨n3, y3, h3⟩ := hf 2 _ rfl
  obtain ⟨z0, e0, w0⟩ := field_int Tryd.underlying25 (by kernel_rfl) (by rw [hl]; decide) h0
  obtain ⟨z1, e1, w1⟩ := field_int Tryd.underlying25 (by kernel_rfl) (by rw [hl]; decide) h1
  have h3' : DataW.trod enc Tryd.prog w base spare held n3 28 ((cs.drop 2).take (Tryd.prog.cellsOf 28)) = some y3 := h3
  rw [hc3, List.take_of_length_le (by rw [List.length_drop, hl]; decide)] at h3'
  obtain ⟨f, hf3, hf8, hfi⟩ := read_fl ⟨_, _, h3'⟩
  obtain ⟨x0, rfl, hx0⟩ := wf_u32n w0
  obtain ⟨x1, rfl, hx1⟩ := wf_u32n w1
  match cs, hl with
  | c0 :: c1 :: rest, _ =>
    simp at e0 e1 hf3
    exact ⟨⟨x0, x1, f⟩, by rw [e0, e1, hf3]; rfl, hx0, hx1, hf8, hfi⟩
end
end Go.Proofs.YtneolmnpebiifaaDoor
end

section
/- Nets, one behind the other: plain law. -/
set_option linter.unusedSimpArgs false
set_option linter.unusedVariables false
namespace Go.Ofp

theorem firstOf_append (a b : List Tn) (id : Int) : firstOf (a ++ b) id = (firstOf a id).or (firstOf b id) := by
  unfold firstOf
  rw [List.find?_append]
section
variable {ok : Cd → Bool}
/-- The turn that opens a card's chain goes on from what stood ahead. -/
theorem goes_first : ∀ (p l : List Tn), goes ok p l = true → ∀ id t, firstOf l id = some t → ∀ u, lastOf p id = some u → u.new = t.old
  | _, [], _, id, t, h, _, _ => by simp [firstOf] at h
  | p, s :: r, hg, id, t, h, u, hu => by
    simp only [goes, nextOk, Bool.and_eq_true, decide_eq_true_eq] at hg
    obtain ⟨⟨-, h3⟩, hg⟩ := hg
    by_cases e : s.id = id
    · have : firstOf (s :: r) id = some s := by simp [firstOf, e]
      rw [this] at h
      cases h
      rw [e, hu] at h3
      simpa using h3
    · have h' : firstOf r id = some t := by simpa [firstOf, e] using h
      refine goes_first (p ++ [s]) r hg id t h' u ?_
      rw [lastOf_snoc, if_neg e, hu]
theorem goes_seq : ∀ (p l : List Tn), goes ok p l = true → seqOf p ≤ seqOf (p ++ l)
  | p, [], _ => by simp
  | p, t :: r, h => by
    simp only [goes, nextOk, Bool.and_eq_true, decide_eq_true_eq] at h
    have := goes_seq (p ++ [t]) r h.2
    rw [seqOf_snoc] at this
    have e : p ++ [t] ++ r = p ++ t :: r := by simp
    rw [e] at this
    omega
theorem goes_cut {a b : List Tn} (h : goes ok [] (a ++ b) = true) : goes ok [] a = true ∧ goes ok a b = true ∧ goes ok [] b = true := by
  rw [goes_split, Bool.and_eq_true, List.nil_append] at h
  refine ⟨h.1, h.2, ?_⟩
  refine goes_behind a [] b (.inr rfl) (fun id u hu => by simp [lastOf] at hu) h.2 fun _ => ?_
  have := goes_seq [] a h.1
  rw [List.nil_append] at this
  have e : seqOf [] = 0 := rfl
  omega

theorem may_new {t : Tn} (h : t.may ok = true) : (t.new = 0 ∧ t.c = Cd.none 0) ∨ (1 ≤ t.new ∧ ok t.c = true ∧ t.c.id = t.id ∧ t.c.ver = t.new) := by
  unfold Tn.may at h
  simp only [Bool.and_eq_true, decide_eq_true_eq] at h
  obtain ⟨h1, h2⟩ := h
  by_cases e : t.new = 0
  · rw [if_pos e] at h2
    exact .inl ⟨e, by simpa using h2⟩
  · rw [if_neg e] at h2
    simp only [Cd.fine, Bool.and_eq_true, decide_eq_true_eq] at h2
    exact .inr ⟨by omega, h2.1, h2.2.1, h2.2.2⟩
end

def verAt (m : List Cd) (id : Int) : Int := ((lookC m id).map Cd.ver).getD 0

/-- Cards fit turns. -/
structure FitS (m : List Cd) (l : List Tn) : Prop where
  a : ∀ t ∈ l, ∀ c ∈ m, c.id = t.id → c.ver = t.new → c = t.c
  b : ∀ t ∈ l, ∀ u ∈ l, t.id = u.id → t.new = u.new → t.c = u.c
  c : ∀ id t, firstOf l id = some t → verAt m id = t.old
  d : ∀ c ∈ m, 1 ≤ c.ver

theorem verAt_zero {m : List Cd} (h : RisC m) (hd : ∀ c ∈ m, 1 ≤ c.ver) (id : Int) : verAt m id = 0 ↔ ¬ ∃ c ∈ m, c.id = id := by
  unfold verAt
  cases hl : lookC m id with
  | none =>
    simp only [Option.map_none, Option.getD_none, true_iff]
    rintro ⟨c, hc, e⟩
    rw [(lookC_iff h id c).2 ⟨hc, e⟩] at hl
    cases hl
  | some c =>
    obtain ⟨h1, h2⟩ := (lookC_iff h id c).1 hl
    have := hd c h1
    simp only [Option.map_some, Option.getD_some]
    constructor
    · intro; omega
    · intro hn; exact absurd ⟨c, h1, h2⟩ hn
theorem verAt_mem {m : List Cd} (h : RisC m) {c : Cd} (hc : c ∈ m) : verAt m c.id = c.ver := by
  unfold verAt
  rw [(lookC_iff h c.id c).2 ⟨hc, rfl⟩]
  rfl
section
variable {ok : Cd → Bool}
/-- What fits all, fits the first part; behind its net the rest fits. -/
theorem FitS.left {m : List Cd} {l1 l2 : List Tn} (hf : FitS m (l1 ++ l2)) : FitS m l1 :=
  ⟨fun t ht => hf.a t (List.mem_append_left _ ht), fun t ht u hu => hf.b t (List.mem_append_left _ ht) u (List.mem_append_left _ hu), fun id t h => hf.c id t (by rw [firstOf_append, h]; rfl), hf.d⟩
theorem FitS.right {m m1 : List Cd} {l1 l2 : List Tn} (hm : RisC m) (hf : FitS m (l1 ++ l2)) (hg : goes ok [] (l1 ++ l2) = true) (hm1 : RisC m1)
    (h1 : ∀ c, c ∈ m1 ↔ (c ∈ m ∧ lastOf l1 c.id = none) ∨ ∃ t, lastOf l1 c.id = some t ∧ t.new ≠ 0 ∧ c = t.c) : FitS m1 l2 := by
  have hmay := goes_may _ _ hg
  obtain ⟨-, g2, -⟩ := goes_cut hg
  have hd : ∀ c ∈ m1, 1 ≤ c.ver := by
    intro c hc
    rcases (h1 c).1 hc with ⟨hc, -⟩ | ⟨t, ht, hn, rfl⟩
    · exact hf.d c hc
    · obtain ⟨t1, t2⟩ := lastOf_mem ht
      rcases may_new (hmay t (List.mem_append_left _ t1)) with ⟨h, -⟩ | ⟨h, -, -, h4⟩
      · exact absurd h hn
      · omega
  refine ⟨fun t ht c hc e1 e2 => ?_, fun t ht u hu => hf.b t (List.mem_append_right _ ht) u (List.mem_append_right _ hu), fun id t ht => ?_, hd⟩
  · rcases (h1 c).1 hc with ⟨hc, -⟩ | ⟨u, hu, hn, rfl⟩
    · exact hf.a t (List.mem_append_right _ ht) c hc e1 e2
    · obtain ⟨u1, u2⟩ := lastOf_mem hu
      rcases may_new (hmay u (List.mem_append_left _ u1)) with ⟨h, -⟩ | ⟨h, -, -, h4⟩
      · exact absurd h hn
      · exact hf.b u (List.mem_append_left _ u1) t (List.mem_append_right _ ht) (by omega) (by omega)
  · cases hl : lastOf l1 id with
    | some u =>
      have hu := goes_first l1 l2 g2 id t ht u hl
      obtain ⟨u1, u2⟩ := lastOf_mem hl
      by_cases h0 : u.new = 0
      · rw [(verAt_zero hm1 hd id).2]
        · omega
        · rintro ⟨c, hc, e⟩
          rcases (h1 c).1 hc with ⟨-, h⟩ | ⟨v, hv, hn, -⟩
          · rw [e, hl] at h; cases h
          · rw [e, hl] at hv; cases hv; exact hn h0
      · rcases may_new (hmay u (List.mem_append_left _ u1)) with ⟨h, -⟩ | ⟨h, -, h3, h4⟩
        · exact absurd h h0
        · have hc : u.c ∈ m1 := (h1 u.c).2 (.inr ⟨u, by rw [h3, u2]; exact hl, h0, rfl⟩)
          have := verAt_mem hm1 hc
          rw [h3, u2] at this
          omega
    | none =>
      have hft : firstOf (l1 ++ l2) id = some t := by
        have : firstOf l1 id = none := firstOf_none.2 (lastOf_none.1 hl)
        rw [firstOf_append, this]
        exact ht
      rw [← hf.c id t hft]
      have : lookC m1 id = lookC m id := by
        apply Option.ext
        intro c
        rw [lookC_iff hm1, lookC_iff hm, h1]
        constructor
        · rintro ⟨⟨h, -⟩ | ⟨v, hv, -, -⟩, e⟩
          · exact ⟨h, e⟩
          · rw [e, hl] at hv; cases hv
        · rintro ⟨h, e⟩; exact ⟨.inl ⟨h, by rw [e]; exact hl⟩, e⟩
      unfold verAt
      rw [this]
end
end Go.Ofp
end

section
/- Turns, items and cards that came in, opened. -/
set_option linter.unusedSimpArgs false
set_option linter.unusedVariables false
namespace Go.Ofp
open Go.RowKit
/-- A slice of rows. -/
structure Lst {α : Type} (row : α → List Value) (In : α → Prop) (w : World) (a : Option Addr) (n c : Nat) (l : List α) : Prop where
  sl : Sl w a (l.map row).flatten
  len : l.length = n
  le : n ≤ c
  cm : c ≤ maxLen
  mem : ∀ x ∈ l, In x
theorem lst_of {α : Type} {row : α → List Value} {In : α → Prop} {rows : List (List Value)} (h : ∀ cs ∈ rows, ∃ x : α, cs = row x ∧ In x) : ∃ l : List α, rows = l.map row ∧ ∀ x ∈ l, In x := by
  induction rows with
  | nil => exact ⟨[], rfl, by simp⟩
  | cons c cs ih =>
    obtain ⟨p, rfl, hp⟩ := h c (by simp)
    obtain ⟨ps, rfl, hps⟩ := ih (fun x hx => h x (by simp [hx]))
    refine ⟨p :: ps, rfl, ?_⟩
    intro q hq
    rcases List.mem_cons.1 hq with rfl | hq
    · exact hp
    · exact hps q hq
abbrev I64 (z : Int) : Prop := -9223372036854775808 ≤ z ∧ z ≤ 9223372036854775807
structure TnIn (t : Tn) : Prop where
  seq : I64 t.seq
  id : I64 t.id
  old : I64 t.old
  new : I64 t.new
  c : CdIn t.c
structure ItIn (x : It) : Prop where
  kind : I64 x.kind
  c : CdIn x.c
end Go.Ofp
namespace Go.Proofs.YtneolmnpebiifaaDoor
open Go.RowKit Go.Ofp Go.WideShapes
set_option linter.unusedVariables false
set_option maxRecDepth 100000
set_option maxHeartbeats 1000000
theorem cdRow_lenT (c : Cd) (h : c.f.length = 8) : (cdRow c).length = 27 := by simp [cdRow, flRow_length, h]
section
variable {H : Type} {enc : TypeId × Value → H}
end
end Go.Proofs.YtneolmnpebiifaaDoor
end

section
/- Which patches may be: the document's answer. -/
set_option linter.unusedSimpArgs false
set_option linter.unusedVariables false
namespace Go.Proofs.YtneolmnpebiifaaDoor
open Go.RowKit Go.Ofp
set_option linter.unusedVariables false
set_option maxRecDepth 100000
set_option maxHeartbeats 4000000

theorem fl_kind (H : List Value) (f : List Vl) (k : Nat) (v : Vl) (hv : f[k]? = some v) : (H ++ flRow f)[H.length + k * 3]? = some (.int .i64 v.kind) := by
  have h := fl_at [] f k v hv
  simp only [List.nil_append, List.length_nil, Nat.zero_add] at h
  have := congrArg (fun l => l[0]?) h
  rw [List.getElem?_append_right (by omega), show H.length + k * 3 - H.length = k * 3 by omega]
  simpa [List.getElem?_take, List.getElem?_drop, vlRow] using this
theorem rcp_main (p : Pt) (hg : p.f.length = 8) (hm : p.mask ≠ 0 ∧ p.mask ≤ 511) (hlab : p.lab < 65536) (hl2 : p.lab = 0 ∨ p.mask.testBit 8 = true) (w : World) :
    Calls Tryd.prog 52 #[.agg (ptRow p).toArray] w fun e w' => e = .returned (.int .i64 (if badF p.mask p.f 8 then 1 else 0)) ∧ Below w.heap.size w w' := by
  have hS := St.start w
  have cC := fun W : World => rmcheck_any p.mask W
  rw [decide_eq_true hm.2] at cC
  have cL := fun W : World => rlabels_any p.mask (by omega) W
  have cV := Lib.hid (fun (v : Vl) (W : World) => rvcheck_any v W)
  have cH := Lib.hid (fun (i : Nat) (hi : i < 8) (W : World) => rhasb_any p.mask i W (by omega) (by omega))
  obtain ⟨m, lab, f⟩ := p
  obtain ⟨hm1, hm2⟩ := hm
  simp only [ptRow] at hg hm1 hm2 hlab hl2 cC cL cH ⊢
  have z1 : ((m : Int) == 0) = false := by rw [beq_eq_false_iff_ne]; omega
  have z2 : decide ((65536 : Int) ≤ (lab : Int)) = false := decide_eq_false (by omega)
  replace cC := Lib.hid cC
  have hl3 : ((lab : Int) != 0) = false ∨ ((lab : Int) != 0) = true ∧ m.testBit 8 = true := by
    by_cases h : lab = 0
    · subst h
      exact .inl rfl
    · exact .inr ⟨by rw [bne_iff_ne]; omega, hl2.resolve_left h⟩
  clear hl2
  obtain ⟨er, her⟩ : ∃ er : Int, (if badF m f 8 then 1 else 0) = er := ⟨_, rfl⟩
  rw [her]
  replace her := Lib.hid her
  rcases hl3 with y1 | ⟨y1, y2⟩
  · go_enter Tryd.func52, Tryd.ntmps52
    go_wp2_with (first
      | (go_at_call 62; (with_reducible refine (cC.out _).mono ?_); rintro _ _ ⟨rfl, rfl⟩)
      | (with_reducible refine wpList_box_st (L := []) hS rfl rfl rfl ?_; intro gp w1 hS1; clear hS; have hS := hS1; clear hS1)
      | ((with_reducible refine wpList_gload_st 0 hS rfl (by with_unfolding_all rfl) rfl rfl ?_ rfl ?_); focus (simp [scalarB, go_sem]; done)))
    clear cL cC z1 z2 hm1 hlab y1
    go_loopg [3] 8 (fun gk vx wr => ∃ k : Nat, k + gk = 8 ∧ vx = .int .i64 k ∧ Hid (badF m f k = false) ∧ St w [] [Ch.blk gp 30 (Value.int .u32 m :: .int .u32 lab :: flRow f).toArray] wr)
    case atStart => exact ⟨0, Nat.zero_add _, rfl, Lib.hid rfl, hS⟩
    case round =>
      obtain ⟨k, hkn, rfl, hr, hS1⟩ := hrel
      clear hS
      have hS := hS1
      clear hS1
      by_cases hlt : k < 8
      · have hvf : f[k]? = some (f.getD k Vl.zero) := by rw [List.getD_eq_getElem?_getD, List.getElem?_eq_getElem (by omega)]; rfl
        have hnext := badF_next m f k
        have hof := fun h => badF_of (m := m) (f := f) (k := k) (n := 8) hlt h
        rw [hr.out] at hnext
        simp only [Bool.false_or, badAt] at hnext hof
        generalize f.getD k Vl.zero = v at *
        have hld : ((Value.int .u32 m :: .int .u32 lab :: flRow f).toArray.toList.drop (2 + k * 3)).take 3 = vlRow v := fl_at [.int .u32 m, .int .u32 lab] f k v hvf
        have hki : (Value.int .u32 m :: .int .u32 lab :: flRow f).toArray[2 + k * 3]? = some (.int .i64 v.kind) := by
          rw [List.getElem?_toArray]
          exact fl_kind [.int .u32 m, .int .u32 lab] f k v hvf
        clear hvf
        have cV2 := cV.out v
        have cH2 := cH.out k hlt
        cases hok : v.ok with
        | false =>
          rw [hok] at cV2 hof
          clear hok cH2
          obtain ⟨vk, vn, vs⟩ := v
          simp only [vlRow] at cV2 hld hki
          replace cV2 := Lib.hid cV2
          replace hof := Lib.hid (hof rfl)
          replace hld := Lib.hid hld
          replace hki := Lib.hid hki
          go_wp2_with (first
            | (go_at_call 56; (with_reducible refine (cV2.out _).mono ?_); rintro _ w9 ⟨rfl, hk9⟩; have hS1 := hS.keepB hk9; clear hk9 hS; have hS := hS1; clear hS1)
            | (go_at_call 30; (with_reducible refine (cH2.out _).mono ?_); rintro _ _ ⟨rfl, rfl⟩)
            | ((with_reducible refine wpList_loadrow_st (n := 3) 0 hS rfl rfl rfl rfl ?_ (by kernel_rfl) hld.out rfl ?_); focus (simp [rowB, go_sem]; done))
            | ((with_reducible refine wpList_gload_st 0 hS rfl (by with_unfolding_all rfl) rfl rfl ?_ hki.out ?_); focus (simp [scalarB, go_sem]; done))
            | ((with_reducible refine wpList_gload_st 0 hS rfl (by with_unfolding_all rfl) rfl rfl ?_ rfl ?_); focus (simp [scalarB, go_sem]; done)))
          go_ret
          exact ⟨by rw [← her.out, hof.out]; rfl, hS.below⟩
        | true =>
          rw [hok] at cV2 hof hnext
          by_cases hk0 : v.kind = 0
          · have hnx : badF m f (k + 1) = false := by rw [hnext]; simp [hk0]
            have hkb : (v.kind != 0) = false := by rw [hk0]; rfl
            clear hok hk0 hof hnext cH2
            obtain ⟨vk, vn, vs⟩ := v
            simp only [vlRow] at cV2 hld hki hkb
            replace cV2 := Lib.hid cV2
            replace hnx := Lib.hid hnx
            replace hld := Lib.hid hld
            replace hki := Lib.hid hki
            go_wp2_with (first
              | (go_at_call 56; (with_reducible refine (cV2.out _).mono ?_); rintro _ w9 ⟨rfl, hk9⟩; have hS1 := hS.keepB hk9; clear hk9 hS; have hS := hS1; clear hS1)
              | (go_at_call 30; (with_reducible refine (cH2.out _).mono ?_); rintro _ _ ⟨rfl, rfl⟩)
              | ((with_reducible refine wpList_loadrow_st (n := 3) 0 hS rfl rfl rfl rfl ?_ (by kernel_rfl) hld.out rfl ?_); focus (simp [rowB, go_sem]; done))
              | ((with_reducible refine wpList_gload_st 0 hS rfl (by with_unfolding_all rfl) rfl rfl ?_ hki.out ?_); focus (simp [scalarB, go_sem]; done))
              | ((with_reducible refine wpList_gload_st 0 hS rfl (by with_unfolding_all rfl) rfl rfl ?_ rfl ?_); focus (simp [scalarB, go_sem]; done)))
            go_roundg (8 - (k + 1))
            case measure => omega
            case rel => exact ⟨k + 1, by omega, by go_num, hnx, hS⟩
          · have hkb : (v.kind != 0) = true := by rw [bne_iff_ne]; exact hk0
            cases hb : m.testBit k with
            | true =>
              have hnx : badF m f (k + 1) = false := by rw [hnext]; simp [hb]
              rw [hb] at cH2
              clear hok hk0 hof hnext hb
              obtain ⟨vk, vn, vs⟩ := v
              simp only [vlRow] at cV2 hld hki hkb
              replace cV2 := Lib.hid cV2
              replace cH2 := Lib.hid cH2
              replace hnx := Lib.hid hnx
              replace hld := Lib.hid hld
              replace hki := Lib.hid hki
              go_wp2_with (first
                | (go_at_call 56; (with_reducible refine (cV2.out _).mono ?_); rintro _ w9 ⟨rfl, hk9⟩; have hS1 := hS.keepB hk9; clear hk9 hS; have hS := hS1; clear hS1)
                | (go_at_call 30; (with_reducible refine (cH2.out _).mono ?_); rintro _ _ ⟨rfl, rfl⟩)
                | ((with_reducible refine wpList_loadrow_st (n := 3) 0 hS rfl rfl rfl rfl ?_ (by kernel_rfl) hld.out rfl ?_); focus (simp [rowB, go_sem]; done))
                | ((with_reducible refine wpList_gload_st 0 hS rfl (by with_unfolding_all rfl) rfl rfl ?_ hki.out ?_); focus (simp [scalarB, go_sem]; done))
                | ((with_reducible refine wpList_gload_st 0 hS rfl (by with_unfolding_all rfl) rfl rfl ?_ rfl ?_); focus (simp [scalarB, go_sem]; done)))
              go_roundg (8 - (k + 1))
              case measure => omega
              case rel => exact ⟨k + 1, by omega, by go_num, hnx, hS⟩
            | false =>
              have hof2 : badF m f 8 = true := hof (by simp [hb, hk0])
              rw [hb] at cH2
              clear hok hk0 hof hnext hb
              obtain ⟨vk, vn, vs⟩ := v
              simp only [vlRow] at cV2 hld hki hkb
              replace cV2 := Lib.hid cV2
              replace cH2 := Lib.hid cH2
              replace hof2 := Lib.hid hof2
              replace hld := Lib.hid hld
              replace hki := Lib.hid hki
              go_wp2_with (first
                | (go_at_call 56; (with_reducible refine (cV2.out _).mono ?_); rintro _ w9 ⟨rfl, hk9⟩; have hS1 := hS.keepB hk9; clear hk9 hS; have hS := hS1; clear hS1)
                | (go_at_call 30; (with_reducible refine (cH2.out _).mono ?_); rintro _ _ ⟨rfl, rfl⟩)
                | ((with_reducible refine wpList_loadrow_st (n := 3) 0 hS rfl rfl rfl rfl ?_ (by kernel_rfl) hld.out rfl ?_); focus (simp [rowB, go_sem]; done))
                | ((with_reducible refine wpList_gload_st 0 hS rfl (by with_unfolding_all rfl) rfl rfl ?_ hki.out ?_); focus (simp [scalarB, go_sem]; done))
                | ((with_reducible refine wpList_gload_st 0 hS rfl (by with_unfolding_all rfl) rfl rfl ?_ rfl ?_); focus (simp [scalarB, go_sem]; done)))
              go_ret
              exact ⟨by rw [← her.out, hof2.out]; rfl, hS.below⟩
      · obtain rfl : k = 8 := by omega
        go_wp2_with fail
        go_ret
        exact ⟨by rw [← her.out, hr.out]; rfl, hS.below⟩
  · rw [y2] at cL
    replace cL := Lib.hid cL
    go_enter Tryd.func52, Tryd.ntmps52
    go_wp2_with (first
      | (go_at_call 62; (with_reducible refine (cC.out _).mono ?_); rintro _ _ ⟨rfl, rfl⟩)
      | (go_at_call 29; (with_reducible refine (cL.out _).mono ?_); rintro _ _ ⟨rfl, rfl⟩)
      | (with_reducible refine wpList_box_st (L := []) hS rfl rfl rfl ?_; intro gp w1 hS1; clear hS; have hS := hS1; clear hS1)
      | ((with_reducible refine wpList_gload_st 0 hS rfl (by with_unfolding_all rfl) rfl rfl ?_ rfl ?_); focus (simp [scalarB, go_sem]; done)))
    clear y2
    clear cL cC z1 z2 hm1 hlab y1
    go_loopg [3] 8 (fun gk vx wr => ∃ k : Nat, k + gk = 8 ∧ vx = .int .i64 k ∧ Hid (badF m f k = false) ∧ St w [] [Ch.blk gp 30 (Value.int .u32 m :: .int .u32 lab :: flRow f).toArray] wr)
    case atStart => exact ⟨0, Nat.zero_add _, rfl, Lib.hid rfl, hS⟩
    case round =>
      obtain ⟨k, hkn, rfl, hr, hS1⟩ := hrel
      clear hS
      have hS := hS1
      clear hS1
      by_cases hlt : k < 8
      · have hvf : f[k]? = some (f.getD k Vl.zero) := by rw [List.getD_eq_getElem?_getD, List.getElem?_eq_getElem (by omega)]; rfl
        have hnext := badF_next m f k
        have hof := fun h => badF_of (m := m) (f := f) (k := k) (n := 8) hlt h
        rw [hr.out] at hnext
        simp only [Bool.false_or, badAt] at hnext hof
        generalize f.getD k Vl.zero = v at *
        have hld : ((Value.int .u32 m :: .int .u32 lab :: flRow f).toArray.toList.drop (2 + k * 3)).take 3 = vlRow v := fl_at [.int .u32 m, .int .u32 lab] f k v hvf
        have hki : (Value.int .u32 m :: .int .u32 lab :: flRow f).toArray[2 + k * 3]? = some (.int .i64 v.kind) := by
          rw [List.getElem?_toArray]
          exact fl_kind [.int .u32 m, .int .u32 lab] f k v hvf
        clear hvf
        have cV2 := cV.out v
        have cH2 := cH.out k hlt
        cases hok : v.ok with
        | false =>
          rw [hok] at cV2 hof
          clear hok cH2
          obtain ⟨vk, vn, vs⟩ := v
          simp only [vlRow] at cV2 hld hki
          replace cV2 := Lib.hid cV2
          replace hof := Lib.hid (hof rfl)
          replace hld := Lib.hid hld
          replace hki := Lib.hid hki
          go_wp2_with (first
            | (go_at_call 56; (with_reducible refine (cV2.out _).mono ?_); rintro _ w9 ⟨rfl, hk9⟩; have hS1 := hS.keepB hk9; clear hk9 hS; have hS := hS1; clear hS1)
            | (go_at_call 30; (with_reducible refine (cH2.out _).mono ?_); rintro _ _ ⟨rfl, rfl⟩)
            | ((with_reducible refine wpList_loadrow_st (n := 3) 0 hS rfl rfl rfl rfl ?_ (by kernel_rfl) hld.out rfl ?_); focus (simp [rowB, go_sem]; done))
            | ((with_reducible refine wpList_gload_st 0 hS rfl (by with_unfolding_all rfl) rfl rfl ?_ hki.out ?_); focus (simp [scalarB, go_sem]; done))
            | ((with_reducible refine wpList_gload_st 0 hS rfl (by with_unfolding_all rfl) rfl rfl ?_ rfl ?_); focus (simp [scalarB, go_sem]; done)))
          go_ret
          exact ⟨by rw [← her.out, hof.out]; rfl, hS.below⟩
        | true =>
          rw [hok] at cV2 hof hnext
          by_cases hk0 : v.kind = 0
          · have hnx : badF m f (k + 1) = false := by rw [hnext]; simp [hk0]
            have hkb : (v.kind != 0) = false := by rw [hk0]; rfl
            clear hok hk0 hof hnext cH2
            obtain ⟨vk, vn, vs⟩ := v
            simp only [vlRow] at cV2 hld hki hkb
            replace cV2 := Lib.hid cV2
            replace hnx := Lib.hid hnx
            replace hld := Lib.hid hld
            replace hki := Lib.hid hki
            go_wp2_with (first
              | (go_at_call 56; (with_reducible refine (cV2.out _).mono ?_); rintro _ w9 ⟨rfl, hk9⟩; have hS1 := hS.keepB hk9; clear hk9 hS; have hS := hS1; clear hS1)
              | (go_at_call 30; (with_reducible refine (cH2.out _).mono ?_); rintro _ _ ⟨rfl, rfl⟩)
              | ((with_reducible refine wpList_loadrow_st (n := 3) 0 hS rfl rfl rfl rfl ?_ (by kernel_rfl) hld.out rfl ?_); focus (simp [rowB, go_sem]; done))
              | ((with_reducible refine wpList_gload_st 0 hS rfl (by with_unfolding_all rfl) rfl rfl ?_ hki.out ?_); focus (simp [scalarB, go_sem]; done))
              | ((with_reducible refine wpList_gload_st 0 hS rfl (by with_unfolding_all rfl) rfl rfl ?_ rfl ?_); focus (simp [scalarB, go_sem]; done)))
            go_roundg (8 - (k + 1))
            case measure => omega
            case rel => exact ⟨k + 1, by omega, by go_num, hnx, hS⟩
          · have hkb : (v.kind != 0) = true := by rw [bne_iff_ne]; exact hk0
            cases hb : m.testBit k with
            | true =>
              have hnx : badF m f (k + 1) = false := by rw [hnext]; simp [hb]
              rw [hb] at cH2
              clear hok hk0 hof hnext hb
              obtain ⟨vk, vn, vs⟩ := v
              simp only [vlRow] at cV2 hld hki hkb
              replace cV2 := Lib.hid cV2
              replace cH2 := Lib.hid cH2
              replace hnx := Lib.hid hnx
              replace hld := Lib.hid hld
              replace hki := Lib.hid hki
              go_wp2_with (first
                | (go_at_call 56; (with_reducible refine (cV2.out _).mono ?_); rintro _ w9 ⟨rfl, hk9⟩; have hS1 := hS.keepB hk9; clear hk9 hS; have hS := hS1; clear hS1)
                | (go_at_call 30; (with_reducible refine (cH2.out _).mono ?_); rintro _ _ ⟨rfl, rfl⟩)
                | ((with_reducible refine wpList_loadrow_st (n := 3) 0 hS rfl rfl rfl rfl ?_ (by kernel_rfl) hld.out rfl ?_); focus (simp [rowB, go_sem]; done))
                | ((with_reducible refine wpList_gload_st 0 hS rfl (by with_unfolding_all rfl) rfl rfl ?_ hki.out ?_); focus (simp [scalarB, go_sem]; done))
                | ((with_reducible refine wpList_gload_st 0 hS rfl (by with_unfolding_all rfl) rfl rfl ?_ rfl ?_); focus (simp [scalarB, go_sem]; done)))
              go_roundg (8 - (k + 1))
              case measure => omega
              case rel => exact ⟨k + 1, by omega, by go_num, hnx, hS⟩
            | false =>
              have hof2 : badF m f 8 = true := hof (by simp [hb, hk0])
              rw [hb] at cH2
              clear hok hk0 hof hnext hb
              obtain ⟨vk, vn, vs⟩ := v
              simp only [vlRow] at cV2 hld hki hkb
              replace cV2 := Lib.hid cV2
              replace cH2 := Lib.hid cH2
              replace hof2 := Lib.hid hof2
              replace hld := Lib.hid hld
              replace hki := Lib.hid hki
              go_wp2_with (first
                | (go_at_call 56; (with_reducible refine (cV2.out _).mono ?_); rintro _ w9 ⟨rfl, hk9⟩; have hS1 := hS.keepB hk9; clear hk9 hS; have hS := hS1; clear hS1)
                | (go_at_call 30; (with_reducible refine (cH2.out _).mono ?_); rintro _ _ ⟨rfl, rfl⟩)
                | ((with_reducible refine wpList_loadrow_st (n := 3) 0 hS rfl rfl rfl rfl ?_ (by kernel_rfl) hld.out rfl ?_); focus (simp [rowB, go_sem]; done))
                | ((with_reducible refine wpList_gload_st 0 hS rfl (by with_unfolding_all rfl) rfl rfl ?_ hki.out ?_); focus (simp [scalarB, go_sem]; done))
                | ((with_reducible refine wpList_gload_st 0 hS rfl (by with_unfolding_all rfl) rfl rfl ?_ rfl ?_); focus (simp [scalarB, go_sem]; done)))
              go_ret
              exact ⟨by rw [← her.out, hof2.out]; rfl, hS.below⟩
      · obtain rfl : k = 8 := by omega
        go_wp2_with fail
        go_ret
        exact ⟨by rw [← her.out, hr.out]; rfl, hS.below⟩
theorem rcp_any (p : Pt) (hg : p.f.length = 8) (hmm : p.mask < 4294967296) (hll : p.lab < 4294967296) (w : World) :
    Calls Tryd.prog 52 #[.agg (ptRow p).toArray] w fun e w' => e = .returned (.int .i64 p.check) ∧ Below w.heap.size w w' := by
  have hS := St.start w
  have cC := fun W : World => rmcheck_any p.mask W
  have cL := fun W : World => rlabels_any p.mask hmm W
  unfold Pt.check
  by_cases h1 : p.mask = 0 ∨ 511 < p.mask
  · rw [if_pos h1]
    obtain ⟨m, lab, f⟩ := p
    simp only [ptRow] at *
    rcases h1 with h1 | h1
    · have z1 : ((m : Int) == 0) = true := by rw [h1]; rfl
      rw [decide_eq_true (by omega)] at cC
      replace cC := Lib.hid cC
      clear cL h1
      go_enter Tryd.func52, Tryd.ntmps52
      go_wp2_with (first
        | (go_at_call 62; (with_reducible refine (cC.out _).mono ?_); rintro _ _ ⟨rfl, rfl⟩)
        | (go_at_call 29; (with_reducible refine (cL.out _).mono ?_); rintro _ _ ⟨rfl, rfl⟩)
        | (with_reducible refine wpList_box_st (L := []) hS rfl rfl rfl ?_; intro gp w1 hS1; clear hS; have hS := hS1; clear hS1)
        | ((with_reducible refine wpList_gload_st 0 hS rfl (by with_unfolding_all rfl) rfl rfl ?_ rfl ?_); focus (simp [scalarB, go_sem]; done)))
      go_ret
      exact ⟨rfl, hS.below⟩
    · have z1 : ((m : Int) == 0) = false := by rw [beq_eq_false_iff_ne]; omega
      rw [decide_eq_false (by omega)] at cC
      replace cC := Lib.hid cC
      clear cL h1
      go_enter Tryd.func52, Tryd.ntmps52
      go_wp2_with (first
        | (go_at_call 62; (with_reducible refine (cC.out _).mono ?_); rintro _ _ ⟨rfl, rfl⟩)
        | (go_at_call 29; (with_reducible refine (cL.out _).mono ?_); rintro _ _ ⟨rfl, rfl⟩)
        | (with_reducible refine wpList_box_st (L := []) hS rfl rfl rfl ?_; intro gp w1 hS1; clear hS; have hS := hS1; clear hS1)
        | ((with_reducible refine wpList_gload_st 0 hS rfl (by with_unfolding_all rfl) rfl rfl ?_ rfl ?_); focus (simp [scalarB, go_sem]; done)))
      go_ret
      exact ⟨rfl, hS.below⟩
  rw [if_neg h1]
  by_cases h2 : 65536 ≤ p.lab ∨ p.lab ≠ 0 ∧ p.mask.testBit 8 = false
  · rw [if_pos h2]
    rw [decide_eq_true (show p.mask ≤ 511 by omega)] at cC
    obtain ⟨m, lab, f⟩ := p
    simp only [ptRow] at *
    have z1 : ((m : Int) == 0) = false := by rw [beq_eq_false_iff_ne]; omega
    replace cC := Lib.hid cC
    by_cases h3 : 65536 ≤ lab
    · have z2 : decide ((65536 : Int) ≤ (lab : Int)) = true := decide_eq_true (by omega)
      clear cL h1 h2 h3
      go_enter Tryd.func52, Tryd.ntmps52
      go_wp2_with (first
        | (go_at_call 62; (with_reducible refine (cC.out _).mono ?_); rintro _ _ ⟨rfl, rfl⟩)
        | (go_at_call 29; (with_reducible refine (cL.out _).mono ?_); rintro _ _ ⟨rfl, rfl⟩)
        | (with_reducible refine wpList_box_st (L := []) hS rfl rfl rfl ?_; intro gp w1 hS1; clear hS; have hS := hS1; clear hS1)
        | ((with_reducible refine wpList_gload_st 0 hS rfl (by with_unfolding_all rfl) rfl rfl ?_ rfl ?_); focus (simp [scalarB, go_sem]; done)))
      go_ret
      exact ⟨rfl, hS.below⟩
    · have z2 : decide ((65536 : Int) ≤ (lab : Int)) = false := decide_eq_false (by omega)
      obtain ⟨h4, h5⟩ := h2.resolve_left h3
      have z3 : ((lab : Int) != 0) = true := by rw [bne_iff_ne]; omega
      rw [h5] at cL
      replace cL := Lib.hid cL
      clear h1 h2 h3 h4 h5
      go_enter Tryd.func52, Tryd.ntmps52
      go_wp2_with (first
        | (go_at_call 62; (with_reducible refine (cC.out _).mono ?_); rintro _ _ ⟨rfl, rfl⟩)
        | (go_at_call 29; (with_reducible refine (cL.out _).mono ?_); rintro _ _ ⟨rfl, rfl⟩)
        | (with_reducible refine wpList_box_st (L := []) hS rfl rfl rfl ?_; intro gp w1 hS1; clear hS; have hS := hS1; clear hS1)
        | ((with_reducible refine wpList_gload_st 0 hS rfl (by with_unfolding_all rfl) rfl rfl ?_ rfl ?_); focus (simp [scalarB, go_sem]; done)))
      go_ret
      exact ⟨rfl, hS.below⟩
  · rw [if_neg h2]
    exact rcp_main p hg ⟨by omega, by omega⟩ (by omega) (by
      by_cases h : p.lab = 0
      · exact .inl h
      · right
        cases hb : p.mask.testBit 8 with
        | true => rfl
        | false => exact absurd (.inr ⟨h, hb⟩) h2) w
end Go.Proofs.YtneolmnpebiifaaDoor
end

section
/- Which cards may be. -/
set_option linter.unusedSimpArgs false
set_option linter.unusedVariables false
namespace Go.Proofs.YtneolmnpebiifaaDoor
open Go.RowKit Go.Ofp
set_option linter.unusedVariables false
set_option maxRecDepth 100000
set_option maxHeartbeats 4000000

theorem ck1_any (v : Vl) (w : World) : Calls Tryd.prog 55 #[.agg (vlRow v).toArray] w fun e w' => e = .returned (.bool (!v.ok)) ∧ Below w.heap.size w w' := by
  have hS := St.start w
  have cV := fun W : World => vcheck_any v W
  generalize v.ok = b at cV ⊢
  obtain ⟨vk, vn, vs⟩ := v
  simp only [vlRow] at cV ⊢
  replace cV := Lib.hid cV
  go_enter Tryd.func55, Tryd.ntmps55
  go_wp2_with (first
    | (go_at_call 49; (with_reducible refine (cV.out _).mono ?_); rintro _ w9 ⟨rfl, hk9⟩; have hS1 := hS.keepB hk9; clear hk9 hS; have hS := hS1; clear hS1)
    | (with_reducible refine wpList_box_st hS rfl rfl rfl ?_; intro g1 w1 hS1; clear hS; replace hS := hS1; clear hS1) | (with_reducible refine wpList_box1_st hS rfl rfl rfl ?_; intro g1 w1 hS1; clear hS; replace hS := hS1; clear hS1) | (with_reducible refine wpList_alloc_st hS rfl rfl (by assumption) ?_; intro g1 w1 hS1; clear hS; replace hS := hS1; clear hS1) | (with_reducible refine wpList_alloc1_st hS rfl rfl (by assumption) rfl ?_; intro g1 w1 hS1; clear hS; replace hS := hS1; clear hS1) | ((with_reducible refine wpList_load_st 0 hS rfl rfl rfl rfl ?_ rfl ?_); focus (simp [scalarB, go_sem]; done)) | ((with_reducible refine wpList_loadall_st 0 hS rfl rfl rfl rfl ?_ (by kernel_rfl) ?_); focus (simp [rowB, go_sem]; done)) | ((with_reducible refine wpList_store_st 0 hS rfl rfl rfl rfl (by kernel_rfl) rfl rfl ?_); intro w1 hS1; clear hS; replace hS := hS1; clear hS1; try simp only [List.set_cons_zero, List.set_cons_succ, List.setIfInBounds_toArray, List.take_succ_cons, List.take_zero, List.drop_succ_cons, List.drop_zero, List.nil_append, List.cons_append, List.append_nil, List.drop_nil, List.take_nil, List.length_cons, List.length_nil, Nat.zero_add, Nat.add_zero, Nat.reduceAdd] at hS) | ((with_reducible refine wpList_storerow_st 0 hS rfl rfl rfl rfl (by kernel_rfl) rfl rfl rfl rfl ?_); intro w1 hS1; clear hS; replace hS := hS1; clear hS1; try simp only [List.set_cons_zero, List.set_cons_succ, List.setIfInBounds_toArray, List.take_succ_cons, List.take_zero, List.drop_succ_cons, List.drop_zero, List.nil_append, List.cons_append, List.append_nil, List.drop_nil, List.take_nil, List.length_cons, List.length_nil, Nat.zero_add, Nat.add_zero, Nat.reduceAdd] at hS))
  go_ret
  exact ⟨rfl, hS.below⟩

theorem idxf_any (b off : Nat) (f : List Vl) (hf : f.length = 8) (w : World) (hs : Sl w (some ⟨b, off, none⟩) (flRow f)) :
    Calls Tryd.prog 63 #[.slice (some ⟨b, off, none⟩) 8 8, .func (.func 55) #[] #[]] w fun e w' => (∃ r : Int, e = .returned (.int .i64 r) ∧ decide (0 ≤ r) = !f.all Vl.ok) ∧ Below w.heap.size w w' := by
  have hS := St.start w
  have cV := Lib.hid (fun (v : Vl) (W : World) => ck1_any v W)
  have hs2 := Lib.hid hs
  go_enter Tryd.func63, Tryd.ntmps63
  go_wp2_with fail
  go_loopg [8] 8 (fun gk vx wr => ∃ k : Nat, k + gk = 8 ∧ vx = .int .i64 k ∧ Hid ((f.take k).all Vl.ok = true) ∧ St w [] [] wr)
  case atStart => exact ⟨0, Nat.zero_add _, rfl, Lib.hid rfl, hS⟩
  case round =>
    obtain ⟨k, hkn, rfl, hr, hS1⟩ := hrel
    clear hS
    have hS := hS1
    clear hS1
    by_cases hlt : k < 8
    · obtain ⟨v, hv⟩ : ∃ v, f[k]? = some v := ⟨_, List.getElem?_eq_getElem (by omega)⟩
      have hsl := hS.sl hs2.out
      have h := fl_at [] f k v hv
      simp only [List.nil_append, List.length_nil, Nat.zero_add] at h
      have hc : ∀ j u, (vlRow v)[j]? = some u → wr.cell? ⟨b, off + k * 3 + j, none⟩ = some u := by
        intro j u hu
        have h2 := congrArg (fun l => l[j]?) h
        simp only [hu] at h2
        rw [List.getElem?_take] at h2
        split at h2
        · rw [List.getElem?_drop] at h2
          have := hsl.add (k * 3 + j) u h2
          rwa [Addr.add_lit, ← Nat.add_assoc] at this
        · cases h2
      obtain ⟨hk, hvk⟩ := List.getElem?_eq_some_iff.1 hv
      have hnx : v.ok = true → (f.take (k + 1)).all Vl.ok = true := by
        intro h
        rw [List.take_succ_eq_append_getElem hk, List.all_append, hr.out, hvk]
        simp [h]
      have hno : v.ok = false → f.all Vl.ok = false := by
        intro h
        rw [List.all_eq_false]
        exact ⟨v, List.mem_of_getElem? hv, by simp [h]⟩
      have cV2 := cV.out v
      cases hok : v.ok with
      | false =>
        have hno2 := Lib.hid (hno hok)
        rw [hok] at cV2
        clear hno hnx hok hvk
        obtain ⟨vk, vn, vs⟩ := v
        have c0 : wr.cell? ⟨b, off + k * 3, none⟩ = some (.int .i64 vk) := hc 0 _ rfl
        have c1 : wr.cell? ⟨b, off + k * 3 + 1, none⟩ = some (.int .i64 vn) := hc 1 _ rfl
        have c2 : wr.cell? ⟨b, off + k * 3 + 2, none⟩ = some (.string vs) := hc 2 _ rfl
        simp only [vlRow] at cV2
        replace cV2 := Lib.hid cV2
        clear hc h hv
        go_wp2_with (first
          | (go_at_call 55; (with_reducible refine (cV2.out _).mono ?_); rintro _ w9 ⟨rfl, hk9⟩; have hS1 := hS.keepB hk9; clear hk9 hS; have hS := hS1; clear hS1))
        go_ret
        exact ⟨⟨k, rfl, by rw [hno2.out]; simp⟩, hS.below⟩
      | true =>
        have hnx2 := Lib.hid (hnx hok)
        rw [hok] at cV2
        clear hno hnx hok hvk
        obtain ⟨vk, vn, vs⟩ := v
        have c0 : wr.cell? ⟨b, off + k * 3, none⟩ = some (.int .i64 vk) := hc 0 _ rfl
        have c1 : wr.cell? ⟨b, off + k * 3 + 1, none⟩ = some (.int .i64 vn) := hc 1 _ rfl
        have c2 : wr.cell? ⟨b, off + k * 3 + 2, none⟩ = some (.string vs) := hc 2 _ rfl
        simp only [vlRow] at cV2
        replace cV2 := Lib.hid cV2
        clear hc h hv
        go_wp2_with (first
          | (go_at_call 55; (with_reducible refine (cV2.out _).mono ?_); rintro _ w9 ⟨rfl, hk9⟩; have hS1 := hS.keepB hk9; clear hk9 hS; have hS := hS1; clear hS1))
        go_roundg (8 - (k + 1))
        case measure => omega
        case rel => exact ⟨k + 1, by omega, by go_num, hnx2, hS⟩
    · obtain rfl : k = 8 := by omega
      have hr2 := hr.out
      rw [List.take_of_length_le (by omega)] at hr2
      replace hr2 := Lib.hid hr2
      go_wp2_with fail
      go_ret
      exact ⟨⟨-1, rfl, by rw [hr2.out]; rfl⟩, hS.below⟩

theorem contf_any (b off : Nat) (f : List Vl) (hf : f.length = 8) (w : World) (hs : Sl w (some ⟨b, off, none⟩) (flRow f)) :
    Calls Tryd.prog 54 #[.slice (some ⟨b, off, none⟩) 8 8, .func (.func 55) #[] #[]] w fun e w' => e = .returned (.bool (!f.all Vl.ok)) ∧ Below w.heap.size w w' := by
  have hS := St.start w
  have cI := idxf_any b off f hf w hs
  generalize (!f.all Vl.ok) = r at cI ⊢
  replace cI := Lib.hid cI
  clear hs
  go_enter Tryd.func54, Tryd.ntmps54
  go_wp2_with (first
    | (go_at_call 63; (with_reducible refine cI.out.mono ?_); rintro _ w9 ⟨⟨q, rfl, hq⟩, hk9⟩; have hS1 := hS.keepB hk9; clear hk9 hS; have hS := hS1; clear hS1))
  go_ret
  exact ⟨rfl, hS.below⟩

theorem ckc_any (c : Cd) (hf : c.f.length = 8) (w : World) : Calls Tryd.prog 41 #[.agg (cdRow c).toArray] w fun e w' => e = .returned (.bool c.ok) ∧ Below w.heap.size w w' := by
  have hS := St.start w
  have cF := Lib.hid (fun (b : Nat) (W : World) hs => contf_any b 3 c.f hf W hs)
  obtain ⟨id, ver, lab, f⟩ := c
  simp only [cdRow] at *
  have hfl : (flRow f).length = 24 := by rw [flRow_length, hf]
  have hf3 : ((Value.int .i64 id :: .int .i64 ver :: .int .u32 lab :: flRow f).toArray.toList.drop 3).take 24 = flRow f := List.take_of_length_le (Nat.le_of_eq hfl)
  have hok : Cd.ok ⟨id, ver, lab, f⟩ = (decide (1 ≤ id ∧ id < 1073741824 ∧ 1 ≤ ver ∧ ver ≤ 1099511627776 ∧ lab < 65536) && f.all Vl.ok) := rfl
  rw [hok]
  clear hok
  by_cases h1 : id < 1
  · rw [decide_eq_false (by omega), Bool.false_and]
    have d1 : decide (id < 1) = true := decide_eq_true h1
    clear h1
    go_enter Tryd.func41, Tryd.ntmps41
    go_wp2_with (first
      | (go_at_call 54; (with_reducible refine (cF.out gc _ (by have := hS.blkpart 0 rfl 3 24; rwa [hf3] at this)).mono ?_); rintro _ w9 ⟨rfl, hk9⟩; have hS1 := hS.keepB hk9; clear hk9 hS; have hS := hS1; clear hS1)
      | (with_reducible refine wpList_box_st (L := []) hS rfl rfl rfl ?_; intro gc w1 hS1; clear hS; have hS := hS1; clear hS1)
      | ((with_reducible refine wpList_gload_st 0 hS rfl (by with_unfolding_all rfl) rfl rfl ?_ rfl ?_); focus (simp [scalarB, go_sem]; done)))
    go_ret
    exact ⟨by first | rfl | simp, hS.below⟩
  by_cases h2 : 1073741824 ≤ id
  · rw [decide_eq_false (by omega), Bool.false_and]
    have d2 : decide ((1073741824 : Int) ≤ id) = true := decide_eq_true h2
    have d1 : decide (id < 1) = false := decide_eq_false h1
    clear h1
    go_enter Tryd.func41, Tryd.ntmps41
    go_wp2_with (first
      | (go_at_call 54; (with_reducible refine (cF.out gc _ (by have := hS.blkpart 0 rfl 3 24; rwa [hf3] at this)).mono ?_); rintro _ w9 ⟨rfl, hk9⟩; have hS1 := hS.keepB hk9; clear hk9 hS; have hS := hS1; clear hS1)
      | (with_reducible refine wpList_box_st (L := []) hS rfl rfl rfl ?_; intro gc w1 hS1; clear hS; have hS := hS1; clear hS1)
      | ((with_reducible refine wpList_gload_st 0 hS rfl (by with_unfolding_all rfl) rfl rfl ?_ rfl ?_); focus (simp [scalarB, go_sem]; done)))
    go_ret
    exact ⟨by first | rfl | simp, hS.below⟩
  by_cases h3 : ver < 1
  · rw [decide_eq_false (by omega), Bool.false_and]
    have d3 : decide (ver < 1) = true := decide_eq_true h3
    have d1 : decide (id < 1) = false := decide_eq_false h1
    have d2 : decide ((1073741824 : Int) ≤ id) = false := decide_eq_false h2
    clear h1
    go_enter Tryd.func41, Tryd.ntmps41
    go_wp2_with (first
      | (go_at_call 54; (with_reducible refine (cF.out gc _ (by have := hS.blkpart 0 rfl 3 24; rwa [hf3] at this)).mono ?_); rintro _ w9 ⟨rfl, hk9⟩; have hS1 := hS.keepB hk9; clear hk9 hS; have hS := hS1; clear hS1)
      | (with_reducible refine wpList_box_st (L := []) hS rfl rfl rfl ?_; intro gc w1 hS1; clear hS; have hS := hS1; clear hS1)
      | ((with_reducible refine wpList_gload_st 0 hS rfl (by with_unfolding_all rfl) rfl rfl ?_ rfl ?_); focus (simp [scalarB, go_sem]; done)))
    go_ret
    exact ⟨by first | rfl | simp, hS.below⟩
  by_cases h4 : 1099511627776 < ver
  · rw [decide_eq_false (by omega), Bool.false_and]
    have d4 : decide ((1099511627776 : Int) < ver) = true := decide_eq_true h4
    have d1 : decide (id < 1) = false := decide_eq_false h1
    have d2 : decide ((1073741824 : Int) ≤ id) = false := decide_eq_false h2
    have d3 : decide (ver < 1) = false := decide_eq_false h3
    clear h1
    go_enter Tryd.func41, Tryd.ntmps41
    go_wp2_with (first
      | (go_at_call 54; (with_reducible refine (cF.out gc _ (by have := hS.blkpart 0 rfl 3 24; rwa [hf3] at this)).mono ?_); rintro _ w9 ⟨rfl, hk9⟩; have hS1 := hS.keepB hk9; clear hk9 hS; have hS := hS1; clear hS1)
      | (with_reducible refine wpList_box_st (L := []) hS rfl rfl rfl ?_; intro gc w1 hS1; clear hS; have hS := hS1; clear hS1)
      | ((with_reducible refine wpList_gload_st 0 hS rfl (by with_unfolding_all rfl) rfl rfl ?_ rfl ?_); focus (simp [scalarB, go_sem]; done)))
    go_ret
    exact ⟨by first | rfl | simp, hS.below⟩
  by_cases h5 : 65536 ≤ lab
  · rw [decide_eq_false (by omega), Bool.false_and]
    have d1 : decide (id < 1) = false := decide_eq_false h1
    have d2 : decide ((1073741824 : Int) ≤ id) = false := decide_eq_false h2
    have d3 : decide (ver < 1) = false := decide_eq_false h3
    have d4 : decide ((1099511627776 : Int) < ver) = false := decide_eq_false h4
    have d5 : ((lab : Int) / 65536 != 0) = true := by rw [bne_iff_ne]; omega
    clear h1
    go_enter Tryd.func41, Tryd.ntmps41
    go_wp2_with (first
      | (go_at_call 54; (with_reducible refine (cF.out gc _ (by have := hS.blkpart 0 rfl 3 24; rwa [hf3] at this)).mono ?_); rintro _ w9 ⟨rfl, hk9⟩; have hS1 := hS.keepB hk9; clear hk9 hS; have hS := hS1; clear hS1)
      | (with_reducible refine wpList_box_st (L := []) hS rfl rfl rfl ?_; intro gc w1 hS1; clear hS; have hS := hS1; clear hS1)
      | ((with_reducible refine wpList_gload_st 0 hS rfl (by with_unfolding_all rfl) rfl rfl ?_ rfl ?_); focus (simp [scalarB, go_sem]; done)))
    go_ret
    exact ⟨by first | rfl | simp, hS.below⟩
  rw [decide_eq_true (by omega), Bool.true_and]
  have d1 : decide (id < 1) = false := decide_eq_false h1
  have d2 : decide ((1073741824 : Int) ≤ id) = false := decide_eq_false h2
  have d3 : decide (ver < 1) = false := decide_eq_false h3
  have d4 : decide ((1099511627776 : Int) < ver) = false := decide_eq_false h4
  have d5 : ((lab : Int) / 65536 != 0) = false := by
    have : (lab : Int) / 65536 = 0 := by omega
    rw [this]
    rfl
  generalize f.all Vl.ok = b at *
  clear h1
  go_enter Tryd.func41, Tryd.ntmps41
  go_wp2_with (first
    | (go_at_call 54; (with_reducible refine (cF.out gc _ (by have := hS.blkpart 0 rfl 3 24; rwa [hf3] at this)).mono ?_); rintro _ w9 ⟨rfl, hk9⟩; have hS1 := hS.keepB hk9; clear hk9 hS; have hS := hS1; clear hS1)
    | (with_reducible refine wpList_box_st (L := []) hS rfl rfl rfl ?_; intro gc w1 hS1; clear hS; have hS := hS1; clear hS1)
    | ((with_reducible refine wpList_gload_st 0 hS rfl (by with_unfolding_all rfl) rfl rfl ?_ rfl ?_); focus (simp [scalarB, go_sem]; done)))
  go_ret
  exact ⟨by first | rfl | simp, hS.below⟩
end Go.Proofs.YtneolmnpebiifaaDoor
end

section
/- Which cards may be: the document's answer. -/
set_option linter.unusedSimpArgs false
set_option linter.unusedVariables false
namespace Go.Proofs.YtneolmnpebiifaaDoor
open Go.RowKit Go.Ofp
set_option linter.unusedVariables false
set_option maxRecDepth 100000
set_option maxHeartbeats 4000000

theorem rckc_any (c : Cd) (hf : c.f.length = 8) (w : World) : Calls Tryd.prog 42 #[.agg (cdRow c).toArray] w fun e w' => e = .returned (.bool c.ok) ∧ Below w.heap.size w w' := by
  have hS := St.start w
  have cV := Lib.hid (fun (v : Vl) (W : World) => rvcheck_any v W)
  obtain ⟨id, ver, lab, f⟩ := c
  simp only [cdRow] at *
  have hok : Cd.ok ⟨id, ver, lab, f⟩ = (decide (1 ≤ id ∧ id < 1073741824 ∧ 1 ≤ ver ∧ ver ≤ 1099511627776 ∧ lab < 65536) && f.all Vl.ok) := rfl
  rw [hok]
  clear hok
  by_cases h1 : id < 1
  · rw [decide_eq_false (by omega), Bool.false_and]
    have d1 : decide (id < 1) = true := decide_eq_true h1
    clear h1
    go_enter Tryd.func42, Tryd.ntmps42
    go_wp2_with (first
      | (with_reducible refine wpList_box_st (L := []) hS rfl rfl rfl ?_; intro gc w1 hS1; clear hS; have hS := hS1; clear hS1)
      | ((with_reducible refine wpList_gload_st 0 hS rfl (by with_unfolding_all rfl) rfl rfl ?_ rfl ?_); focus (simp [scalarB, go_sem]; done)))
    go_ret
    exact ⟨by first | rfl | simp, hS.below⟩
  by_cases h2 : 1073741824 ≤ id
  · rw [decide_eq_false (by omega), Bool.false_and]
    have d2 : decide ((1073741824 : Int) ≤ id) = true := decide_eq_true h2
    have d1 : decide (id < 1) = false := decide_eq_false h1
    clear h1
    go_enter Tryd.func42, Tryd.ntmps42
    go_wp2_with (first
      | (with_reducible refine wpList_box_st (L := []) hS rfl rfl rfl ?_; intro gc w1 hS1; clear hS; have hS := hS1; clear hS1)
      | ((with_reducible refine wpList_gload_st 0 hS rfl (by with_unfolding_all rfl) rfl rfl ?_ rfl ?_); focus (simp [scalarB, go_sem]; done)))
    go_ret
    exact ⟨by first | rfl | simp, hS.below⟩
  by_cases h3 : ver < 1
  · rw [decide_eq_false (by omega), Bool.false_and]
    have d3 : decide (ver < 1) = true := decide_eq_true h3
    have d1 : decide (id < 1) = false := decide_eq_false h1
    have d2 : decide ((1073741824 : Int) ≤ id) = false := decide_eq_false h2
    clear h1
    go_enter Tryd.func42, Tryd.ntmps42
    go_wp2_with (first
      | (with_reducible refine wpList_box_st (L := []) hS rfl rfl rfl ?_; intro gc w1 hS1; clear hS; have hS := hS1; clear hS1)
      | ((with_reducible refine wpList_gload_st 0 hS rfl (by with_unfolding_all rfl) rfl rfl ?_ rfl ?_); focus (simp [scalarB, go_sem]; done)))
    go_ret
    exact ⟨by first | rfl | simp, hS.below⟩
  by_cases h4 : 1099511627776 < ver
  · rw [decide_eq_false (by omega), Bool.false_and]
    have d4 : decide ((1099511627776 : Int) < ver) = true := decide_eq_true h4
    have d1 : decide (id < 1) = false := decide_eq_false h1
    have d2 : decide ((1073741824 : Int) ≤ id) = false := decide_eq_false h2
    have d3 : decide (ver < 1) = false := decide_eq_false h3
    clear h1
    go_enter Tryd.func42, Tryd.ntmps42
    go_wp2_with (first
      | (with_reducible refine wpList_box_st (L := []) hS rfl rfl rfl ?_; intro gc w1 hS1; clear hS; have hS := hS1; clear hS1)
      | ((with_reducible refine wpList_gload_st 0 hS rfl (by with_unfolding_all rfl) rfl rfl ?_ rfl ?_); focus (simp [scalarB, go_sem]; done)))
    go_ret
    exact ⟨by first | rfl | simp, hS.below⟩
  by_cases h5 : 65536 ≤ lab
  · rw [decide_eq_false (by omega), Bool.false_and]
    have d1 : decide (id < 1) = false := decide_eq_false h1
    have d2 : decide ((1073741824 : Int) ≤ id) = false := decide_eq_false h2
    have d3 : decide (ver < 1) = false := decide_eq_false h3
    have d4 : decide ((1099511627776 : Int) < ver) = false := decide_eq_false h4
    have d5 : decide ((65536 : Int) ≤ (lab : Int)) = true := decide_eq_true (by omega)
    clear h1
    go_enter Tryd.func42, Tryd.ntmps42
    go_wp2_with (first
      | (with_reducible refine wpList_box_st (L := []) hS rfl rfl rfl ?_; intro gc w1 hS1; clear hS; have hS := hS1; clear hS1)
      | ((with_reducible refine wpList_gload_st 0 hS rfl (by with_unfolding_all rfl) rfl rfl ?_ rfl ?_); focus (simp [scalarB, go_sem]; done)))
    go_ret
    exact ⟨by first | rfl | simp, hS.below⟩
  rw [decide_eq_true (by omega), Bool.true_and]
  have d1 : decide (id < 1) = false := decide_eq_false h1
  have d2 : decide ((1073741824 : Int) ≤ id) = false := decide_eq_false h2
  have d3 : decide (ver < 1) = false := decide_eq_false h3
  have d4 : decide ((1099511627776 : Int) < ver) = false := decide_eq_false h4
  have d5 : decide ((65536 : Int) ≤ (lab : Int)) = false := decide_eq_false (by omega)
  clear h1 h2 h3 h4 h5
  go_enter Tryd.func42, Tryd.ntmps42
  go_wp2_with (first
    | (with_reducible refine wpList_box_st (L := []) hS rfl rfl rfl ?_; intro gc w1 hS1; clear hS; have hS := hS1; clear hS1)
    | ((with_reducible refine wpList_gload_st 0 hS rfl (by with_unfolding_all rfl) rfl rfl ?_ rfl ?_); focus (simp [scalarB, go_sem]; done)))
  clear d1 d2 d3 d4 d5
  go_loopg [3] 8 (fun gk vx wr => ∃ k : Nat, k + gk = 8 ∧ vx = .int .i64 k ∧ Hid ((f.take k).all Vl.ok = true) ∧ St w [] [Ch.blk gc 38 (Value.int .i64 id :: .int .i64 ver :: .int .u32 lab :: flRow f).toArray] wr)
  case atStart => exact ⟨0, Nat.zero_add _, rfl, Lib.hid rfl, hS⟩
  case round =>
    obtain ⟨k, hkn, rfl, hr, hS1⟩ := hrel
    clear hS
    have hS := hS1
    clear hS1
    by_cases hlt : k < 8
    · obtain ⟨v, hv⟩ : ∃ v, f[k]? = some v := ⟨_, List.getElem?_eq_getElem (by omega)⟩
      have hld : ((Value.int .i64 id :: .int .i64 ver :: .int .u32 lab :: flRow f).toArray.toList.drop (3 + k * 3)).take 3 = vlRow v := fl_at [.int .i64 id, .int .i64 ver, .int .u32 lab] f k v hv
      obtain ⟨hk, hvk⟩ := List.getElem?_eq_some_iff.1 hv
      have hnx : v.ok = true → (f.take (k + 1)).all Vl.ok = true := by
        intro h
        rw [List.take_succ_eq_append_getElem hk, List.all_append, hr.out, hvk]
        simp [h]
      have hno : v.ok = false → f.all Vl.ok = false := by
        intro h
        rw [List.all_eq_false]
        exact ⟨v, List.mem_of_getElem? hv, by simp [h]⟩
      have cV2 := cV.out v
      cases hok : v.ok with
      | false =>
        have hno2 := Lib.hid (hno hok)
        rw [hok] at cV2
        clear hno hnx hok hvk hv
        obtain ⟨vk, vn, vs⟩ := v
        simp only [vlRow] at cV2 hld
        replace cV2 := Lib.hid cV2
        replace hld := Lib.hid hld
        go_wp2_with (first
          | (go_at_call 56; (with_reducible refine (cV2.out _).mono ?_); rintro _ w9 ⟨rfl, hk9⟩; have hS1 := hS.keepB hk9; clear hk9 hS; have hS := hS1; clear hS1)
          | ((with_reducible refine wpList_loadrow_st (n := 3) 0 hS rfl rfl rfl rfl ?_ (by kernel_rfl) hld.out rfl ?_); focus (simp [rowB, go_sem]; done)))
        go_ret
        exact ⟨by rw [hno2.out]; rfl, hS.below⟩
      | true =>
        have hnx2 := Lib.hid (hnx hok)
        rw [hok] at cV2
        clear hno hnx hok hvk hv
        obtain ⟨vk, vn, vs⟩ := v
        simp only [vlRow] at cV2 hld
        replace cV2 := Lib.hid cV2
        replace hld := Lib.hid hld
        go_wp2_with (first
          | (go_at_call 56; (with_reducible refine (cV2.out _).mono ?_); rintro _ w9 ⟨rfl, hk9⟩; have hS1 := hS.keepB hk9; clear hk9 hS; have hS := hS1; clear hS1)
          | ((with_reducible refine wpList_loadrow_st (n := 3) 0 hS rfl rfl rfl rfl ?_ (by kernel_rfl) hld.out rfl ?_); focus (simp [rowB, go_sem]; done)))
        go_roundg (8 - (k + 1))
        case measure => omega
        case rel => exact ⟨k + 1, by omega, by go_num, hnx2, hS⟩
    · obtain rfl : k = 8 := by omega
      have hr2 := hr.out
      rw [List.take_of_length_le (by omega)] at hr2
      replace hr2 := Lib.hid hr2
      go_wp2_with fail
      go_ret
      exact ⟨by rw [hr2.out]; rfl, hS.below⟩
end Go.Proofs.YtneolmnpebiifaaDoor
end

section
/- Lists of numbers: does one rise? -/
set_option linter.unusedSimpArgs false
set_option linter.unusedVariables false
namespace Go.Ofp.Ids
def lastD (l : List Int) : Int := l.getLastD 0
end Go.Ofp.Ids
namespace Go.Proofs.YtneolmnpebiifaaDoor
open Go.RowKit Go.Ofp
set_option linter.unusedVariables false
set_option maxRecDepth 100000
set_option maxHeartbeats 4000000

end Go.Proofs.YtneolmnpebiifaaDoor
end

section
/- May a turn be: the document's and the program's. -/
set_option linter.unusedSimpArgs false
set_option linter.unusedVariables false
namespace Go.Proofs.YtneolmnpebiifaaDoor
open Go.RowKit Go.Ofp
set_option linter.unusedVariables false
set_option maxRecDepth 100000
set_option maxHeartbeats 4000000

end Go.Proofs.YtneolmnpebiifaaDoor
end

section
/- Lists of numbers: one put in, all of two. -/
set_option linter.unusedSimpArgs false
set_option linter.unusedVariables false
namespace Go.Proofs.YtneolmnpebiifaaDoor
open Go.RowKit Go.Ofp
set_option linter.unusedVariables false
set_option maxRecDepth 100000
set_option maxHeartbeats 4000000

end Go.Proofs.YtneolmnpebiifaaDoor
end

section
/- Lists of numbers: the program's way along two lists. -/
set_option linter.unusedSimpArgs false
set_option linter.unusedVariables false
namespace Go.Ofp.Ids
end Go.Ofp.Ids
namespace Go.Proofs.YtneolmnpebiifaaDoor
open Go.RowKit Go.Ofp
set_option linter.unusedVariables false
set_option maxRecDepth 100000
set_option maxHeartbeats 4000000

end Go.Proofs.YtneolmnpebiifaaDoor
end

section
/- The library's looks into lists of numbers, and copies of these. -/
set_option linter.unusedSimpArgs false
set_option linter.unusedVariables false
namespace Go.Ofp.Ids
end Go.Ofp.Ids
namespace Go.Proofs.YtneolmnpebiifaaDoor
open Go.RowKit Go.Ofp
set_option linter.unusedVariables false
set_option maxRecDepth 100000
set_option maxHeartbeats 4000000

end Go.Proofs.YtneolmnpebiifaaDoor
end

section
/- The library's Insert and Delete, at numbers. -/
set_option linter.unusedSimpArgs false
set_option linter.unusedVariables false
namespace Go.Ofp
open Go.RowKit
end Go.Ofp
namespace Go.Proofs.YtneolmnpebiifaaDoor
open Go.RowKit Go.Ofp
set_option linter.unusedVariables false
set_option maxRecDepth 100000
set_option maxHeartbeats 4000000

end Go.Proofs.YtneolmnpebiifaaDoor
end

section
/- Lists of numbers: what the program does with one. -/
set_option linter.unusedSimpArgs false
set_option linter.unusedVariables false
namespace Go.Ofp
open Go.RowKit
end Go.Ofp
namespace Go.Ofp.Ids
end Go.Ofp.Ids
namespace Go.Proofs.YtneolmnpebiifaaDoor
open Go.RowKit Go.Ofp
set_option linter.unusedVariables false
set_option maxRecDepth 100000
set_option maxHeartbeats 4000000

end Go.Proofs.YtneolmnpebiifaaDoor
end

section
/- May a turn be: the program's. -/
set_option linter.unusedSimpArgs false
set_option linter.unusedVariables false
namespace Go.Proofs.YtneolmnpebiifaaDoor
open Go.RowKit Go.Ofp
set_option linter.unusedVariables false
set_option maxRecDepth 100000
set_option maxHeartbeats 4000000

end Go.Proofs.YtneolmnpebiifaaDoor
end

section
/- What is unlike in cards. -/
set_option linter.unusedSimpArgs false
set_option linter.unusedVariables false
namespace Go.Ofp
end Go.Ofp
namespace Go.Proofs.YtneolmnpebiifaaDoor
open Go.RowKit Go.Ofp
set_option linter.unusedVariables false
set_option maxRecDepth 100000
set_option maxHeartbeats 4000000

end Go.Proofs.YtneolmnpebiifaaDoor
end

section
/- What is unlike in cards: the reference. -/
set_option linter.unusedSimpArgs false
set_option linter.unusedVariables false
namespace Go.Ofp
end Go.Ofp
namespace Go.Proofs.YtneolmnpebiifaaDoor
open Go.RowKit Go.Ofp
set_option linter.unusedVariables false
set_option maxRecDepth 100000
set_option maxHeartbeats 4000000

end Go.Proofs.YtneolmnpebiifaaDoor
end

section
/- Lists of cards that are the same. -/
set_option linter.unusedSimpArgs false
set_option linter.unusedVariables false
namespace Go.Ofp
open Go.RowKit
theorem sl_range {w : World} {g off j n : Nat} {l vs : List Value} (h : Sl w (some ⟨g, off, none⟩) l) (hv : (l.drop j).take n = vs) : w.rangeAt g (off + j) vs := by
  intro k v hk
  rw [← hv, List.getElem?_take] at hk
  split at hk
  · rw [List.getElem?_drop] at hk
    have := h.add (j + k) v hk
    rwa [Addr.add_lit, ← Nat.add_assoc] at this
  · cases hk
/-- A struct or an array out of old memory. -/
theorem wpList_rangerow {P : Program} {w : World} {ops : Array Oper} {rest : List Oper} {o : Oper} {a : Act} {Q : Exit → Act → World → Prop} {g j n : Nat} {vs : List Value} (hc : w.rangeAt g j vs) (hgd : o.guard = none) {t : TypeId} {x : Operand} (ho : o.op = .load t x) (hx : a.eval x = .pointer (some ⟨g, j, none⟩))
    (hu : rowB P t = true) (hsz : sizeB P t n = true) (hl : vs.length = n) (h : wpList P ops Q rest (a.put o.dst (.agg vs.toArray)) w) : wpList P ops Q (o :: rest) a w := by
  refine wpList_plain hgd fun K hK => ?_
  have hr := run_loadrow (P := P) hu hsz hl hc
  unfold Oper.wp execOp
  simp only [ho, hx, Sem.run_bind, hr, Result.andThen_ok, Sem.run_pure]
  exact hK _ _ h
end Go.Ofp
namespace Go.Proofs.YtneolmnpebiifaaDoor
open Go.RowKit Go.Ofp
set_option linter.unusedVariables false
set_option maxRecDepth 100000
set_option maxHeartbeats 4000000

theorem vlRow_one (v : Vl) : (vlRow v).all Value.oneCell' = true := rfl
theorem flRow_one (f : List Vl) : (flRow f).all Value.oneCell' = true := by
  rw [List.all_eq_true]
  intro u hu
  obtain ⟨v, -, hv⟩ := List.mem_flatMap.1 hu
  exact List.all_eq_true.1 (vlRow_one v) u hv
end Go.Proofs.YtneolmnpebiifaaDoor
end
