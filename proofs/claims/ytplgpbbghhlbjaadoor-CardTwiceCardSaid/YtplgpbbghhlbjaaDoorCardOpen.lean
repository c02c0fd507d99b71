/- Cards and patches that came in, opened. -/
import Derived.Test.YtplgpbbghhlbjaaDoorCardMath
import Derived.Test.YtplgpbbghhlbjaaDoorOpen3
set_option linter.unusedSimpArgs false
set_option linter.unusedVariables false
namespace Go.Ofp
open Go.RowKit Go.WideShapes
section
variable {H : Type} {enc : TypeId × Value → H} {P : Program} {w : World} {base : Nat} {spare : Nat → Bool} {held : Bool}
theorem field_text {f : TypeId} {o n : Nat} {cs : List Value} {y : DataW H × List MemPlace} (hf : P.underlying f = some .string) (hc : P.cellsOf f = 1) (ho : o < cs.length)
    (h : DataW.trod enc P w base spare held n f ((cs.drop o).take (P.cellsOf f)) = some y) : ∃ s : ByteArray, cs[o]? = some (.string s) ∧ s.size ≤ maxLen := by
  obtain ⟨z, hz, _, hs⟩ := DataW.trod_string hf h
  rw [hc, List.drop_eq_getElem_cons ho] at hz
  simp only [List.take_succ_cons, List.take_zero, List.cons.injEq, and_true] at hz
  exact ⟨z, by rw [List.getElem?_eq_getElem ho, hz], hs⟩
end
/-- What is known of a value that came in. -/
structure VlIn (v : Vl) : Prop where
  kind : -9223372036854775808 ≤ v.kind ∧ v.kind ≤ 9223372036854775807
  n : -9223372036854775808 ≤ v.n ∧ v.n ≤ 9223372036854775807
  s : v.s.size ≤ maxLen
structure CdIn (c : Cd) : Prop where
  id : -9223372036854775808 ≤ c.id ∧ c.id ≤ 9223372036854775807
  ver : -9223372036854775808 ≤ c.ver ∧ c.ver ≤ 9223372036854775807
  lab : c.lab < 4294967296
  len : c.f.length = 8
  f : ∀ v ∈ c.f, VlIn v
structure PtIn (p : Pt) : Prop where
  mask : p.mask < 4294967296
  lab : p.lab < 4294967296
  len : p.f.length = 8
  f : ∀ v ∈ p.f, VlIn v
theorem wf_u32n {z : Int} (h : (Lit.int .u32 z).wf = true) : ∃ x : Nat, z = x ∧ x < 4294967296 := by
  have hb : 0 ≤ z ∧ z ≤ 4294967295 := by simpa [Lit.wf, IntKind.min, IntKind.max, IntKind.bits, IntKind.signed] using h
  exact ⟨z.toNat, by omega, by omega⟩
end Go.Ofp
namespace Go.Proofs.YtplgpbbghhlbjaaDoor
open Go.RowKit Go.Ofp Go.WideShapes
set_option linter.unusedVariables false
set_option maxRecDepth 100000
set_option maxHeartbeats 1000000
section
variable {H : Type} {enc : TypeId × Value → H} {w : World} {base : Nat} {spare : Nat → Bool} {held : Bool}
theorem read_vl {cs : List Value} (h : ∃ fuel x, DataW.trod enc Tryd.prog w base spare held fuel 24 cs = some x) : ∃ v : Vl, cs = vlRow v ∧ VlIn v := by
  obtain ⟨fuel, x, h⟩ := h
  obtain ⟨hl, hf⟩ := field_read Tryd.underlying24 h
  have hc : Tryd.prog.cellsOf 24 = 3 := by kernel_rfl
  rw [hc] at hl
  obtain ⟨n0, y0, h0⟩ := hf 0 _ rfl
  obtain ⟨n1, y1, h1⟩ := hf 1 _ rfl
  obtain ⟨n2, y2, h2⟩ := hf 2 _ rfl
  obtain ⟨z0, e0, w0⟩ := field_int Tryd.underlying3 (by kernel_rfl) (by rw [hl]; decide) h0
  obtain ⟨z1, e1, w1⟩ := field_int Tryd.underlying3 (by kernel_rfl) (by rw [hl]; decide) h1
  obtain ⟨z2, e2, w2⟩ := field_text Tryd.underlying9 (by kernel_rfl) (by rw [hl]; decide) h2
  match cs, hl with
  | [c0, c1, c2], _ =>
    simp at e0 e1 e2
    exact ⟨⟨z0, z1, z2⟩, by rw [e0, e1, e2]; rfl, wf_i64 w0, wf_i64 w1, w2⟩
theorem read_fl {cs : List Value} (h : ∃ fuel x, DataW.trod enc Tryd.prog w base spare held fuel 25 cs = some x) : ∃ f : List Vl, cs = flRow f ∧ f.length = 8 ∧ ∀ v ∈ f, VlIn v := by
  obtain ⟨fuel, x, h⟩ := h
  obtain ⟨xs, m, _, _, hl, hn, hi⟩ := DataW.trod_array Tryd.underlying25 h
  have hc : Tryd.prog.cellsOf 25 = 24 := by kernel_rfl
  have hv : Tryd.prog.cellsOf 24 = 3 := by kernel_rfl
  rw [hc] at hl
  have key : ∀ i, i < 8 → ∃ y, DataW.trod enc Tryd.prog w base spare held m 24 ((cs.drop (i * 3)).take 3) = some y := by
    intro i hi8
    have := hi i hi8
    rw [hv, List.getElem?_eq_getElem (by omega)] at this
    exact ⟨_, this⟩
  obtain ⟨y0, h0⟩ := key 0 (by decide)
  obtain ⟨y1, h1⟩ := key 1 (by decide)
  obtain ⟨y2, h2⟩ := key 2 (by decide)
  obtain ⟨y3, h3⟩ := key 3 (by decide)
  obtain ⟨y4, h4⟩ := key 4 (by decide)
  obtain ⟨y5, h5⟩ := key 5 (by decide)
  obtain ⟨y6, h6⟩ := key 6 (by decide)
  obtain ⟨y7, h7⟩ := key 7 (by decide)
  match cs, hl with
  | [c0, c1, c2, c3, c4, c5, c6, c7, c8, c9, c10, c11, c12, c13, c14, c15, c16, c17, c18, c19, c20, c21, c22, c23], _ =>
    simp only [Nat.reduceMul, List.drop_succ_cons, List.drop_zero, List.take_succ_cons, List.take_zero] at h0 h1 h2 h3 h4 h5 h6 h7
    obtain ⟨v0, e0, w0⟩ := read_vl ⟨_, _, h0⟩
    obtain ⟨v1, e1, w1⟩ := read_vl ⟨_, _, h1⟩
    obtain ⟨v2, e2, w2⟩ := read_vl ⟨_, _, h2⟩
    obtain ⟨v3, e3, w3⟩ := read_vl ⟨_, _, h3⟩
    obtain ⟨v4, e4, w4⟩ := read_vl ⟨_, _, h4⟩
    obtain ⟨v5, e5, w5⟩ := read_vl ⟨_, _, h5⟩
    obtain ⟨v6, e6, w6⟩ := read_vl ⟨_, _, h6⟩
    obtain ⟨v7, e7, w7⟩ := read_vl ⟨_, _, h7⟩
    simp only [vlRow, List.cons.injEq, and_true] at e0 e1 e2 e3 e4 e5 e6 e7
    refine ⟨[v0, v1, v2, v3, v4, v5, v6, v7], ?_, rfl, ?_⟩
    · simp only [flRow, List.map_cons, List.map_nil, List.flatten_cons, List.flatten_nil, vlRow, List.cons_append, List.nil_append]
      simp only [e0, e1, e2, e3, e4, e5, e6, e7]
    · intro v hv
      simp only [List.mem_cons, List.not_mem_nil, or_false] at hv
      rcases hv with rfl | rfl | rfl | rfl | rfl | rfl | rfl | rfl <;> assumption
theorem read_cd {cs : List Value} (h : ∃ fuel x, DataW.trod enc Tryd.prog w base spare held fuel 27 cs = some x) : ∃ c : Cd, cs = cdRow c ∧ CdIn c := by
  obtain ⟨fuel, x, h⟩ := h
  obtain ⟨hl, hf⟩ := field_read Tryd.underlying27 h
  have hc : Tryd.prog.cellsOf 27 = 27 := by kernel_rfl
  have hc3 : Tryd.prog.cellsOf 25 = 24 := by kernel_rfl
  rw [hc] at hl
  obtain ⟨n0, y0, h0⟩ := hf 0 _ rfl
  obtain ⟨n1, y1, h1⟩ := hf 1 _ rfl
  obtain ⟨n2, y2, h2⟩ := hf 2 _ rfl
  obtain ⟨n3, y3, h3⟩ := hf 3 _ rfl
  obtain ⟨z0, e0, w0⟩ := field_int Tryd.underlying3 (by kernel_rfl) (by rw [hl]; decide) h0
  obtain ⟨z1, e1, w1⟩ := field_int Tryd.underlying3 (by kernel_rfl) (by rw [hl]; decide) h1
  obtain ⟨z2, e2, w2⟩ := field_int Tryd.underlying22 (by kernel_rfl) (by rw [hl]; decide) h2
  have h3' : DataW.trod enc Tryd.prog w base spare held n3 25 ((cs.drop 3).take (Tryd.prog.cellsOf 25)) = some y3 := h3
  rw [hc3, List.take_of_length_le (by rw [List.length_drop, hl]; decide)] at h3'
  obtain ⟨f, hf3, hf8, hfi⟩ := read_fl ⟨_, _, h3'⟩
  obtain ⟨x2, rfl, hx2⟩ := wf_u32n w2
  match cs, hl with
  | c0 :: c1 :: c2 :: rest, _ =>
    simp at e0 e1 e2 hf3
    exact ⟨⟨z0, z1, x2, f⟩, by rw [e0, e1, e2, hf3]; rfl, wf_i64 w0, wf_i64 w1, hx2, hf8, hfi⟩
theorem read_pt {cs : List Value} (h : ∃ fuel x, DataW.trod enc Tryd.prog w base spare held fuel 29 cs = some x) : ∃ p : Pt, cs = ptRow p ∧ PtIn p := by
  obtain ⟨fuel, x, h⟩ := h
  obtain ⟨hl, hf⟩ := field_read Tryd.underlying29 h
  have hc : Tryd.prog.cellsOf 29 = 26 := by kernel_rfl
  have hc3 : Tryd.prog.cellsOf 25 = 24 := by kernel_rfl
  rw [hc] at hl
  obtain ⟨n0, y0, h0⟩ := hf 0 _ rfl
  obtain ⟨n1, y1, h1⟩ := hf 1 _ rfl
  obtain ⟨n3, y3, h3⟩ := hf 2 _ rfl
  obtain ⟨z0, e0, w0⟩ := field_int Tryd.underlying22 (by kernel_rfl) (by rw [hl]; decide) h0
  obtain ⟨z1, e1, w1⟩ := field_int Tryd.underlying22 (by kernel_rfl) (by rw [hl]; decide) h1
  have h3' : DataW.trod enc Tryd.prog w base spare held n3 25 ((cs.drop 2).take (Tryd.prog.cellsOf 25)) = some y3 := h3
  rw [hc3, List.take_of_length_le (by rw [List.length_drop, hl]; decide)] at h3'
  obtain ⟨f, hf3, hf8, hfi⟩ := read_fl ⟨_, _, h3'⟩
  obtain ⟨x0, rfl, hx0⟩ := wf_u32n w0
  obtain ⟨x1, rfl, hx1⟩ := wf_u32n w1
  match cs, hl with
  | c0 :: c1 :: rest, _ =>
    simp at e0 e1 hf3
    exact ⟨⟨x0, x1, f⟩, by rw [e0, e1, hf3]; rfl, hx0, hx1, hf8, hfi⟩
theorem open_cd {r : Reach} {b0 : Nat} {v : Value} {d : DataW H} {ms : List MemPlace} (ho : Value.okWide Tryd.prog w r b0 27 v) (ht : DataW.Trod enc Tryd.prog w base spare held 27 v d ms) : ∃ c : Cd, v = .agg (cdRow c).toArray ∧ CdIn c := by
  unfold Value.okWide at ho
  rw [Tryd.underlying27] at ho
  obtain ⟨cs, rfl, _, _⟩ := ho
  obtain ⟨fuel, hf⟩ := ht
  obtain ⟨c, hc, hi⟩ := read_cd ⟨_, _, hf⟩
  refine ⟨c, ?_, hi⟩
  congr 1
  apply Array.ext'
  simpa [Value.cells] using hc
theorem open_pt {r : Reach} {b0 : Nat} {v : Value} {d : DataW H} {ms : List MemPlace} (ho : Value.okWide Tryd.prog w r b0 29 v) (ht : DataW.Trod enc Tryd.prog w base spare held 29 v d ms) : ∃ p : Pt, v = .agg (ptRow p).toArray ∧ PtIn p := by
  unfold Value.okWide at ho
  rw [Tryd.underlying29] at ho
  obtain ⟨cs, rfl, _, _⟩ := ho
  obtain ⟨fuel, hf⟩ := ht
  obtain ⟨c, hc, hi⟩ := read_pt ⟨_, _, hf⟩
  refine ⟨c, ?_, hi⟩
  congr 1
  apply Array.ext'
  simpa [Value.cells] using hc
end
end Go.Proofs.YtplgpbbghhlbjaaDoor
