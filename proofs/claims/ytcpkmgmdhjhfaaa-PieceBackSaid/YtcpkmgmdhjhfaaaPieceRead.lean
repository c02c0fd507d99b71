/- Pieces that came in, opened. -/
import Derived.Test.YtcpkmgmdhjhfaaaPiece
set_option linter.unusedSimpArgs false
set_option linter.unusedVariables false
namespace Go.Ofp
open Go.RowKit Go.WideShapes

section
variable {H : Type} {enc : TypeId × Value → H} {P : Program} {w : World} {base : Nat} {spare : Nat → Bool} {held : Bool}

theorem field_bool {f : TypeId} {o n : Nat} {cs : List Value} {y : DataW H × List MemPlace} (hf : P.underlying f = some .bool) (hc : P.cellsOf f = 1) (ho : o < cs.length)
    (h : DataW.trod enc P w base spare held n f ((cs.drop o).take (P.cellsOf f)) = some y) : ∃ z, cs[o]? = some (.bool z) := by
  obtain ⟨z, hz, _⟩ := DataW.trod_bool hf h
  rw [hc, List.drop_eq_getElem_cons ho] at hz
  simp only [List.take_succ_cons, List.take_zero, List.cons.injEq, and_true] at hz
  exact ⟨z, by rw [List.getElem?_eq_getElem ho, hz]⟩

theorem field_string {f : TypeId} {o n : Nat} {cs : List Value} {y : DataW H × List MemPlace} (hf : P.underlying f = some .string) (hc : P.cellsOf f = 1) (ho : o < cs.length)
    (h : DataW.trod enc P w base spare held n f ((cs.drop o).take (P.cellsOf f)) = some y) : ∃ s : ByteArray, cs[o]? = some (.string s) ∧ s.size ≤ maxLen := by
  obtain ⟨z, hz, _, hs⟩ := DataW.trod_string hf h
  rw [hc, List.drop_eq_getElem_cons ho] at hz
  simp only [List.take_succ_cons, List.take_zero, List.cons.injEq, and_true] at hz
  exact ⟨z, by rw [List.getElem?_eq_getElem ho, hz], hs⟩
end
end Go.Ofp

set_option maxRecDepth 100000
namespace Go.Proofs.Ytcpkmgmdhjhfaaa
open Go.RowKit Go.Ofp

/-- What is known of a piece that came in. -/
def PcIn (p : Pc) : Prop := ((-9223372036854775808 ≤ p.life ∧ p.life ≤ 9223372036854775807) ∧ (-9223372036854775808 ≤ p.place ∧ p.place ≤ 9223372036854775807)) ∧ p.body.size ≤ maxLen

section
variable {H : Type} {enc : TypeId × Value → H}
theorem read_pc {w : World} {base : Nat} {spare : Nat → Bool} {held : Bool} {cs : List Value} (h : ∃ fuel x, DataW.trod enc Try.prog w base spare held fuel 34 cs = some x) : ∃ p : Pc, cs = p.row ∧ PcIn p := by
  obtain ⟨fuel, x, h⟩ := h
  obtain ⟨hl, hf⟩ := field_read Try.underlying34 h
  have hc : Try.prog.cellsOf 34 = 5 := by kernel_rfl
  rw [hc] at hl
  obtain ⟨n0, y0, h0⟩ := hf 0 _ rfl
  obtain ⟨n1, y1, h1⟩ := hf 1 _ rfl
  obtain ⟨n2, y2, h2⟩ := hf 2 _ rfl
  obtain ⟨n3, y3, h3⟩ := hf 3 _ rfl
  obtain ⟨n4, y4, h4⟩ := hf 4 _ rfl
  obtain ⟨z0, e0, w0⟩ := field_int Try.underlying3 (by kernel_rfl) (by rw [hl]; decide) h0
  obtain ⟨z1, e1, w1⟩ := field_int Try.underlying3 (by kernel_rfl) (by rw [hl]; decide) h1
  obtain ⟨z2, e2⟩ := field_bool Try.underlying4 (by kernel_rfl) (by rw [hl]; decide) h2
  obtain ⟨z3, e3⟩ := field_bool Try.underlying4 (by kernel_rfl) (by rw [hl]; decide) h3
  obtain ⟨z4, e4, w4⟩ := field_string Try.underlying9 (by kernel_rfl) (by rw [hl]; decide) h4
  match cs, hl with
  | [c0, c1, c2, c3, c4], _ =>
    simp at e0 e1 e2 e3 e4
    exact ⟨⟨z0, z1, z2, z3, z4⟩, by rw [e0, e1, e2, e3, e4]; rfl, ⟨wf_i64 w0, wf_i64 w1⟩, w4⟩

theorem pcs_of {rows : List (List Value)} (h : ∀ cs ∈ rows, ∃ p : Pc, cs = p.row ∧ PcIn p) : ∃ ps : List Pc, rows = ps.map Pc.row ∧ ∀ p ∈ ps, PcIn p := by
  induction rows with
  | nil => exact ⟨[], rfl, by simp⟩
  | cons c cs ih =>
    obtain ⟨p, rfl, hp⟩ := h c (by simp)
    obtain ⟨ps, rfl, hps⟩ := ih (fun x hx => h x (by simp [hx]))
    refine ⟨p :: ps, rfl, ?_⟩
    intro q hq
    rcases List.mem_cons.1 hq with rfl | hq
    · exact hp
    · exact hps q hq

/-- A slice of pieces that came in. -/
theorem open_pcs {r : Reach} {b0 base : Nat} {spare : Nat → Bool} {held : Bool} {v : Value} {d : DataW H} {ms : List MemPlace} {w : World}
    (ho : Value.okWide Try.prog w r b0 32 v) (ht : DataW.Trod enc Try.prog w base spare held 32 v d ms) :
    ∃ a n cap, v = .slice a n cap ∧ n ≤ cap ∧ cap ≤ maxLen ∧ ∃ ps : List Pc, n = ps.length ∧ Ps w a ps ∧ ∀ p ∈ ps, PcIn p := by
  have hc : Try.prog.cellsOf 34 = 5 := by kernel_rfl
  obtain ⟨b, n, cb, rfl, hn, hm, rows, hrl, hrw, hrd⟩ := open_rows Try.underlying32 ho ht (by rw [hc]; decide)
  obtain ⟨qs, rfl, hqs⟩ := pcs_of fun cs h => read_pc (hrd cs h)
  rw [List.length_map] at hrl
  exact ⟨b, n, cb, rfl, hn, hm, qs, hrl.symm, hrw.sl, hqs⟩

/-- A piece that came in. -/
theorem open_pc {r : Reach} {b0 base : Nat} {spare : Nat → Bool} {held : Bool} {v : Value} {d : DataW H} {ms : List MemPlace} {w : World}
    (ho : Value.okWide Try.prog w r b0 34 v) (ht : DataW.Trod enc Try.prog w base spare held 34 v d ms) : ∃ p : Pc, v = p.val ∧ PcIn p := by
  unfold Value.okWide at ho
  rw [Try.underlying34] at ho
  obtain ⟨cs, rfl, _⟩ := ho
  obtain ⟨fuel, hf⟩ := ht
  obtain ⟨p, hp, hin⟩ := read_pc ⟨fuel, _, hf⟩
  refine ⟨p, ?_, hin⟩
  unfold Pc.val
  congr 1
  apply Array.ext'
  simpa [Value.cells] using hp
end

end Go.Proofs.Ytcpkmgmdhjhfaaa
