/- Groups that came in, opened. -/
import Derived.Test.YtplgpbbghhlbjaaGrp1
import Derived.Test.YtplgpbbghhlbjaaIdsTwo
import Derived.ChangeSlices
set_option linter.unusedSimpArgs false
set_option linter.unusedVariables false
namespace Go.Proofs.Ytplgpbbghhlbjaa
open Go.RowKit Go.Ofp Go.WideShapes
set_option linter.unusedVariables false
set_option maxRecDepth 100000
section
variable {H : Type} {enc : TypeId × Value → H}
theorem read_g {w : World} {cs : List Value} (h : ∃ fuel x, DataW.trod enc Try.prog w 0 (fun _ => true) true fuel 58 cs = some x) : ∃ g : Gr, cs = g.row ∧ Mem w g := by
  obtain ⟨fuel, x, h⟩ := h
  obtain ⟨hl, hf⟩ := field_read Try.underlying58 h
  have hc : Try.prog.cellsOf 58 = 2 := by kernel_rfl
  have hc1 : Try.prog.cellsOf 22 = 1 := by kernel_rfl
  rw [hc] at hl
  obtain ⟨n0, y0, h0⟩ := hf 0 _ rfl
  obtain ⟨n1, y1, h1⟩ := hf 1 _ rfl
  obtain ⟨z0, e0, w0⟩ := field_int Try.underlying3 (by kernel_rfl) (by rw [hl]; decide) h0
  have h1' : DataW.trod enc Try.prog w 0 (fun _ => true) true n1 22 ((cs.drop 1).take (Try.prog.cellsOf 22)) = some y1 := h1
  rw [hc1] at h1'
  match cs, hl with
  | [c0, c1], _ =>
    simp at e0 h1'
    subst e0
    obtain ⟨d1, p1⟩ := y1
    rcases Go.ChangeShapes.open_ints Try.underlying22 Try.underlying3 (by kernel_rfl) h1' with ⟨hcs, _⟩ | ⟨x, l, c, zs, hcs, _, hl', hm, hz, _, hcell, hwz⟩
    · simp only [List.cons.injEq, and_true] at hcs
      subst hcs
      exact ⟨⟨z0, none, 0, []⟩, rfl, ⟨Sl.nil _ _, Nat.le_refl _, Nat.zero_le _, fun _ => rfl⟩⟩
    · simp only [List.cons.injEq, and_true] at hcs
      subst hcs
      obtain ⟨m, hml, hms, h3, h4, -⟩ := row_ints (w := w) (a := some x) (len := l) (cap := c) (zs := zs) (.inr ⟨x, rfl, hl', hm, by simpa using hz, hcell, hwz⟩)
      subst hml
      exact ⟨⟨z0, some x, c, m⟩, rfl, ⟨hms, h3, h4, fun e => by cases e⟩⟩

theorem gs_of {w : World} {rows : List (List Value)} (h : ∀ cs ∈ rows, ∃ g : Gr, cs = g.row ∧ Mem w g) : ∃ gs : List Gr, rows = gs.map Gr.row ∧ ∀ g ∈ gs, Mem w g := by
  induction rows with
  | nil => exact ⟨[], rfl, by simp⟩
  | cons c cs ih =>
    obtain ⟨p, rfl, hp⟩ := h c (by simp)
    obtain ⟨ps, rfl, hps⟩ := ih (fun x hx => h x (by simp [hx]))
    refine ⟨p :: ps, rfl, ?_⟩
    intro q hq
    rcases List.mem_cons.1 hq with rfl | hq
    · exact hp
    · exact hps q hq

theorem open_gs {r : Reach} {b0 : Nat} {v : Value} {d : DataW H} {ms : List MemPlace} {w : World}
    (ho : Value.okWide Try.prog w r b0 52 v) (ht : DataW.Trod enc Try.prog w 0 (fun _ => true) true 52 v d ms) :
    ∃ a n cap gs, v = .slice a n cap ∧ Deep w a n cap gs := by
  have hc : Try.prog.cellsOf 58 = 2 := by kernel_rfl
  have hnil : ∀ n c, v = .slice none n c → c = 0 := by
    intro n c e
    subst e
    obtain ⟨fuel, hf⟩ := ht
    rcases DataW.trod_slice Try.underlying52 hf with ⟨hc, _⟩ | ⟨ad, len, c', elems, rest, m, _, hc, _⟩
    · simp only [Value.cells, List.cons.injEq, Value.slice.injEq, and_true] at hc
      exact hc.2.2
    · simp only [Value.cells, List.cons.injEq, Value.slice.injEq, and_true] at hc
      cases hc.1
  obtain ⟨b, n, cb, rfl, hn, hm, rows, hrl, hrw, hrd⟩ := open_rows Try.underlying52 ho ht (by rw [hc]; decide)
  obtain ⟨qs, rfl, hqs⟩ := gs_of fun cs h => read_g (hrd cs h)
  rw [List.length_map] at hrl
  refine ⟨b, n, cb, qs, rfl, ⟨hrw.sl, hrl, hn, hm, fun e => ?_, hqs⟩⟩
  subst e
  exact hnil _ _ rfl
end
end Go.Proofs.Ytplgpbbghhlbjaa
