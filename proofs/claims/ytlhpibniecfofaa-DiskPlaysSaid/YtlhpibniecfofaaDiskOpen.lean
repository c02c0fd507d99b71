/- Acts of disks in memory, and opened. -/
import Derived.Test.YtlhpibniecfofaaDisk9
import Derived.Test.YtlhpibniecfofaaDiskKeep
import Derived.Test.YtlhpibniecfofaaOpen3
import Derived.ChangeSlices
set_option linter.unusedSimpArgs false
set_option linter.unusedVariables false
namespace Go.Proofs.Ytlhpibniecfofaa
open Go.RowKit Go.Ofp Go.WideShapes
set_option linter.unusedVariables false
set_option maxRecDepth 100000

theorem row_ints {w : World} {a : Option Addr} {len cap : Nat} {zs : List Int} (h : (a = none ∧ len = 0 ∧ cap = 0 ∧ zs = []) ∨
    ∃ x, a = some x ∧ len ≤ cap ∧ cap ≤ maxLen ∧ zs.length = cap ∧ (∀ i, i < zs.length → w.cell? (x.add i) = some (.int .i64 (zs.getD i 0))) ∧ ∀ n ∈ zs, (Lit.int .i64 n).wf = true) :
    ∃ l : List Int, l.length = len ∧ Sl w a (l.map vi) ∧ len ≤ cap ∧ cap ≤ maxLen ∧ ∀ x ∈ l, -9223372036854775808 ≤ x ∧ x ≤ 9223372036854775807 := by
  rcases h with ⟨rfl, rfl, rfl, rfl⟩ | ⟨x, rfl, h1, h2, h3, h4, h5⟩
  · exact ⟨[], rfl, Sl.nil _ _, Nat.le_refl _, Nat.zero_le _, by simp⟩
  · refine ⟨zs.take len, by rw [List.length_take]; omega, ?_, h1, h2, fun z hz => wf_i64 (h5 z (List.mem_of_mem_take hz))⟩
    intro i hi
    have hi' : i < len := by simp at hi; omega
    have hc := h4 i (by omega)
    obtain ⟨b, off, spot⟩ := x
    have hs : spot = none := by
      have := h4 0 (by omega)
      simpa [Addr.add] using World.cell?_spot this
    subst hs
    refine ⟨b, off, rfl, ?_⟩
    rw [Addr.add_lit] at hc
    rw [hc]
    simp [vi, List.getElem?_eq_getElem (show i < zs.length by omega)]

def acRow (x : Ac) : List Value := [.int .i64 x.kind, .int .i64 x.place, .int .i64 x.n, .int .u8 x.c.toNat, .slice x.a x.keep.length x.kc]
/-- What an act keeps lies there. -/
structure AcMem (w : World) (x : Ac) : Prop where
  sl : Sl w x.a (x.keep.map vi)
  le : x.keep.length ≤ x.kc
  cm : x.kc ≤ maxLen
  keep : ∀ z ∈ x.keep, -9223372036854775808 ≤ z ∧ z ≤ 9223372036854775807
  place : -9223372036854775808 ≤ x.place ∧ x.place ≤ 9223372036854775807
  n : -9223372036854775808 ≤ x.n ∧ x.n ≤ 9223372036854775807
theorem AcMem.below {w w' : World} {x : Ac} (h : AcMem w x) (hb : Below w.heap.size w w') : AcMem w' x := ⟨h.sl.below hb, h.le, h.cm, h.keep, h.place, h.n⟩
/-- Acts lie there. -/
structure Acs (w : World) (a : Option Addr) (n c : Nat) (l : List Ac) : Prop where
  sl : Sl w a (l.map acRow).flatten
  len : l.length = n
  le : n ≤ c
  cm : c ≤ maxLen
  mem : ∀ x ∈ l, AcMem w x
theorem Acs.below {w w' : World} {a : Option Addr} {n c : Nat} {l : List Ac} (h : Acs w a n c l) (hb : Below w.heap.size w w') : Acs w' a n c l :=
  ⟨h.sl.below hb, h.len, h.le, h.cm, fun x hx => (h.mem x hx).below hb⟩
theorem Acs.get {w : World} {a : Option Addr} {n c : Nat} {l : List Ac} (h : Acs w a n c l) (j : Nat) (hj : j < l.length) :
    ∃ b off, a = some ⟨b, off, none⟩ ∧ ∀ t v, (acRow l[j])[t]? = some v → w.cell? ⟨b, off + (j * 5 + t), none⟩ = some v := by
  have hr : Rw w a 5 (l.map acRow) := ⟨h.sl, fun r hr => by obtain ⟨p, _, rfl⟩ := List.mem_map.1 hr; rfl⟩
  obtain ⟨b, off, rfl, hc⟩ := hr.get j (by simpa using hj) (by decide)
  refine ⟨b, off, rfl, fun t v hv => hc t v ?_⟩
  rw [List.getElem_map]
  exact hv

section
variable {H : Type} {enc : TypeId × Value → H}
theorem read_ac {w : World} {cs : List Value} (h : ∃ fuel x, DataW.trod enc Try.prog w 0 (fun _ => true) true fuel 35 cs = some x) : ∃ x : Ac, cs = acRow x ∧ AcMem w x := by
  obtain ⟨fuel, x, h⟩ := h
  obtain ⟨hl, hf⟩ := field_read Try.underlying35 h
  have hc : Try.prog.cellsOf 35 = 5 := by kernel_rfl
  have hc1 : Try.prog.cellsOf 33 = 1 := by kernel_rfl
  rw [hc] at hl
  obtain ⟨n0, y0, h0⟩ := hf 0 _ rfl
  obtain ⟨n1, y1, h1⟩ := hf 1 _ rfl
  obtain ⟨n2, y2, h2⟩ := hf 2 _ rfl
  obtain ⟨n3, y3, h3⟩ := hf 3 _ rfl
  obtain ⟨n4, y4, h4⟩ := hf 4 _ rfl
  obtain ⟨z0, e0, w0⟩ := field_int Try.underlying3 (by kernel_rfl) (by rw [hl]; decide) h0
  obtain ⟨z1, e1, w1⟩ := field_int Try.underlying3 (by kernel_rfl) (by rw [hl]; decide) h1
  obtain ⟨z2, e2, w2⟩ := field_int Try.underlying3 (by kernel_rfl) (by rw [hl]; decide) h2
  obtain ⟨z3, e3, w3⟩ := field_int Try.underlying5 (by kernel_rfl) (by rw [hl]; decide) h3
  have h4' : DataW.trod enc Try.prog w 0 (fun _ => true) true n4 33 ((cs.drop 4).take (Try.prog.cellsOf 33)) = some y4 := h4
  rw [hc1] at h4'
  obtain ⟨c3, rfl⟩ := wf_u8 w3
  match cs, hl with
  | [c0, c1, c2, c3', c4], _ =>
    simp at e0 e1 e2 e3 h4'
    subst e0 e1 e2 e3
    obtain ⟨d4, p4⟩ := y4
    rcases Go.ChangeShapes.open_ints Try.underlying33 Try.underlying3 (by kernel_rfl) h4' with ⟨hcs, _⟩ | ⟨x, l, c, zs, hcs, _, hl', hm, hz, _, hcell, hwz⟩
    · simp only [List.cons.injEq, and_true] at hcs
      subst hcs
      exact ⟨⟨z0, z1, z2, c3, none, 0, []⟩, rfl, ⟨Sl.nil _ _, Nat.le_refl _, Nat.zero_le _, by simp, wf_i64 w1, wf_i64 w2⟩⟩
    · simp only [List.cons.injEq, and_true] at hcs
      subst hcs
      obtain ⟨m, hml, hms, h5, h6, h7⟩ := row_ints (w := w) (a := some x) (len := l) (cap := c) (zs := zs) (.inr ⟨x, rfl, hl', hm, by simpa using hz, hcell, hwz⟩)
      subst hml
      exact ⟨⟨z0, z1, z2, c3, some x, c, m⟩, rfl, ⟨hms, h5, h6, h7, wf_i64 w1, wf_i64 w2⟩⟩

theorem acs_of {w : World} {rows : List (List Value)} (h : ∀ cs ∈ rows, ∃ x : Ac, cs = acRow x ∧ AcMem w x) : ∃ l : List Ac, rows = l.map acRow ∧ ∀ x ∈ l, AcMem w x := by
  induction rows with
  | nil => exact ⟨[], rfl, by simp⟩
  | cons c cs ih =>
    obtain ⟨p, rfl, hp⟩ := h c (by simp)
    obtain ⟨ps, rfl, hps⟩ := ih (fun x hx => h x (by simp [hx]))
    refine ⟨p :: ps, rfl, ?_⟩
    intro q hq
    rcases List.mem_cons.1 hq with rfl | hq
    · exact hp
    · exact hps q hq

theorem open_acs {r : Reach} {b0 : Nat} {v : Value} {d : DataW H} {ms : List MemPlace} {w : World}
    (ho : Value.okWide Try.prog w r b0 22 v) (ht : DataW.Trod enc Try.prog w 0 (fun _ => true) true 22 v d ms) :
    ∃ a n cap l, v = .slice a n cap ∧ Acs w a n cap l := by
  have hc : Try.prog.cellsOf 35 = 5 := by kernel_rfl
  obtain ⟨b, n, cb, rfl, hn, hm, rows, hrl, hrw, hrd⟩ := open_rows Try.underlying22 ho ht (by rw [hc]; decide)
  obtain ⟨qs, rfl, hqs⟩ := acs_of fun cs h => read_ac (hrd cs h)
  rw [List.length_map] at hrl
  exact ⟨b, n, cb, qs, rfl, ⟨hrw.sl, hrl, hn, hm, hqs⟩⟩
end
end Go.Proofs.Ytlhpibniecfofaa
