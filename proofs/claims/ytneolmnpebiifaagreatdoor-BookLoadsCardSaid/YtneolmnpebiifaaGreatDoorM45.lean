import Derived.ChangeSlices
import Derived.Test.YtneolmnpebiifaaGreatDoorM41
set_option linter.unusedVariables false
set_option linter.unusedSimpArgs false
set_option maxRecDepth 100000
section
namespace Go.Ofp
open Go.RowKit
section
variable {H : Type} {enc : TypeId × Value → H} {P : Program} {w : World} {base : Nat} {spare : Nat → Bool} {held : Bool} {t e : TypeId}
theorem rows_trod2 {cs0 : List Value} {fuel : Nat} {x0 : DataW H × List MemPlace} (ht : P.underlying t = some (.slice e)) (hf : DataW.trod enc P w base spare held fuel t cs0 = some x0) (hp : 0 < P.cellsOf e) :
 ∃ a n cap, cs0 = [.slice a n cap] ∧ n ≤ cap ∧ cap ≤ maxLen ∧ ∃ rows, rows.length = n ∧ Rw w a (P.cellsOf e) rows ∧ ∀ cs ∈ rows, ∃ fuel x, DataW.trod enc P w base spare held fuel e cs = some x := by
 rcases DataW.trod_slice ht hf with ⟨hc, _⟩ | ⟨ad, n, cap, elems, rest, m, _, hc, _, _, hlc, hcm, hle, hel, _, _⟩
 · subst hc
   exact ⟨none, 0, 0, rfl, Nat.le_refl _, Nat.zero_le _, [], rfl, ⟨Sl.nil _ _, by simp⟩, by simp⟩
 · subst hc
   have key : ∀ i, i < n → ∃ cs x, w.cells? base (ad.add (i * P.cellsOf e)) (P.cellsOf e) = some cs ∧ DataW.trod enc P w base spare held m e cs = some x := by
    intro i hi
    have h1 := hel i hi
    rw [List.getElem?_eq_getElem (by omega)] at h1
    obtain ⟨cs, h2, h3⟩ := Option.bind_eq_some_iff.1 h1
    exact ⟨cs, _, h2, h3⟩
   have cell : ∀ i (hi : i < n) cs, w.cells? base (ad.add (i * P.cellsOf e)) (P.cellsOf e) = some cs → cs.length = P.cellsOf e ∧ ∀ t, t < P.cellsOf e → w.cell? ((ad.add (i * P.cellsOf e)).add t) = cs[t]? := by
    intro i hi cs h1
    unfold World.cells? at h1
    split at h1
    · exact ⟨by simpa using mapM_some_length h1, fun t ht => mapM_some_get h1 t t (by simp [ht])⟩
    · cases h1
   refine ⟨some ad, n, cap, rfl, hlc, hcm, (List.range n).map fun i => (w.cells? base (ad.add (i * P.cellsOf e)) (P.cellsOf e)).getD [], by simp, ?_, ?_⟩
   · have heach : ∀ r ∈ (List.range n).map (fun i => (w.cells? base (ad.add (i * P.cellsOf e)) (P.cellsOf e)).getD []), r.length = P.cellsOf e := by
      intro r hr
      obtain ⟨i, hi, rfl⟩ := List.mem_map.1 hr
      rw [List.mem_range] at hi
      obtain ⟨cs, x, h1, _⟩ := key i hi
      rw [h1]
      exact (cell i hi cs h1).1
     refine ⟨?_, heach⟩
     by_cases hn : n = 0
     · subst hn
       exact Sl.nil _ _
     · obtain ⟨b, off, spot⟩ := ad
       have hs : spot = none := by
        obtain ⟨cs, x, h1, _⟩ := key 0 (by omega)
        obtain ⟨hl, hc⟩ := cell 0 (by omega) cs h1
        have := hc 0 hp
        rw [List.getElem?_eq_getElem (by omega)] at this
        simp only [Nat.zero_mul, Addr.add, if_true] at this
        exact World.cell?_spot this
       subst hs
       intro q hq
       have hfl : ∀ (rs : List (List Value)), (∀ r ∈ rs, r.length = P.cellsOf e) → rs.flatten.length = rs.length * P.cellsOf e := by
        intro rs
        induction rs with
        | nil => intro _; simp
        | cons r rs ih => intro h; rw [List.flatten_cons, List.length_append, ih (fun x hx => h x (by simp [hx])), h r (by simp), List.length_cons, Nat.add_mul]; omega
       have hq2 := hq
       rw [hfl _ heach, List.length_map, List.length_range] at hq2
       have hj : q / P.cellsOf e < n := Nat.div_lt_of_lt_mul (by rw [Nat.mul_comm]; exact hq2)
       have ht : q % P.cellsOf e < P.cellsOf e := Nat.mod_lt _ hp
       have hqe : q / P.cellsOf e * P.cellsOf e + q % P.cellsOf e = q := by rw [Nat.mul_comm]; exact Nat.div_add_mod q _
       obtain ⟨cs, x, h1, _⟩ := key _ hj
       obtain ⟨hl, hc⟩ := cell _ hj cs h1
       have hc' := hc _ ht
       have hget := flatten_get (P.cellsOf e) _ heach (q / P.cellsOf e) (q % P.cellsOf e) (by simpa using hj) ht
       rw [hqe] at hget
       simp only [List.getElem_map, List.getElem_range, h1, Option.getD_some] at hget
       refine ⟨b, off, rfl, ?_⟩
       rw [← List.getElem?_eq_getElem hq, hget, ← hc', Addr.add_lit, Addr.add_lit]
       congr 2
       omega
   · intro cs hcs
     obtain ⟨i, hi, rfl⟩ := List.mem_map.1 hcs
     rw [List.mem_range] at hi
     obtain ⟨cs, x, h1, h2⟩ := key i hi
     rw [h1]
     exact ⟨m, x, h2⟩
end
end Go.Ofp
end
section
namespace Go.Proofs.YtneolmnpebiifaaGreatDoor
open Go.RowKit Go.Ofp Go.WideShapes
section
variable {H : Type} {enc : TypeId × Value → H}
theorem read_g {w : World} {cs : List Value} (h : ∃ fuel x, DataW.trod enc Tryz.prog w 0 (fun _ => true) true fuel 82 cs = some x) : ∃ g : Gr, cs = g.row ∧ Mem w g := by
 obtain ⟨fuel, x, h⟩ := h
 obtain ⟨hl, hf⟩ := field_read Tryz.underlying82 h
 have hc : Tryz.prog.cellsOf 82 = 2 := by kernel_rfl
 have hc1 : Tryz.prog.cellsOf 46 = 1 := by kernel_rfl
 rw [hc] at hl
 obtain ⟨n0, y0, h0⟩ := hf 0 _ rfl
 obtain ⟨n1, y1, h1⟩ := hf 1 _ rfl
 obtain ⟨z0, e0, w0⟩ := field_int Tryz.underlying3 (by kernel_rfl) (by rw [hl]; decide) h0
 have h1' : DataW.trod enc Tryz.prog w 0 (fun _ => true) true n1 46 ((cs.drop 1).take (Tryz.prog.cellsOf 46)) = some y1 := h1
 rw [hc1] at h1'
 match cs, hl with
 | [c0, c1], _ =>
  simp at e0 h1'
  subst e0
  obtain ⟨d1, p1⟩ := y1
  rcases Go.ChangeShapes.open_ints Tryz.underlying46 Tryz.underlying3 (by kernel_rfl) h1' with ⟨hcs, _⟩ | ⟨x, l, c, zs, hcs, _, hl', hm, hz, _, hcell, hwz⟩
  · simp only [List.cons.injEq, and_true] at hcs
    subst hcs
    exact ⟨⟨z0, none, 0, []⟩, rfl, ⟨Sl.nil _ _, Nat.le_refl _, Nat.zero_le _, fun _ => rfl⟩⟩
  · simp only [List.cons.injEq, and_true] at hcs
    subst hcs
    obtain ⟨m, hml, hms, h3, h4, -⟩ := row_ints (w := w) (a := some x) (len := l) (cap := c) (zs := zs) (.inr ⟨x, rfl, hl', hm, by simpa using hz, hcell, hwz⟩)
    subst hml
    exact ⟨⟨z0, some x, c, m⟩, rfl, ⟨hms, h3, h4, fun e => by cases e⟩⟩
theorem gs_of {w : World} {rows : List (List Value)} (h : ∀ cs ∈ rows, ∃ g : Gr, cs = g.row ∧ Mem w g) : ∃ gs : List Gr, rows = gs.map Gr.row ∧ ∀ g ∈ gs, Mem w g := by
 induction rows with
 | nil => exact ⟨[], rfl, by simp⟩
 | cons c cs ih =>
  obtain ⟨p, rfl, hp⟩ := h c (by simp)
  obtain ⟨ps, rfl, hps⟩ := ih (fun x hx => h x (by simp [hx]))
  refine ⟨p :: ps, rfl, ?_⟩
  intro q hq
  rcases List.mem_cons.1 hq with rfl | hq
  · exact hp
  · exact hps q hq
end
end Go.Proofs.YtneolmnpebiifaaGreatDoor
end
section
namespace Go.Ofp
open Go.RowKit
section
variable {H : Type} {enc : TypeId × Value → H} {P : Program} {w : World} {base : Nat} {spare : Nat → Bool} {held : Bool} {t e : TypeId}
theorem nil_trod {n c fuel : Nat} {x0 : DataW H × List MemPlace} (ht : P.underlying t = some (.slice e)) (hf : DataW.trod enc P w base spare held fuel t [.slice none n c] = some x0) : c = 0 := by
 rcases DataW.trod_slice ht hf with ⟨hc, _⟩ | ⟨ad, len, c', elems, rest, m, _, hc, _⟩
 · simp only [List.cons.injEq, Value.slice.injEq, and_true] at hc
   exact hc.2.2
 · simp only [List.cons.injEq, Value.slice.injEq, and_true] at hc
   cases hc.1
end
end Go.Ofp
namespace Go.Proofs.YtneolmnpebiifaaGreatDoor
open Go.RowKit Go.Ofp Go.WideShapes
set_option maxHeartbeats 1000000
section
variable {H : Type} {enc : TypeId × Value → H}
theorem read_bd {w : World} {cs : List Value} (h : ∃ fuel x, DataW.trod enc Tryz.prog w 0 (fun _ => true) true fuel 31 cs = some x) : ∃ (b : BkS) (q : RV), cs = bdRow b q ∧ q.at b w ∧ I64 b.seq ∧ I64 b.sh.next := by
 obtain ⟨fuel, x, h⟩ := h
 obtain ⟨hl, hf⟩ := field_read Tryz.underlying31 h
 have hc : Tryz.prog.cellsOf 31 = 5 := by kernel_rfl
 have hcC : Tryz.prog.cellsOf 58 = 27 := by kernel_rfl
 have hcD : Tryz.prog.cellsOf 91 = 3 := by kernel_rfl
 have hcG : Tryz.prog.cellsOf 82 = 2 := by kernel_rfl
 have hsC : Tryz.prog.cellsOf 27 = 1 := by kernel_rfl
 have hsD : Tryz.prog.cellsOf 28 = 1 := by kernel_rfl
 have hsG : Tryz.prog.cellsOf 29 = 1 := by kernel_rfl
 rw [hc] at hl
 obtain ⟨n0, y0, h0⟩ := hf 0 _ rfl
 obtain ⟨n1, y1, h1⟩ := hf 1 _ rfl
 obtain ⟨n2, y2, h2⟩ := hf 2 _ rfl
 obtain ⟨n3, y3, h3⟩ := hf 3 _ rfl
 obtain ⟨n4, y4, h4⟩ := hf 4 _ rfl
 obtain ⟨z0, e0, w0⟩ := field_int Tryz.underlying3 (by kernel_rfl) (by rw [hl]; decide) h0
 obtain ⟨z1, e1, w1⟩ := field_int Tryz.underlying3 (by kernel_rfl) (by rw [hl]; decide) h1
 have h2' : DataW.trod enc Tryz.prog w 0 (fun _ => true) true n2 27 ((cs.drop 2).take (Tryz.prog.cellsOf 27)) = some y2 := h2
 have h3' : DataW.trod enc Tryz.prog w 0 (fun _ => true) true n3 28 ((cs.drop 3).take (Tryz.prog.cellsOf 28)) = some y3 := h3
 have h4' : DataW.trod enc Tryz.prog w 0 (fun _ => true) true n4 29 ((cs.drop 4).take (Tryz.prog.cellsOf 29)) = some y4 := h4
 rw [hsC] at h2'
 rw [hsD] at h3'
 rw [hsG] at h4'
 obtain ⟨ca, cn, cc, e2, hn, hm, rows, hrl, hrw, hrd⟩ := rows_trod2 Tryz.underlying27 h2' (by rw [hcC]; decide)
 obtain ⟨da, dn, dc, e3, hn3, hm3, rows3, hrl3, hrw3, hrd3⟩ := rows_trod2 Tryz.underlying28 h3' (by rw [hcD]; decide)
 obtain ⟨ga, gn, gc, e4, hn4, hm4, rows4, hrl4, hrw4, hrd4⟩ := rows_trod2 Tryz.underlying29 h4' (by rw [hcG]; decide)
 have h0c : ga = none → gc = 0 := by
  intro e
  rw [e4, e] at h4'
  exact nil_trod Tryz.underlying29 h4'
 obtain ⟨M, rfl, hM⟩ := lst_of (In := fun x : Cd => x.f.length = 8) fun cs h => by
  obtain ⟨x, hx, hi⟩ := read_cd (hrd cs h)
  exact ⟨x, hx, hi.len⟩
 obtain ⟨D, rfl, hD⟩ := lst_of (In := fun _ : Dd => True) fun cs h => by
  obtain ⟨x, hx, hi⟩ := read_dd (hrd3 cs h)
  exact ⟨x, hx, trivial⟩
 obtain ⟨gs, rfl, hgs⟩ := gs_of fun cs h => read_g (hrd4 cs h)
 rw [List.length_map] at hrl hrl3 hrl4
 subst hrl hrl3 hrl4
 refine ⟨⟨z0, ⟨z1, M, D⟩, keys gs⟩, ⟨ca, cc, da, dc, ga, gc, gs⟩, ?_, ⟨rfl, ⟨hrw.sl, rfl, hn, hm, hM⟩, ⟨hrw3.sl, rfl, hn3, hm3, hD⟩, ⟨hrw4.sl, rfl, hn4, hm4, h0c, hgs⟩⟩, wf_i64 w0, wf_i64 w1⟩
 rw [bdRow_eq]
 match cs, hl with
 | [c0, c1, c2, c3, c4], _ =>
  simp at e0 e1 e2 e3 e4
  simp [e0, e1, e2, e3, e4]
theorem open_bd {r : Reach} {b0 : Nat} {v : Value} {d : DataW H} {ms : List MemPlace} {w : World} (ho : Value.okWide Tryz.prog w r b0 31 v) (ht : DataW.Trod enc Tryz.prog w 0 (fun _ => true) true 31 v d ms) :
 ∃ (b : BkS) (q : RV), v = .agg (bdRow b q).toArray ∧ q.at b w ∧ I64 b.seq ∧ I64 b.sh.next := by
 unfold Value.okWide at ho
 rw [Tryz.underlying31] at ho
 obtain ⟨cs, rfl, _, _⟩ := ho
 obtain ⟨fuel, hf⟩ := ht
 obtain ⟨b, q, hc, hi⟩ := read_bd ⟨_, _, hf⟩
 refine ⟨b, q, ?_, hi⟩
 congr 1
 apply Array.ext'
 simpa [Value.cells] using hc
end
end Go.Proofs.YtneolmnpebiifaaGreatDoor
end
