/- The law CardTwice: all; two masks that came in, opened. -/
import Derived.Test.YtplgpbbghhlbjaaDoorCardTwice
import Derived.Test.YtplgpbbghhlbjaaDoorCardOpen
set_option linter.unusedSimpArgs false
set_option linter.unusedVariables false
namespace Go.Proofs.YtplgpbbghhlbjaaDoor
open Go.RowKit Go.Ofp Go.WideShapes
set_option linter.unusedVariables false
set_option maxRecDepth 100000
set_option maxHeartbeats 4000000
section
variable {H : Type} {enc : TypeId × Value → H} {w : World} {base : Nat} {spare : Nat → Bool} {held : Bool}
theorem read_m2 {cs : List Value} (h : ∃ fuel x, DataW.trod enc Tryd.prog w base spare held fuel 44 cs = some x) : ∃ m n : Nat, cs = [.int .u32 m, .int .u32 n] ∧ m < 4294967296 ∧ n < 4294967296 := by
  obtain ⟨fuel, x, h⟩ := h
  obtain ⟨xs, m, _, _, hl, hn, hi⟩ := DataW.trod_array Tryd.underlying44 h
  have hc : Tryd.prog.cellsOf 44 = 2 := by kernel_rfl
  have hv : Tryd.prog.cellsOf 22 = 1 := by kernel_rfl
  rw [hc] at hl
  have key : ∀ i, i < 2 → ∃ y, DataW.trod enc Tryd.prog w base spare held m 22 ((cs.drop i).take (Tryd.prog.cellsOf 22)) = some y := by
    intro i hi2
    have := hi i hi2
    rw [hv, List.getElem?_eq_getElem (by omega), Nat.mul_one] at this
    rw [hv]
    exact ⟨_, this⟩
  obtain ⟨y0, h0⟩ := key 0 (by decide)
  obtain ⟨y1, h1⟩ := key 1 (by decide)
  obtain ⟨z0, e0, w0⟩ := field_int Tryd.underlying22 (by kernel_rfl) (by rw [hl]; decide) h0
  obtain ⟨z1, e1, w1⟩ := field_int Tryd.underlying22 (by kernel_rfl) (by rw [hl]; decide) h1
  obtain ⟨x0, rfl, hx0⟩ := wf_u32n w0
  obtain ⟨x1, rfl, hx1⟩ := wf_u32n w1
  match cs, hl with
  | [c0, c1], _ =>
    simp at e0 e1
    exact ⟨x0, x1, by rw [e0, e1], hx0, hx1⟩
theorem open_m2 {r : Reach} {b0 : Nat} {v : Value} {d : DataW H} {ms : List MemPlace} (ho : Value.okWide Tryd.prog w r b0 44 v) (ht : DataW.Trod enc Tryd.prog w base spare held 44 v d ms) : ∃ m n : Nat, v = .agg #[.int .u32 m, .int .u32 n] ∧ m < 4294967296 ∧ n < 4294967296 := by
  unfold Value.okWide at ho
  rw [Tryd.underlying44] at ho
  obtain ⟨cs, rfl, _, _⟩ := ho
  obtain ⟨fuel, hf⟩ := ht
  obtain ⟨m, n, hc, h1, h2⟩ := read_m2 ⟨_, _, hf⟩
  refine ⟨m, n, ?_, h1, h2⟩
  congr 1
  apply Array.ext'
  simpa [Value.cells] using hc
end
theorem twice_any (a b : Cd) (m n : Nat) (hm : m < 4294967296) (hn : n < 4294967296) (ha : a.f.length = 8) (hb : b.f.length = 8) (hal : a.lab < 4294967296) (w : World) (h0 : 0 < w.heap.size) (ht : Sl w (some ⟨0, 0, none⟩) (tzTab.map vb)) :
    Calls Tryd.prog 5 #[.agg (cdRow a).toArray, .agg (cdRow b).toArray, .agg #[.int .u32 m, .int .u32 n]] w fun e w' => e = .returned (.bool true) ∧ Below w.heap.size w w' := by
  by_cases hall : largeF a.f = false ∧ largeF b.f = false ∧ m ≤ 511 ∧ n ≤ 511 ∧ 0 ≤ b.ver ∧ b.ver ≤ 1099511627776
  · obtain ⟨a1, a2, a3, a4, a5, a6⟩ := hall
    exact twice_main a b m n a3 a4 ha hb hal ⟨a5, a6⟩ a1 a2 w h0 ht
  have hS := St.start w
  have cL1 := fun W : World => large6_any a.f ha W
  have cL2 := fun W : World => large6_any b.f hb W
  have cC1 := fun W : World => rmcheck_any m W
  have cC2 := fun W : World => rmcheck_any n W
  have cA := fun (W : World) (hb : Below w.heap.size w W) => awake6_any W (Nat.lt_of_lt_of_le h0 hb.size) (ht.below hb)
  replace cA := Lib.hid cA
  obtain ⟨ib, vb', lb, g⟩ := b
  have hfl : (flRow a.f).length = 24 := by rw [flRow_length, ha]
  have hgl : (flRow g).length = 24 := by rw [flRow_length, hb]
  have hf3 : ((cdRow a).toArray.toList.drop 3).take 24 = flRow a.f := List.take_of_length_le (Nat.le_of_eq hfl)
  have hg3 : ((Value.int .i64 ib :: .int .i64 vb' :: .int .u32 lb :: flRow g).toArray.toList.drop 3).take 24 = flRow g := List.take_of_length_le (Nat.le_of_eq hgl)
  have hx : largeF a.f = true ∨ largeF a.f = false ∧ largeF g = true ∨ largeF a.f = false ∧ largeF g = false ∧ decide (m ≤ 511) = false ∨ largeF a.f = false ∧ largeF g = false ∧ decide (m ≤ 511) = true ∧ decide (n ≤ 511) = false ∨
      largeF a.f = false ∧ largeF g = false ∧ decide (m ≤ 511) = true ∧ decide (n ≤ 511) = true ∧ decide (vb' < 0) = true ∨ largeF a.f = false ∧ largeF g = false ∧ decide (m ≤ 511) = true ∧ decide (n ≤ 511) = true ∧ decide (vb' < 0) = false ∧ decide ((1099511627776 : Int) < vb') = true := by
    cases q1 : largeF a.f with
    | true => exact .inl rfl
    | false =>
      cases q2 : largeF g with
      | true => exact .inr (.inl ⟨rfl, rfl⟩)
      | false =>
        by_cases q3 : m ≤ 511
        · by_cases q4 : n ≤ 511
          · by_cases q5 : vb' < 0
            · exact .inr (.inr (.inr (.inr (.inl ⟨rfl, rfl, decide_eq_true q3, decide_eq_true q4, decide_eq_true q5⟩))))
            · refine .inr (.inr (.inr (.inr (.inr ⟨rfl, rfl, decide_eq_true q3, decide_eq_true q4, decide_eq_false q5, decide_eq_true ?_⟩))))
              exact Int.not_le.1 fun q6 => hall ⟨q1, q2, q3, q4, Int.not_lt.1 q5, q6⟩
          · exact .inr (.inr (.inr (.inl ⟨rfl, rfl, decide_eq_true q3, decide_eq_false q4⟩)))
        · exact .inr (.inr (.inl ⟨rfl, rfl, decide_eq_false q3⟩))
  simp only [cdRow] at *
  generalize largeF a.f = b1 at *
  generalize largeF g = b2 at *
  generalize decide (m ≤ 511) = b3 at *
  generalize decide (n ≤ 511) = b4 at *
  obtain ⟨ia, va, la, f⟩ := a
  generalize flRow f = FA at *
  generalize flRow g = FB at *
  clear hall ht ha hb hm hn
  replace hf3 := Lib.hid hf3
  replace hg3 := Lib.hid hg3
  rcases hx with rfl | ⟨rfl, rfl⟩ | ⟨rfl, rfl, rfl⟩ | ⟨rfl, rfl, rfl, rfl⟩ | ⟨rfl, rfl, rfl, rfl, d4⟩ | ⟨rfl, rfl, rfl, rfl, d4, d5⟩
  all_goals
    replace cL1 := Lib.hid cL1
    replace cL2 := Lib.hid cL2
    replace cC1 := Lib.hid cC1
    replace cC2 := Lib.hid cC2
    go_enter Tryd.func5, Tryd.ntmps5
    go_wp2_with (first
      | (go_at_call 8; (with_reducible refine (cL1.out _).mono ?_); rintro _ w9 ⟨rfl, hk9⟩; have hS1 := hS.keepB hk9; clear hk9 hS; have hS := hS1; clear hS1)
      | (go_at_call 8; (with_reducible refine (cL2.out _).mono ?_); rintro _ w9 ⟨rfl, hk9⟩; have hS1 := hS.keepB hk9; clear hk9 hS; have hS := hS1; clear hS1)
      | (go_at_call 9; (with_reducible refine (cC1.out _).mono ?_); rintro _ _ ⟨rfl, rfl⟩)
      | (go_at_call 9; (with_reducible refine (cC2.out _).mono ?_); rintro _ _ ⟨rfl, rfl⟩)
      | (go_at_call 10; (with_reducible refine (cA.out _ hS.below).mono ?_); rintro _ w9 ⟨rfl, hk9⟩; have hS1 := hS.keepB hk9; clear hk9 hS; have hS := hS1; clear hS1)
      | (with_reducible refine wpList_box_st (L := []) hS rfl rfl rfl ?_; intro ga w1 hS1; clear hS; have hS := hS1; clear hS1)
      | (with_reducible refine wpList_box_st (L := [_]) hS rfl rfl rfl ?_; intro gb w1 hS1; clear hS; have hS := hS1; clear hS1)
      | (with_reducible refine wpList_box_st (L := [_, _]) hS rfl rfl rfl ?_; intro gm w1 hS1; clear hS; have hS := hS1; clear hS1)
      | ((with_reducible refine wpList_gloadrow_st (n := 24) 2 hS rfl (by with_unfolding_all rfl) rfl rfl ?_ (by kernel_rfl) hf3.out hfl ?_); focus (simp [rowB, go_sem]; done))
      | ((with_reducible refine wpList_gloadrow_st (n := 24) 1 hS rfl (by with_unfolding_all rfl) rfl rfl ?_ (by kernel_rfl) hg3.out hgl ?_); focus (simp [rowB, go_sem]; done))
      | ((with_reducible refine wpList_gload_st 0 hS rfl (by with_unfolding_all rfl) rfl rfl ?_ rfl ?_); focus (simp [scalarB, go_sem]; done))
      | ((with_reducible refine wpList_gload_st 1 hS rfl (by with_unfolding_all rfl) rfl rfl ?_ rfl ?_); focus (simp [scalarB, go_sem]; done)))
    go_ret
    exact ⟨rfl, hS.below⟩
end Go.Proofs.YtplgpbbghhlbjaaDoor
