/- Texts laid together: CardPatch ShelfMath. -/
import Derived.Test.YtneolmnpebiifaaGreatDoorM15
import Derived.Test.YtneolmnpebiifaaGreatDoorM17
import Derived.Test.YtneolmnpebiifaaGreatDoorM5
section
/- Which patches and cards may be. -/
set_option linter.unusedSimpArgs false
set_option linter.unusedVariables false
namespace Go.Ofp
/-- Is a field of a patch one that may not be? -/
def badAt (m : Nat) (v : Vl) (i : Nat) : Bool := !v.ok || (decide (v.kind ≠ 0) && !m.testBit i)
def badF (m : Nat) (f : List Vl) (k : Nat) : Bool := (List.range k).any fun i => badAt m (f.getD i Vl.zero) i
/-- What is wrong with a patch. -/
def Pt.check (p : Pt) : Int :=
  if p.mask = 0 ∨ 511 < p.mask then 11 else if 65536 ≤ p.lab ∨ (p.lab ≠ 0 ∧ p.mask.testBit 8 = false) then 1 else if badF p.mask p.f 8 then 1 else 0
theorem badF_next (m : Nat) (f : List Vl) (k : Nat) : badF m f (k + 1) = (badF m f k || badAt m (f.getD k Vl.zero) k) := by
  unfold badF
  rw [List.range_succ, List.any_append]
  simp
theorem badF_of {m : Nat} {f : List Vl} {k n : Nat} (hk : k < n) (h : badAt m (f.getD k Vl.zero) k = true) : badF m f n = true := by
  unfold badF
  rw [List.any_eq_true]
  exact ⟨k, List.mem_range.2 hk, h⟩
/-- Which cards may be. -/
def Cd.ok (c : Cd) : Bool := decide (1 ≤ c.id ∧ c.id < 1073741824 ∧ 1 ≤ c.ver ∧ c.ver ≤ 1099511627776 ∧ c.lab < 65536) && c.f.all Vl.ok
/-- What is unlike in cards. -/
def Cd.unlike (a b : Cd) : List Nat := (List.range 8).filter fun i => decide (a.f.getD i Vl.zero ≠ b.f.getD i Vl.zero)
end Go.Ofp
namespace Go.Proofs.YtneolmnpebiifaaGreatDoor
open Go.RowKit Go.Ofp
set_option linter.unusedVariables false
set_option maxRecDepth 100000
set_option maxHeartbeats 4000000

theorem fl_index (f : List Vl) (hf : f.length = 8) (k : Nat) (v : Vl) (hv : f[k]? = some v) (W : World) : (Instr.index 40 (.agg (flRow f).toArray) (.int .i64 k)).run Tryz.prog W = .ok (.agg (vlRow v).toArray) W := by
  have hk : k < 8 := by
    have := (List.getElem?_eq_some_iff.1 hv).1
    omega
  obtain ⟨i, hi, -, hs, -⟩ := elem_value
  have p1 := run_part_row (P := Tryz.prog) (t := 39) (n := 3) (by kernel_rfl) (by kernel_rfl) (flRow f).toArray (k * 3) W
  have q1 := fl_at [] f k v hv
  simp only [List.nil_append, List.length_nil, Nat.zero_add] at q1
  rw [extract_list, q1] at p1
  unfold Instr.index
  simp [asIntOf, run_underlying Tryz.underlying40, sizeOf, typeInfo, hi, hs, p1]
  omega

theorem cp_main (p : Pt) (hg : p.f.length = 8) (hm : p.mask ≠ 0 ∧ p.mask ≤ 511) (hlab : p.lab < 65536) (hl2 : p.lab = 0 ∨ p.mask.testBit 8 = true) (w : World) :
    Calls Tryz.prog 69 #[.agg (ptRow p).toArray] w fun e w' => e = .returned (.int .i64 (if badF p.mask p.f 8 then 1 else 0)) ∧ Below w.heap.size w w' := by
  have hS := St.start w
  have ev := elem_value
  have cC := fun W : World => mcheck_any p.mask (by omega) W
  rw [decide_eq_true hm.2] at cC
  have cL := fun W : World => labels_any p.mask (by omega) W
  have cV := Lib.hid (fun (v : Vl) (W : World) => vcheck_any v W)
  obtain ⟨m, lab, f⟩ := p
  obtain ⟨hm1, hm2⟩ := hm
  simp only [ptRow] at hg hm1 hm2 hlab hl2 cC cL ⊢
  have z1 : ((m : Int) == 0) = false := by rw [beq_eq_false_iff_ne]; omega
  have z2 : ((lab : Int) / 65536 != 0) = false := by
    have : (lab : Int) / 65536 = 0 := by omega
    rw [this]
    rfl
  replace cC := Lib.hid cC
  have hfl : (flRow f).length = 24 := by rw [flRow_length, hg]
  have hg2 : ((Value.int .u32 m :: .int .u32 lab :: flRow f).toArray.toList.drop 2).take 24 = flRow f := List.take_of_length_le (Nat.le_of_eq hfl)
  have hl3 : ((lab : Int) != 0) = false ∨ ((lab : Int) != 0) = true ∧ m.testBit 8 = true := by
    by_cases h : lab = 0
    · subst h
      exact .inl rfl
    · exact .inr ⟨by rw [bne_iff_ne]; omega, hl2.resolve_left h⟩
  clear hl2
  obtain ⟨er, her⟩ : ∃ er : Int, (if badF m f 8 then 1 else 0) = er := ⟨_, rfl⟩
  rw [her]
  replace her := Lib.hid her
  rcases hl3 with y1 | ⟨y1, y2⟩
  · go_enter Tryz.func69, Tryz.ntmps69
    go_wp2_with (first
      | (go_at_call 111; (with_reducible refine (cC.out _).mono ?_); rintro _ _ ⟨rfl, rfl⟩)
      | (with_reducible refine wpList_box_st (L := []) hS rfl rfl rfl ?_; intro gp w1 hS1; clear hS; have hS := hS1; clear hS1)
      | ((with_reducible refine wpList_gload_st 0 hS rfl (by with_unfolding_all rfl) rfl rfl ?_ rfl ?_); focus (simp [scalarB, go_sem]; done))
      | ((with_reducible refine wpList_loadrow_st (n := 24) 0 hS rfl rfl rfl rfl ?_ (by kernel_rfl) hg2 hfl ?_); focus (simp [rowB, go_sem]; done)))
    clear cL cC z1 z2 hm1 hlab y1
    go_loopg [33] 8 (fun gk vx wr => ∃ k : Nat, k + gk = 8 ∧ vx = .int .i64 k ∧ Hid (badF m f k = false) ∧ St w [] [Ch.blk gp 42 (Value.int .u32 m :: .int .u32 lab :: flRow f).toArray] wr)
    case atStart => exact ⟨0, Nat.zero_add _, rfl, Lib.hid rfl, hS⟩
    case round =>
      obtain ⟨k, hkn, rfl, hr, hS1⟩ := hrel
      clear hS
      have hS := hS1
      clear hS1
      by_cases hlt : k < 8
      · have hvf : f[k]? = some (f.getD k Vl.zero) := by rw [List.getD_eq_getElem?_getD, List.getElem?_eq_getElem (by omega)]; rfl
        have hnext := badF_next m f k
        have hof := fun h => badF_of (m := m) (f := f) (k := k) (n := 8) hlt h
        rw [hr.out] at hnext
        simp only [Bool.false_or, badAt] at hnext hof
        generalize f.getD k Vl.zero = v at *
        have hix := fl_index f hg k v hvf
        clear hvf
        have cV2 := cV.out v
        have hE := fun W : World => neq_vl v Vl.zero W
        have hz : v.ok = true → (decide (v = Vl.zero) = decide (v.kind = 0)) := by
          intro h
          rw [decide_eq_decide]
          constructor
          · rintro rfl
            rfl
          · intro hk
            obtain ⟨a, b, c⟩ := v
            simp only at hk
            subst hk
            simp only [Vl.ok, if_true, decide_eq_true_eq] at h
            rw [h.1, ba_empty h.2]
            rfl
        have hsh : (bits .and .u32 ((m : Int) / 2 ^ k) 1 == 0) = !m.testBit k := by
          rw [show (m : Int) / 2 ^ k = ((m / 2 ^ k : Nat) : Int) by simp, show (1 : Int) = ((1 : Nat) : Int) by rfl, u32_and_nat (m / 2 ^ k) 1 (Nat.lt_of_le_of_lt (Nat.div_le_self _ _) (by omega)) (by decide), Nat.and_one_is_mod, Nat.testBit_eq_decide_div_mod_eq]
          rcases Nat.mod_two_eq_zero_or_one (m / 2 ^ k) with h | h <;> rw [h] <;> rfl
        cases hok : v.ok with
        | false =>
          rw [hok] at cV2 hof
          clear hz hE hsh hok
          obtain ⟨vk, vn, vs⟩ := v
          simp only [vlRow] at cV2 hix
          replace cV2 := Lib.hid cV2
          replace hof := Lib.hid (hof rfl)
          go_wp2_with (first
            | (go_at_call 113; (with_reducible refine (cV2.out _).mono ?_); rintro _ w9 ⟨rfl, hk9⟩; have hS1 := hS.keepB hk9; clear hk9 hS; have hS := hS1; clear hS1)
            | (with_reducible refine wpList_box_st hS rfl rfl rfl ?_; clear hS; intro g1 w1 hS) | (with_reducible refine wpList_box1_st hS rfl rfl rfl ?_; clear hS; intro g1 w1 hS) | (with_reducible refine al hS rfl rfl ?_; clear hS; intro g1 w1 hS) | (with_reducible refine wpList_alloc1_st hS rfl rfl (by assumption) rfl ?_; clear hS; intro g1 w1 hS) | (with_reducible refine ld 0 hS rfl rfl rfl rfl rfl ?_) | (with_reducible refine lda 0 hS rfl rfl rfl rfl ?_) | (with_reducible refine sto 0 hS rfl rfl rfl rfl rfl rfl ?_; clear hS; intro w1 hS) | (with_reducible refine stor 0 hS rfl rfl rfl rfl rfl rfl rfl rfl ?_; clear hS; intro w1 hS))
          go_ret
          exact ⟨by rw [← her.out, hof.out]; rfl, hS.below⟩
        | true =>
          rw [hok] at cV2 hof hnext
          rw [hz hok] at hE
          have hG := guard_vl
          by_cases hk0 : v.kind = 0
          · rw [decide_eq_true hk0] at hE
            have hnx : badF m f (k + 1) = false := by rw [hnext]; simp [hk0]
            clear hz hsh hok hk0 hof hnext
            obtain ⟨vk, vn, vs⟩ := v
            simp only [vlRow, Vl.zero] at cV2 hix hE
            replace cV2 := Lib.hid cV2
            replace hnx := Lib.hid hnx
            go_wp2_with (first
              | (go_at_call 113; (with_reducible refine (cV2.out _).mono ?_); rintro _ w9 ⟨rfl, hk9⟩; have hS1 := hS.keepB hk9; clear hk9 hS; have hS := hS1; clear hS1)
              | ((with_reducible refine wpList_gloadrow_st (n := 3) 0 hS rfl (by with_unfolding_all rfl) rfl rfl ?_ (by kernel_rfl) rfl rfl ?_); focus (simp [rowB, go_sem]; done))
              | (with_reducible refine wpList_box_st hS rfl rfl rfl ?_; clear hS; intro g1 w1 hS) | (with_reducible refine wpList_box1_st hS rfl rfl rfl ?_; clear hS; intro g1 w1 hS) | (with_reducible refine al hS rfl rfl ?_; clear hS; intro g1 w1 hS) | (with_reducible refine wpList_alloc1_st hS rfl rfl (by assumption) rfl ?_; clear hS; intro g1 w1 hS) | (with_reducible refine ld 0 hS rfl rfl rfl rfl rfl ?_) | (with_reducible refine lda 0 hS rfl rfl rfl rfl ?_) | (with_reducible refine sto 0 hS rfl rfl rfl rfl rfl rfl ?_; clear hS; intro w1 hS) | (with_reducible refine stor 0 hS rfl rfl rfl rfl rfl rfl rfl rfl ?_; clear hS; intro w1 hS))
            go_roundg (8 - (k + 1))
            case measure => omega
            case rel => exact ⟨k + 1, by omega, by go_num, hnx, hS.drop⟩
          · rw [decide_eq_false hk0] at hE
            cases hb : m.testBit k with
            | true =>
              have hnx : badF m f (k + 1) = false := by rw [hnext]; simp [hb]
              rw [hb] at hsh
              clear hz hok hk0 hof hnext hb
              obtain ⟨vk, vn, vs⟩ := v
              simp only [vlRow, Vl.zero] at cV2 hix hE
              replace cV2 := Lib.hid cV2
              replace hnx := Lib.hid hnx
              go_wp2_with (first
                | (go_at_call 113; (with_reducible refine (cV2.out _).mono ?_); rintro _ w9 ⟨rfl, hk9⟩; have hS1 := hS.keepB hk9; clear hk9 hS; have hS := hS1; clear hS1)
                | ((with_reducible refine wpList_gloadrow_st (n := 3) 0 hS rfl (by with_unfolding_all rfl) rfl rfl ?_ (by kernel_rfl) rfl rfl ?_); focus (simp [rowB, go_sem]; done))
                | ((with_reducible refine wpList_gload_st 1 hS rfl (by with_unfolding_all rfl) rfl rfl ?_ rfl ?_); focus (simp [scalarB, go_sem]; done))
                | (with_reducible refine wpList_box_st hS rfl rfl rfl ?_; clear hS; intro g1 w1 hS) | (with_reducible refine wpList_box1_st hS rfl rfl rfl ?_; clear hS; intro g1 w1 hS) | (with_reducible refine al hS rfl rfl ?_; clear hS; intro g1 w1 hS) | (with_reducible refine wpList_alloc1_st hS rfl rfl (by assumption) rfl ?_; clear hS; intro g1 w1 hS) | (with_reducible refine ld 0 hS rfl rfl rfl rfl rfl ?_) | (with_reducible refine lda 0 hS rfl rfl rfl rfl ?_) | (with_reducible refine sto 0 hS rfl rfl rfl rfl rfl rfl ?_; clear hS; intro w1 hS) | (with_reducible refine stor 0 hS rfl rfl rfl rfl rfl rfl rfl rfl ?_; clear hS; intro w1 hS))
              go_roundg (8 - (k + 1))
              case measure => omega
              case rel => exact ⟨k + 1, by omega, by go_num, hnx, hS.drop⟩
            | false =>
              have hof2 : badF m f 8 = true := hof (by simp [hb, hk0])
              rw [hb] at hsh
              clear hz hok hk0 hof hnext hb
              obtain ⟨vk, vn, vs⟩ := v
              simp only [vlRow, Vl.zero] at cV2 hix hE
              replace cV2 := Lib.hid cV2
              replace hof2 := Lib.hid hof2
              go_wp2_with (first
                | (go_at_call 113; (with_reducible refine (cV2.out _).mono ?_); rintro _ w9 ⟨rfl, hk9⟩; have hS1 := hS.keepB hk9; clear hk9 hS; have hS := hS1; clear hS1)
                | ((with_reducible refine wpList_gloadrow_st (n := 3) 0 hS rfl (by with_unfolding_all rfl) rfl rfl ?_ (by kernel_rfl) rfl rfl ?_); focus (simp [rowB, go_sem]; done))
                | ((with_reducible refine wpList_gload_st 1 hS rfl (by with_unfolding_all rfl) rfl rfl ?_ rfl ?_); focus (simp [scalarB, go_sem]; done))
                | (with_reducible refine wpList_box_st hS rfl rfl rfl ?_; clear hS; intro g1 w1 hS) | (with_reducible refine wpList_box1_st hS rfl rfl rfl ?_; clear hS; intro g1 w1 hS) | (with_reducible refine al hS rfl rfl ?_; clear hS; intro g1 w1 hS) | (with_reducible refine wpList_alloc1_st hS rfl rfl (by assumption) rfl ?_; clear hS; intro g1 w1 hS) | (with_reducible refine ld 0 hS rfl rfl rfl rfl rfl ?_) | (with_reducible refine lda 0 hS rfl rfl rfl rfl ?_) | (with_reducible refine sto 0 hS rfl rfl rfl rfl rfl rfl ?_; clear hS; intro w1 hS) | (with_reducible refine stor 0 hS rfl rfl rfl rfl rfl rfl rfl rfl ?_; clear hS; intro w1 hS))
              go_ret
              exact ⟨by rw [← her.out, hof2.out]; rfl, hS.below⟩
      · obtain rfl : k = 8 := by omega
        go_wp2_with fail
        go_ret
        exact ⟨by rw [← her.out, hr.out]; rfl, hS.below⟩
  · rw [y2] at cL
    replace cL := Lib.hid cL
    go_enter Tryz.func69, Tryz.ntmps69
    go_wp2_with (first
      | (go_at_call 111; (with_reducible refine (cC.out _).mono ?_); rintro _ _ ⟨rfl, rfl⟩)
      | (go_at_call 112; (with_reducible refine (cL.out _).mono ?_); rintro _ _ ⟨rfl, rfl⟩)
      | (with_reducible refine wpList_box_st (L := []) hS rfl rfl rfl ?_; intro gp w1 hS1; clear hS; have hS := hS1; clear hS1)
      | ((with_reducible refine wpList_gload_st 0 hS rfl (by with_unfolding_all rfl) rfl rfl ?_ rfl ?_); focus (simp [scalarB, go_sem]; done))
      | ((with_reducible refine wpList_loadrow_st (n := 24) 0 hS rfl rfl rfl rfl ?_ (by kernel_rfl) hg2 hfl ?_); focus (simp [rowB, go_sem]; done)))
    clear y2
    clear cL cC z1 z2 hm1 hlab y1
    go_loopg [33] 8 (fun gk vx wr => ∃ k : Nat, k + gk = 8 ∧ vx = .int .i64 k ∧ Hid (badF m f k = false) ∧ St w [] [Ch.blk gp 42 (Value.int .u32 m :: .int .u32 lab :: flRow f).toArray] wr)
    case atStart => exact ⟨0, Nat.zero_add _, rfl, Lib.hid rfl, hS⟩
    case round =>
      obtain ⟨k, hkn, rfl, hr, hS1⟩ := hrel
      clear hS
      have hS := hS1
      clear hS1
      by_cases hlt : k < 8
      · have hvf : f[k]? = some (f.getD k Vl.zero) := by rw [List.getD_eq_getElem?_getD, List.getElem?_eq_getElem (by omega)]; rfl
        have hnext := badF_next m f k
        have hof := fun h => badF_of (m := m) (f := f) (k := k) (n := 8) hlt h
        rw [hr.out] at hnext
        simp only [Bool.false_or, badAt] at hnext hof
        generalize f.getD k Vl.zero = v at *
        have hix := fl_index f hg k v hvf
        clear hvf
        have cV2 := cV.out v
        have hE := fun W : World => neq_vl v Vl.zero W
        have hz : v.ok = true → (decide (v = Vl.zero) = decide (v.kind = 0)) := by
          intro h
          rw [decide_eq_decide]
          constructor
          · rintro rfl
            rfl
          · intro hk
            obtain ⟨a, b, c⟩ := v
            simp only at hk
            subst hk
            simp only [Vl.ok, if_true, decide_eq_true_eq] at h
            rw [h.1, ba_empty h.2]
            rfl
        have hsh : (bits .and .u32 ((m : Int) / 2 ^ k) 1 == 0) = !m.testBit k := by
          rw [show (m : Int) / 2 ^ k = ((m / 2 ^ k : Nat) : Int) by simp, show (1 : Int) = ((1 : Nat) : Int) by rfl, u32_and_nat (m / 2 ^ k) 1 (Nat.lt_of_le_of_lt (Nat.div_le_self _ _) (by omega)) (by decide), Nat.and_one_is_mod, Nat.testBit_eq_decide_div_mod_eq]
          rcases Nat.mod_two_eq_zero_or_one (m / 2 ^ k) with h | h <;> rw [h] <;> rfl
        cases hok : v.ok with
        | false =>
          rw [hok] at cV2 hof
          clear hz hE hsh hok
          obtain ⟨vk, vn, vs⟩ := v
          simp only [vlRow] at cV2 hix
          replace cV2 := Lib.hid cV2
          replace hof := Lib.hid (hof rfl)
          go_wp2_with (first
            | (go_at_call 113; (with_reducible refine (cV2.out _).mono ?_); rintro _ w9 ⟨rfl, hk9⟩; have hS1 := hS.keepB hk9; clear hk9 hS; have hS := hS1; clear hS1)
            | (with_reducible refine wpList_box_st hS rfl rfl rfl ?_; clear hS; intro g1 w1 hS) | (with_reducible refine wpList_box1_st hS rfl rfl rfl ?_; clear hS; intro g1 w1 hS) | (with_reducible refine al hS rfl rfl ?_; clear hS; intro g1 w1 hS) | (with_reducible refine wpList_alloc1_st hS rfl rfl (by assumption) rfl ?_; clear hS; intro g1 w1 hS) | (with_reducible refine ld 0 hS rfl rfl rfl rfl rfl ?_) | (with_reducible refine lda 0 hS rfl rfl rfl rfl ?_) | (with_reducible refine sto 0 hS rfl rfl rfl rfl rfl rfl ?_; clear hS; intro w1 hS) | (with_reducible refine stor 0 hS rfl rfl rfl rfl rfl rfl rfl rfl ?_; clear hS; intro w1 hS))
          go_ret
          exact ⟨by rw [← her.out, hof.out]; rfl, hS.below⟩
        | true =>
          rw [hok] at cV2 hof hnext
          rw [hz hok] at hE
          have hG := guard_vl
          by_cases hk0 : v.kind = 0
          · rw [decide_eq_true hk0] at hE
            have hnx : badF m f (k + 1) = false := by rw [hnext]; simp [hk0]
            clear hz hsh hok hk0 hof hnext
            obtain ⟨vk, vn, vs⟩ := v
            simp only [vlRow, Vl.zero] at cV2 hix hE
            replace cV2 := Lib.hid cV2
            replace hnx := Lib.hid hnx
            go_wp2_with (first
              | (go_at_call 113; (with_reducible refine (cV2.out _).mono ?_); rintro _ w9 ⟨rfl, hk9⟩; have hS1 := hS.keepB hk9; clear hk9 hS; have hS := hS1; clear hS1)
              | ((with_reducible refine wpList_gloadrow_st (n := 3) 0 hS rfl (by with_unfolding_all rfl) rfl rfl ?_ (by kernel_rfl) rfl rfl ?_); focus (simp [rowB, go_sem]; done))
              | (with_reducible refine wpList_box_st hS rfl rfl rfl ?_; clear hS; intro g1 w1 hS) | (with_reducible refine wpList_box1_st hS rfl rfl rfl ?_; clear hS; intro g1 w1 hS) | (with_reducible refine al hS rfl rfl ?_; clear hS; intro g1 w1 hS) | (with_reducible refine wpList_alloc1_st hS rfl rfl (by assumption) rfl ?_; clear hS; intro g1 w1 hS) | (with_reducible refine ld 0 hS rfl rfl rfl rfl rfl ?_) | (with_reducible refine lda 0 hS rfl rfl rfl rfl ?_) | (with_reducible refine sto 0 hS rfl rfl rfl rfl rfl rfl ?_; clear hS; intro w1 hS) | (with_reducible refine stor 0 hS rfl rfl rfl rfl rfl rfl rfl rfl ?_; clear hS; intro w1 hS))
            go_roundg (8 - (k + 1))
            case measure => omega
            case rel => exact ⟨k + 1, by omega, by go_num, hnx, hS.drop⟩
          · rw [decide_eq_false hk0] at hE
            cases hb : m.testBit k with
            | true =>
              have hnx : badF m f (k + 1) = false := by rw [hnext]; simp [hb]
              rw [hb] at hsh
              clear hz hok hk0 hof hnext hb
              obtain ⟨vk, vn, vs⟩ := v
              simp only [vlRow, Vl.zero] at cV2 hix hE
              replace cV2 := Lib.hid cV2
              replace hnx := Lib.hid hnx
              go_wp2_with (first
                | (go_at_call 113; (with_reducible refine (cV2.out _).mono ?_); rintro _ w9 ⟨rfl, hk9⟩; have hS1 := hS.keepB hk9; clear hk9 hS; have hS := hS1; clear hS1)
                | ((with_reducible refine wpList_gloadrow_st (n := 3) 0 hS rfl (by with_unfolding_all rfl) rfl rfl ?_ (by kernel_rfl) rfl rfl ?_); focus (simp [rowB, go_sem]; done))
                | ((with_reducible refine wpList_gload_st 1 hS rfl (by with_unfolding_all rfl) rfl rfl ?_ rfl ?_); focus (simp [scalarB, go_sem]; done))
                | (with_reducible refine wpList_box_st hS rfl rfl rfl ?_; clear hS; intro g1 w1 hS) | (with_reducible refine wpList_box1_st hS rfl rfl rfl ?_; clear hS; intro g1 w1 hS) | (with_reducible refine al hS rfl rfl ?_; clear hS; intro g1 w1 hS) | (with_reducible refine wpList_alloc1_st hS rfl rfl (by assumption) rfl ?_; clear hS; intro g1 w1 hS) | (with_reducible refine ld 0 hS rfl rfl rfl rfl rfl ?_) | (with_reducible refine lda 0 hS rfl rfl rfl rfl ?_) | (with_reducible refine sto 0 hS rfl rfl rfl rfl rfl rfl ?_; clear hS; intro w1 hS) | (with_reducible refine stor 0 hS rfl rfl rfl rfl rfl rfl rfl rfl ?_; clear hS; intro w1 hS))
              go_roundg (8 - (k + 1))
              case measure => omega
              case rel => exact ⟨k + 1, by omega, by go_num, hnx, hS.drop⟩
            | false =>
              have hof2 : badF m f 8 = true := hof (by simp [hb, hk0])
              rw [hb] at hsh
              clear hz hok hk0 hof hnext hb
              obtain ⟨vk, vn, vs⟩ := v
              simp only [vlRow, Vl.zero] at cV2 hix hE
              replace cV2 := Lib.hid cV2
              replace hof2 := Lib.hid hof2
              go_wp2_with (first
                | (go_at_call 113; (with_reducible refine (cV2.out _).mono ?_); rintro _ w9 ⟨rfl, hk9⟩; have hS1 := hS.keepB hk9; clear hk9 hS; have hS := hS1; clear hS1)
                | ((with_reducible refine wpList_gloadrow_st (n := 3) 0 hS rfl (by with_unfolding_all rfl) rfl rfl ?_ (by kernel_rfl) rfl rfl ?_); focus (simp [rowB, go_sem]; done))
                | ((with_reducible refine wpList_gload_st 1 hS rfl (by with_unfolding_all rfl) rfl rfl ?_ rfl ?_); focus (simp [scalarB, go_sem]; done))
                | (with_reducible refine wpList_box_st hS rfl rfl rfl ?_; clear hS; intro g1 w1 hS) | (with_reducible refine wpList_box1_st hS rfl rfl rfl ?_; clear hS; intro g1 w1 hS) | (with_reducible refine al hS rfl rfl ?_; clear hS; intro g1 w1 hS) | (with_reducible refine wpList_alloc1_st hS rfl rfl (by assumption) rfl ?_; clear hS; intro g1 w1 hS) | (with_reducible refine ld 0 hS rfl rfl rfl rfl rfl ?_) | (with_reducible refine lda 0 hS rfl rfl rfl rfl ?_) | (with_reducible refine sto 0 hS rfl rfl rfl rfl rfl rfl ?_; clear hS; intro w1 hS) | (with_reducible refine stor 0 hS rfl rfl rfl rfl rfl rfl rfl rfl ?_; clear hS; intro w1 hS))
              go_ret
              exact ⟨by rw [← her.out, hof2.out]; rfl, hS.below⟩
      · obtain rfl : k = 8 := by omega
        go_wp2_with fail
        go_ret
        exact ⟨by rw [← her.out, hr.out]; rfl, hS.below⟩

theorem cp_any (p : Pt) (hg : p.f.length = 8) (hmm : p.mask < 4294967296) (hll : p.lab < 4294967296) (w : World) :
    Calls Tryz.prog 69 #[.agg (ptRow p).toArray] w fun e w' => e = .returned (.int .i64 p.check) ∧ Below w.heap.size w w' := by
  have hS := St.start w
  have cC := fun W : World => mcheck_any p.mask hmm W
  have cL := fun W : World => labels_any p.mask hmm W
  unfold Pt.check
  by_cases h1 : p.mask = 0 ∨ 511 < p.mask
  · rw [if_pos h1]
    obtain ⟨m, lab, f⟩ := p
    simp only [ptRow] at *
    rcases h1 with h1 | h1
    · have z1 : ((m : Int) == 0) = true := by rw [h1]; rfl
      clear cC cL h1
      go_enter Tryz.func69, Tryz.ntmps69
      go_wp2_with (first
        | (go_at_call 111; (with_reducible refine (cC.out _).mono ?_); rintro _ _ ⟨rfl, rfl⟩)
        | (go_at_call 112; (with_reducible refine (cL.out _).mono ?_); rintro _ _ ⟨rfl, rfl⟩)
        | (with_reducible refine wpList_box_st (L := []) hS rfl rfl rfl ?_; intro gp w1 hS1; clear hS; have hS := hS1; clear hS1)
        | ((with_reducible refine wpList_gload_st 0 hS rfl (by with_unfolding_all rfl) rfl rfl ?_ rfl ?_); focus (simp [scalarB, go_sem]; done)))
      go_ret
      exact ⟨rfl, hS.below⟩
    · have z1 : ((m : Int) == 0) = false := by rw [beq_eq_false_iff_ne]; omega
      rw [decide_eq_false (by omega)] at cC
      replace cC := Lib.hid cC
      clear cL h1
      go_enter Tryz.func69, Tryz.ntmps69
      go_wp2_with (first
        | (go_at_call 111; (with_reducible refine (cC.out _).mono ?_); rintro _ _ ⟨rfl, rfl⟩)
        | (go_at_call 112; (with_reducible refine (cL.out _).mono ?_); rintro _ _ ⟨rfl, rfl⟩)
        | (with_reducible refine wpList_box_st (L := []) hS rfl rfl rfl ?_; intro gp w1 hS1; clear hS; have hS := hS1; clear hS1)
        | ((with_reducible refine wpList_gload_st 0 hS rfl (by with_unfolding_all rfl) rfl rfl ?_ rfl ?_); focus (simp [scalarB, go_sem]; done)))
      go_ret
      exact ⟨rfl, hS.below⟩
  rw [if_neg h1]
  by_cases h2 : 65536 ≤ p.lab ∨ p.lab ≠ 0 ∧ p.mask.testBit 8 = false
  · rw [if_pos h2]
    rw [decide_eq_true (show p.mask ≤ 511 by omega)] at cC
    obtain ⟨m, lab, f⟩ := p
    simp only [ptRow] at *
    have z1 : ((m : Int) == 0) = false := by rw [beq_eq_false_iff_ne]; omega
    replace cC := Lib.hid cC
    by_cases h3 : 65536 ≤ lab
    · have z2 : ((lab : Int) / 65536 != 0) = true := by rw [bne_iff_ne]; omega
      clear cL h1 h2 h3
      go_enter Tryz.func69, Tryz.ntmps69
      go_wp2_with (first
        | (go_at_call 111; (with_reducible refine (cC.out _).mono ?_); rintro _ _ ⟨rfl, rfl⟩)
        | (go_at_call 112; (with_reducible refine (cL.out _).mono ?_); rintro _ _ ⟨rfl, rfl⟩)
        | (with_reducible refine wpList_box_st (L := []) hS rfl rfl rfl ?_; intro gp w1 hS1; clear hS; have hS := hS1; clear hS1)
        | ((with_reducible refine wpList_gload_st 0 hS rfl (by with_unfolding_all rfl) rfl rfl ?_ rfl ?_); focus (simp [scalarB, go_sem]; done)))
      go_ret
      exact ⟨rfl, hS.below⟩
    · have z2 : ((lab : Int) / 65536 != 0) = false := by
        have : (lab : Int) / 65536 = 0 := by omega
        rw [this]
        rfl
      obtain ⟨h4, h5⟩ := h2.resolve_left h3
      have z3 : ((lab : Int) != 0) = true := by rw [bne_iff_ne]; omega
      rw [h5] at cL
      replace cL := Lib.hid cL
      clear h1 h2 h3 h4 h5
      go_enter Tryz.func69, Tryz.ntmps69
      go_wp2_with (first
        | (go_at_call 111; (with_reducible refine (cC.out _).mono ?_); rintro _ _ ⟨rfl, rfl⟩)
        | (go_at_call 112; (with_reducible refine (cL.out _).mono ?_); rintro _ _ ⟨rfl, rfl⟩)
        | (with_reducible refine wpList_box_st (L := []) hS rfl rfl rfl ?_; intro gp w1 hS1; clear hS; have hS := hS1; clear hS1)
        | ((with_reducible refine wpList_gload_st 0 hS rfl (by with_unfolding_all rfl) rfl rfl ?_ rfl ?_); focus (simp [scalarB, go_sem]; done)))
      go_ret
      exact ⟨rfl, hS.below⟩
  · rw [if_neg h2]
    exact cp_main p hg ⟨by omega, by omega⟩ (by omega) (by
      by_cases h : p.lab = 0
      · exact .inl h
      · right
        cases hb : p.mask.testBit 8 with
        | true => rfl
        | false => exact absurd (.inr ⟨h, hb⟩) h2) w
end Go.Proofs.YtneolmnpebiifaaGreatDoor
end

section
/- Shelf: plain law. -/
set_option linter.unusedSimpArgs false
set_option linter.unusedVariables false
namespace Go.Ofp

/-- A card that was deleted. -/
structure Dd where
  id : Int
  ver : Int
  seq : Int
deriving DecidableEq
def ddRow (d : Dd) : List Value := [.int .i64 d.id, .int .i64 d.ver, .int .i64 d.seq]
theorem ddRow_len (d : Dd) : (ddRow d).length = 3 := rfl
/-- A shelf: the document's. -/
structure ShS where
  next : Int
  m : List Cd
  dead : List Dd
deriving DecidableEq
def ShS.new : ShS := ⟨1, [], []⟩
def ShS.get (s : ShS) (id : Int) : Cd × Int :=
  match lookC s.m id with
  | some c => (c, 0)
  | none => (Cd.none 0, if s.dead.any (fun d => decide (d.id = id)) then 9 else 6)
def putC (m : List Cd) (c : Cd) : List Cd := m.map fun d => if d.id = c.id then c else d
def dropC (m : List Cd) (id : Int) : List Cd := m.filter fun d => decide (d.id ≠ id)
def lastD (l : List Dd) : List Dd := if 40 < l.length then l.drop 1 else l
def ShS.add (s : ShS) (p : Pt) : ShS × Cd × Int :=
  if p.check ≠ 0 then (s, Cd.none 0, p.check) else if 48 ≤ s.m.length ∨ 1073741824 ≤ s.next then (s, Cd.none 0, 8) else (⟨s.next + 1, s.m ++ [p.fresh s.next], s.dead⟩, p.fresh s.next, 0)
def ShS.write (s : ShS) (id : Int) (p : Pt) : ShS × Cd × Int :=
  if p.check ≠ 0 then (s, Cd.none 0, p.check) else if (s.get id).2 ≠ 0 then (s, Cd.none 0, (s.get id).2) else if 1099511627776 ≤ (s.get id).1.ver then (s, Cd.none 0, 8)
  else (⟨s.next, putC s.m ((s.get id).1.merge p), s.dead⟩, (s.get id).1.merge p, 0)
/-- May a step be that of a card that is deleted now? -/
def ShS.seqBad (s : ShS) (q : Int) : Bool := decide (q < 0) || decide (1099511627776 < q) || (decide (0 < s.dead.length) && decide (q < (s.dead.getLast?.map Dd.seq).getD 0))
def ShS.drop (s : ShS) (id q : Int) : ShS × Int :=
  if (s.get id).2 ≠ 0 then (s, (s.get id).2) else if s.seqBad q = true then (s, 1) else (⟨s.next, dropC s.m id, lastD (s.dead ++ [⟨id, (s.get id).1.ver, q⟩])⟩, 0)
def ShS.trim (s : ShS) (q : Int) : ShS := ⟨s.next, s.m, s.dead.filter fun d => decide (q < d.seq)⟩

theorem merge_id (c : Cd) (p : Pt) : (c.merge p).id = c.id := rfl
theorem fresh_id (p : Pt) (i : Int) : (p.fresh i).id = i := rfl
theorem fresh_ver (p : Pt) (i : Int) : (p.fresh i).ver = 1 := rfl
theorem merge_f (c : Cd) (p : Pt) : (c.merge p).f.length = c.f.length := putF_length _ _ _
theorem fresh_f (p : Pt) (i : Int) : (p.fresh i).f.length = 8 := (merge_f _ _).trans rfl

theorem lookC_cons (d : Cd) (r : List Cd) (i : Int) : lookC (d :: r) i = if d.id = i then some d else lookC r i := by
  unfold lookC
  rw [List.find?_cons]
  by_cases h : d.id = i <;> simp [h]
theorem lookC_putC (c : Cd) (i : Int) : ∀ m : List Cd, lookC (putC m c) i = if i = c.id then (lookC m i).map fun _ => c else lookC m i
  | [] => by simp [lookC, putC]
  | d :: r => by
    have ih := lookC_putC c i r
    unfold putC at ih ⊢
    rw [List.map_cons, lookC_cons, lookC_cons, ih]
    by_cases h1 : d.id = c.id <;> by_cases h2 : i = c.id
    · subst h2; simp [h1]
    · have : ¬ c.id = i := fun h => h2 h.symm
      have h3 : ¬ d.id = i := fun h => h2 (h.symm.trans h1)
      simp [h1, h2, this]
    · subst h2; simp [h1]
    · simp [h1, h2]
theorem lookC_dropC (k i : Int) : ∀ m : List Cd, lookC (dropC m k) i = if i = k then none else lookC m i
  | [] => by simp [lookC, dropC]
  | d :: r => by
    have ih := lookC_dropC k i r
    unfold dropC at ih ⊢
    rw [List.filter_cons, lookC_cons]
    by_cases h1 : d.id = k
    · rw [if_neg (by simp [h1]), ih]
      by_cases h2 : i = k
      · simp [h2]
      · have : ¬ d.id = i := fun h => h2 (h.symm.trans h1)
        simp [h2, this]
    · rw [if_pos (by simp [h1]), lookC_cons, ih]
      by_cases h2 : i = k
      · subst h2; simp [h1]
      · simp [h2]
theorem cdM_putC (row : Cd → List Value) {m : List Cd} {c : Cd} (h : (lookC m c.id).isSome = true) : cdM row (putC m c) = putM (cdM row m) c.id (.agg (row c).toArray) := by
  funext i
  unfold cdM putM
  rw [lookC_putC]
  by_cases e : i = c.id
  · subst e
    rw [if_pos rfl, if_pos rfl]
    cases hl : lookC m c.id with
    | none => rw [hl] at h; cases h
    | some d => rfl
  · rw [if_neg e, if_neg e]
theorem cdM_dropC (row : Cd → List Value) (m : List Cd) (k : Int) : cdM row (dropC m k) = delM (cdM row m) k := by
  funext i
  unfold cdM delM
  rw [lookC_dropC]
  by_cases e : i = k <;> simp [e]
theorem putC_length (m : List Cd) (c : Cd) : (putC m c).length = m.length := List.length_map _
theorem dropC_length (m : List Cd) (k : Int) : (dropC m k).length ≤ m.length := List.length_filter_le _ _
theorem putC_ris {m : List Cd} (h : RisC m) (c : Cd) : RisC (putC m c) := by
  unfold RisC putC at *
  rw [List.pairwise_map]
  refine h.imp fun {a b} hab => ?_
  by_cases h1 : a.id = c.id <;> by_cases h2 : b.id = c.id
  · omega
  · rw [if_pos h1, if_neg h2]; omega
  · rw [if_neg h1, if_pos h2]; omega
  · rw [if_neg h1, if_neg h2]; exact hab
theorem dropC_ris {m : List Cd} (h : RisC m) (k : Int) : RisC (dropC m k) := List.Pairwise.filter _ h
theorem snoc_ris {m : List Cd} (h : RisC m) {c : Cd} (hc : ∀ d ∈ m, d.id < c.id) : RisC (m ++ [c]) := by
  unfold RisC at *
  rw [List.pairwise_append]
  exact ⟨h, by simp, fun a ha b hb => by simp at hb; subst hb; exact hc a ha⟩
/-- The first card of a number: its place. -/
def placeC : List Cd → Int → Nat
  | [], _ => 0
  | c :: r, id => if c.id = id then 0 else placeC r id + 1
theorem placeC_lookC : ∀ (m : List Cd) (id : Int), m[placeC m id]? = lookC m id
  | [], _ => rfl
  | c :: r, id => by
    rw [lookC_cons]
    unfold placeC
    by_cases h : c.id = id
    · simp [h]
    · rw [if_neg h, if_neg h]; exact placeC_lookC r id
theorem placeC_lt {m : List Cd} {id : Int} : placeC m id < m.length ↔ (lookC m id).isSome = true := by
  rw [← placeC_lookC]
  by_cases h : placeC m id < m.length
  · simp [h]
  · simp [h, List.getElem?_eq_none (Nat.le_of_not_lt h)]
theorem set_putC : ∀ {m : List Cd} {c : Cd}, RisC m → m.set (placeC m c.id) c = putC m c
  | [], c, _ => rfl
  | d :: r, c, h => by
    obtain ⟨h1, h2⟩ := List.pairwise_cons.1 h
    unfold placeC putC
    by_cases e : d.id = c.id
    · rw [if_pos e, List.set_cons_zero, List.map_cons, if_pos e]
      congr 1
      symm
      refine (List.map_congr_left fun x hx => ?_).trans (List.map_id _)
      have := h1 x hx
      rw [if_neg (by omega)]
      rfl
    · rw [if_neg e, List.set_cons_succ, List.map_cons, if_neg e]
      congr 1
      exact set_putC h2
theorem cut_dropC : ∀ {m : List Cd} {id : Int}, RisC m → m.take (placeC m id) ++ m.drop (placeC m id + 1) = dropC m id
  | [], id, _ => rfl
  | d :: r, id, h => by
    obtain ⟨h1, h2⟩ := List.pairwise_cons.1 h
    unfold placeC dropC
    by_cases e : d.id = id
    · rw [if_pos e, List.filter_cons, if_neg (by simp [e])]
      simp only [List.take_zero, List.nil_append, Nat.zero_add, List.drop_succ_cons, List.drop_zero]
      symm
      refine List.filter_eq_self.2 fun x hx => ?_
      have := h1 x hx
      simp only [decide_eq_true_eq]
      omega
    · rw [if_neg e, List.filter_cons, if_pos (by simp [e]), List.take_succ_cons, List.drop_succ_cons, List.cons_append]
      congr 1
      exact cut_dropC h2
/-- What a shelf keeps. -/
structure ShOk (s : ShS) : Prop where
  ris : RisC s.m
  len : s.m.length ≤ 48
  fl : ∀ c ∈ s.m, c.f.length = 8
  id : ∀ c ∈ s.m, 1 ≤ c.id ∧ c.id < s.next
  ver : ∀ c ∈ s.m, 0 ≤ c.ver ∧ c.ver ≤ 1099511627776
  lab : ∀ c ∈ s.m, c.lab < 4294967296
  next : 1 ≤ s.next ∧ s.next ≤ 1073741824
  dlen : s.dead.length ≤ 40
  dd : ∀ d ∈ s.dead, 0 ≤ d.seq ∧ d.seq ≤ 1099511627776 ∧ 0 ≤ d.ver ∧ d.ver ≤ 1099511627776 ∧ 1 ≤ d.id ∧ d.id < 1073741824
theorem ShOk.new : ShOk ShS.new := ⟨List.Pairwise.nil, by decide, by simp [ShS.new], by simp [ShS.new], by simp [ShS.new], by simp [ShS.new], by simp [ShS.new], by decide, by simp [ShS.new]⟩
theorem look_mem {m : List Cd} {id : Int} {c : Cd} (h : lookC m id = some c) : c ∈ m ∧ c.id = id := by
  unfold lookC at h
  exact ⟨List.mem_of_find?_eq_some h, by simpa using List.find?_some h⟩
theorem get_ok {s : ShS} {id : Int} (h : (s.get id).2 = 0) : lookC s.m id = some (s.get id).1 := by
  unfold ShS.get at *
  cases hl : lookC s.m id with
  | none => rw [hl] at h; dsimp only at h; split at h <;> omega
  | some c => rfl
theorem get_some {s : ShS} {id : Int} {c : Cd} (h : lookC s.m id = some c) : s.get id = (c, 0) := by
  unfold ShS.get
  rw [h]
theorem get_none {s : ShS} {id : Int} (h : lookC s.m id = none) : s.get id = (Cd.none 0, if s.dead.any (fun d => decide (d.id = id)) then 9 else 6) := by
  unfold ShS.get
  rw [h]
theorem get_f {s : ShS} (h : ShOk s) (id : Int) : (s.get id).1.f.length = 8 := by
  cases hl : lookC s.m id with
  | none => rw [get_none hl]; rfl
  | some c => rw [get_some hl]; exact h.fl c (look_mem hl).1
theorem ShOk.add {s : ShS} (h : ShOk s) (p : Pt) (hp : p.lab < 4294967296) : ShOk (s.add p).1 := by
  unfold ShS.add
  split
  · exact h
  · split
    · exact h
    · rename_i h2
      have hn : ∀ c ∈ s.m, c.id < (p.fresh s.next).id := fun c hc => (h.id c hc).2
      have h1 := h.next
      refine ⟨snoc_ris h.ris hn, ?_, ?_, ?_, ?_, ?_, ?_, h.dlen, h.dd⟩
      · show (s.m ++ [p.fresh s.next]).length ≤ 48
        simp
        omega
      · intro c hc
        rcases List.mem_append.1 hc with hc | hc
        · exact h.fl c hc
        · simp at hc; subst hc; exact fresh_f _ _
      · intro c hc
        show 1 ≤ c.id ∧ c.id < s.next + 1
        rcases List.mem_append.1 hc with hc | hc
        · have := h.id c hc; omega
        · simp at hc; subst hc; rw [fresh_id]; omega
      · intro c hc
        rcases List.mem_append.1 hc with hc | hc
        · exact h.ver c hc
        · simp at hc; subst hc; rw [fresh_ver]; omega
      · intro c hc
        rcases List.mem_append.1 hc with hc | hc
        · exact h.lab c hc
        · simp at hc
          subst hc
          unfold Pt.fresh Cd.merge
          dsimp only
          split
          · exact hp
          · exact (by decide : (0 : Nat) < 4294967296)
      · show 1 ≤ s.next + 1 ∧ s.next + 1 ≤ 1073741824
        omega
theorem ShOk.write {s : ShS} (h : ShOk s) (id : Int) (p : Pt) (hp : p.lab < 4294967296) : ShOk (s.write id p).1 := by
  unfold ShS.write
  split
  · exact h
  · split
    · exact h
    · split
      · exact h
      · rename_i h1 h2 h3
        have hl := get_ok (Decidable.not_not.1 h2)
        generalize (s.get id).1 = c at *
        obtain ⟨hc, hid⟩ := look_mem hl
        have hm : ∀ (Q : Cd → Prop), (∀ c ∈ s.m, Q c) → Q (c.merge p) → ∀ x ∈ putC s.m (c.merge p), Q x := fun Q k1 k2 x hx => by
          unfold putC at hx
          obtain ⟨d, hd, rfl⟩ := List.mem_map.1 hx
          split
          · exact k2
          · exact k1 d hd
        refine ⟨putC_ris h.ris _, by show (putC _ _).length ≤ 48; rw [putC_length]; exact h.len, hm _ h.fl (by rw [merge_f]; exact h.fl c hc), hm _ h.id (h.id c hc), hm _ h.ver ?_, hm _ h.lab ?_, h.next, h.dlen, h.dd⟩
        · have := h.ver c hc
          unfold Cd.merge
          dsimp only
          split <;> omega
        · unfold Cd.merge
          dsimp only
          split
          · exact hp
          · exact h.lab c hc
theorem ShOk.drop {s : ShS} (h : ShOk s) (id q : Int) : ShOk (s.drop id q).1 := by
  unfold ShS.drop
  split
  · exact h
  · split
    · exact h
    · rename_i h2 h3
      have hl := get_ok (Decidable.not_not.1 h2)
      generalize (s.get id).1 = c at *
      obtain ⟨hc, hid⟩ := look_mem hl
      have hs : ∀ x ∈ dropC s.m id, x ∈ s.m := fun x hx => (List.mem_filter.1 hx).1
      have hq : 0 ≤ q ∧ q ≤ 1099511627776 := by
        unfold ShS.seqBad at h3
        simp only [Bool.or_eq_true, decide_eq_true_eq, not_or] at h3
        omega
      have h4 := h.ver c hc
      have h5 := h.id c hc
      have h6 := h.next
      refine ⟨dropC_ris h.ris _, Nat.le_trans (dropC_length _ _) h.len, fun x hx => h.fl x (hs x hx), fun x hx => h.id x (hs x hx), fun x hx => h.ver x (hs x hx), fun x hx => h.lab x (hs x hx), h.next, ?_, ?_⟩
      · show (lastD _).length ≤ 40
        have := h.dlen
        unfold lastD
        split
        · simp; omega
        · omega
      · have k : ∀ d ∈ s.dead ++ [⟨id, c.ver, q⟩], 0 ≤ d.seq ∧ d.seq ≤ 1099511627776 ∧ 0 ≤ d.ver ∧ d.ver ≤ 1099511627776 ∧ 1 ≤ d.id ∧ d.id < 1073741824 := fun d hd => by
          rcases List.mem_append.1 hd with hd | hd
          · exact h.dd d hd
          · simp at hd
            subst hd
            dsimp only
            omega
        intro d hd
        refine k d ?_
        have hd' : d ∈ lastD (s.dead ++ [⟨id, c.ver, q⟩]) := hd
        unfold lastD at hd'
        split at hd'
        · exact List.mem_of_mem_drop hd'
        · exact hd'
theorem ShOk.trim {s : ShS} (h : ShOk s) (q : Int) : ShOk (s.trim q) :=
  ⟨h.ris, h.len, h.fl, h.id, h.ver, h.lab, h.next, Nat.le_trans (List.length_filter_le _ _) h.dlen, fun d hd => h.dd d (List.mem_filter.1 hd).1⟩
end Go.Ofp
end
