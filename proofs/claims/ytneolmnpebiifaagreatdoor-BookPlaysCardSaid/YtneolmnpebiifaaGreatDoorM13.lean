import Derived.Test.YtneolmnpebiifaaGreatDoorM12
set_option linter.unusedVariables false
set_option linter.unusedSimpArgs false
set_option maxRecDepth 100000
section
namespace Go.Ofp
def Vl.ok (v : Vl) : Bool :=
 if v.kind = 0 then decide (v.n = 0 ∧ v.s.size = 0)
 else if v.kind = 1 then decide (0 ≤ v.n ∧ v.n ≤ 1099511627776 ∧ v.s.size = 0)
 else if v.kind = 2 then decide (v.n = 0 ∧ v.s.size ≤ 24)
 else false
theorem ba_empty {s : ByteArray} (h : s.size = 0) : s = ⟨#[]⟩ := by
 apply ByteArray.ext
 exact Array.eq_empty_of_size_eq_zero h
end Go.Ofp
namespace Go.Proofs.YtneolmnpebiifaaGreatDoor
open Go.RowKit Go.Ofp
set_option maxHeartbeats 4000000
theorem vcheck_any (v : Vl) (w : World) : Calls Tryz.prog 113 #[.agg (vlRow v).toArray] w fun e w' => e = .returned (.bool v.ok) ∧ Below w.heap.size w w' := by
 have hE := fun W : World => eql_vl v Vl.zero W
 have hG := guard_vl
 have hS := St.start w
 obtain ⟨k, n, s⟩ := v
 have hb : (s.toList == []) = decide (s.size = 0) := by
  rw [show ([] : List UInt8) = (⟨#[]⟩ : ByteArray).toList by rw [ByteArray.toList_eq], ba_beq]
  by_cases h : s.size = 0
  · rw [decide_eq_true h, decide_eq_true (ba_empty h)]
  · rw [decide_eq_false h, decide_eq_false (fun e => h (by rw [e]; rfl))]
 by_cases h0 : k = 0
 · subst h0
   have he : decide ((⟨0, n, s⟩ : Vl) = Vl.zero) = Vl.ok ⟨0, n, s⟩ := by
    unfold Vl.ok Vl.zero
    rw [if_pos rfl, decide_eq_decide]
    constructor
    · intro e
      cases e
      exact ⟨rfl, rfl⟩
    · rintro ⟨h1, h2⟩
      simp only at h1 h2
      rw [h1, ba_empty h2]
   rw [he] at hE
   generalize Vl.ok ⟨0, n, s⟩ = r at hE ⊢
   simp only [vlRow, Vl.zero] at hE ⊢
   clear hb he
   go_enter Tryz.func113, Tryz.ntmps113
   go_wp2_with (first | (with_reducible refine wpList_box_st hS rfl rfl rfl ?_; clear hS; intro g1 w1 hS) | (with_reducible refine ld 0 hS rfl rfl rfl rfl rfl ?_) | (with_reducible refine lda 0 hS rfl rfl rfl rfl ?_))
   go_ret
   exact ⟨rfl, hS.below⟩
 by_cases h1 : k = 1
 · subst h1
   have hr : Vl.ok ⟨1, n, s⟩ = decide (0 ≤ n ∧ n ≤ 1099511627776 ∧ s.size = 0) := by simp [Vl.ok]
   rw [hr]
   clear hE hG h0 hr
   simp only [vlRow]
   by_cases c1 : 0 ≤ n
   · by_cases c2 : n ≤ 1099511627776
     · by_cases c3 : s.size = 0
       · rw [decide_eq_true ⟨c1, c2, c3⟩]
         rw [decide_eq_true c3] at hb
         go_enter Tryz.func113, Tryz.ntmps113
         go_wp2_with (first | (with_reducible refine wpList_box_st hS rfl rfl rfl ?_; clear hS; intro g1 w1 hS) | (with_reducible refine ld 0 hS rfl rfl rfl rfl rfl ?_) | ((with_reducible refine wpList_gload_st 0 hS rfl (by with_unfolding_all rfl) rfl rfl ?_ rfl ?_); focus (simp [scalarB, go_sem]; done)))
         go_ret
         exact ⟨rfl, hS.below⟩
       · rw [decide_eq_false (fun h => c3 h.2.2)]
         rw [decide_eq_false c3] at hb
         go_enter Tryz.func113, Tryz.ntmps113
         go_wp2_with (first | (with_reducible refine wpList_box_st hS rfl rfl rfl ?_; clear hS; intro g1 w1 hS) | (with_reducible refine ld 0 hS rfl rfl rfl rfl rfl ?_) | ((with_reducible refine wpList_gload_st 0 hS rfl (by with_unfolding_all rfl) rfl rfl ?_ rfl ?_); focus (simp [scalarB, go_sem]; done)))
         go_ret
         exact ⟨rfl, hS.below⟩
     · rw [decide_eq_false (fun h => c2 h.2.1)]
       have d2 : decide (n ≤ 1099511627776) = false := decide_eq_false c2
       go_enter Tryz.func113, Tryz.ntmps113
       go_wp2_with (first | (with_reducible refine wpList_box_st hS rfl rfl rfl ?_; clear hS; intro g1 w1 hS) | (with_reducible refine ld 0 hS rfl rfl rfl rfl rfl ?_) | ((with_reducible refine wpList_gload_st 0 hS rfl (by with_unfolding_all rfl) rfl rfl ?_ rfl ?_); focus (simp [scalarB, go_sem]; done)))
       go_ret
       exact ⟨rfl, hS.below⟩
   · rw [decide_eq_false (fun h => c1 h.1)]
     have d1 : decide (0 ≤ n) = false := decide_eq_false c1
     go_enter Tryz.func113, Tryz.ntmps113
     go_wp2_with (first | (with_reducible refine wpList_box_st hS rfl rfl rfl ?_; clear hS; intro g1 w1 hS) | (with_reducible refine ld 0 hS rfl rfl rfl rfl rfl ?_))
     go_ret
     exact ⟨rfl, hS.below⟩
 by_cases h2 : k = 2
 · subst h2
   have hr : Vl.ok ⟨2, n, s⟩ = decide (n = 0 ∧ s.size ≤ 24) := by simp [Vl.ok]
   rw [hr]
   clear hE hG h0 h1 hr hb
   simp only [vlRow]
   by_cases c1 : n = 0
   · subst c1
     by_cases c2 : s.size ≤ 24
     · rw [decide_eq_true ⟨rfl, c2⟩]
       have d2 : decide ((s.size : Int) ≤ 24) = true := decide_eq_true (by omega)
       go_enter Tryz.func113, Tryz.ntmps113
       go_wp2_with (first | (with_reducible refine wpList_box_st hS rfl rfl rfl ?_; clear hS; intro g1 w1 hS) | (with_reducible refine ld 0 hS rfl rfl rfl rfl rfl ?_) | ((with_reducible refine wpList_gload_st 0 hS rfl (by with_unfolding_all rfl) rfl rfl ?_ rfl ?_); focus (simp [scalarB, go_sem]; done)))
       go_ret
       exact ⟨rfl, hS.below⟩
     · rw [decide_eq_false (fun h => c2 h.2)]
       have d2 : decide ((s.size : Int) ≤ 24) = false := decide_eq_false (by omega)
       go_enter Tryz.func113, Tryz.ntmps113
       go_wp2_with (first | (with_reducible refine wpList_box_st hS rfl rfl rfl ?_; clear hS; intro g1 w1 hS) | (with_reducible refine ld 0 hS rfl rfl rfl rfl rfl ?_) | ((with_reducible refine wpList_gload_st 0 hS rfl (by with_unfolding_all rfl) rfl rfl ?_ rfl ?_); focus (simp [scalarB, go_sem]; done)))
       go_ret
       exact ⟨rfl, hS.below⟩
   · rw [decide_eq_false (fun h => c1 h.1)]
     have d1 : (n == 0) = false := by rw [beq_eq_false_iff_ne]; exact c1
     go_enter Tryz.func113, Tryz.ntmps113
     go_wp2_with (first | (with_reducible refine wpList_box_st hS rfl rfl rfl ?_; clear hS; intro g1 w1 hS) | (with_reducible refine ld 0 hS rfl rfl rfl rfl rfl ?_))
     go_ret
     exact ⟨rfl, hS.below⟩
 · have hr : Vl.ok ⟨k, n, s⟩ = false := by simp [Vl.ok, h0, h1, h2]
   rw [hr]
   have e0 : (k == 0) = false := by rw [beq_eq_false_iff_ne]; exact h0
   have e1 : (k == 1) = false := by rw [beq_eq_false_iff_ne]; exact h1
   have e2 : (k == 2) = false := by rw [beq_eq_false_iff_ne]; exact h2
   clear hE hG h0 h1 hr hb h2
   simp only [vlRow]
   go_enter Tryz.func113, Tryz.ntmps113
   go_wp2_with (first | (with_reducible refine wpList_box_st hS rfl rfl rfl ?_; clear hS; intro g1 w1 hS) | (with_reducible refine ld 0 hS rfl rfl rfl rfl rfl ?_))
   go_ret
   exact ⟨rfl, hS.below⟩
theorem rvcheck_any (v : Vl) (w : World) : Calls Tryz.prog 144 #[.agg (vlRow v).toArray] w fun e w' => e = .returned (.bool v.ok) ∧ Below w.heap.size w w' := by
 have hS := St.start w
 obtain ⟨k, n, s⟩ := v
 have hb : (s.toList == []) = decide (s.size = 0) := by
  rw [show ([] : List UInt8) = (⟨#[]⟩ : ByteArray).toList by rw [ByteArray.toList_eq], ba_beq]
  by_cases h : s.size = 0
  · rw [decide_eq_true h, decide_eq_true (ba_empty h)]
  · rw [decide_eq_false h, decide_eq_false (fun e => h (by rw [e]; rfl))]
 by_cases h0 : k = 0
 · subst h0
   have hr : Vl.ok ⟨0, n, s⟩ = decide (n = 0 ∧ s.size = 0) := by simp [Vl.ok]
   rw [hr]
   clear hr
   simp only [vlRow]
   by_cases c1 : n = 0
   · subst c1
     by_cases c2 : s.size = 0
     · rw [decide_eq_true ⟨rfl, c2⟩]
       rw [decide_eq_true c2] at hb
       go_enter Tryz.func144, Tryz.ntmps144
       go_wp2_with (first | (with_reducible refine wpList_box_st hS rfl rfl rfl ?_; clear hS; intro g1 w1 hS) | (with_reducible refine ld 0 hS rfl rfl rfl rfl rfl ?_) | ((with_reducible refine wpList_gload_st 0 hS rfl (by with_unfolding_all rfl) rfl rfl ?_ rfl ?_); focus (simp [scalarB, go_sem]; done)))
       go_ret
       exact ⟨rfl, hS.below⟩
     · rw [decide_eq_false (fun h => c2 h.2)]
       rw [decide_eq_false c2] at hb
       go_enter Tryz.func144, Tryz.ntmps144
       go_wp2_with (first | (with_reducible refine wpList_box_st hS rfl rfl rfl ?_; clear hS; intro g1 w1 hS) | (with_reducible refine ld 0 hS rfl rfl rfl rfl rfl ?_) | ((with_reducible refine wpList_gload_st 0 hS rfl (by with_unfolding_all rfl) rfl rfl ?_ rfl ?_); focus (simp [scalarB, go_sem]; done)))
       go_ret
       exact ⟨rfl, hS.below⟩
   · rw [decide_eq_false (fun h => c1 h.1)]
     have d1 : (n == 0) = false := by rw [beq_eq_false_iff_ne]; exact c1
     go_enter Tryz.func144, Tryz.ntmps144
     go_wp2_with (first | (with_reducible refine wpList_box_st hS rfl rfl rfl ?_; clear hS; intro g1 w1 hS) | (with_reducible refine ld 0 hS rfl rfl rfl rfl rfl ?_))
     go_ret
     exact ⟨rfl, hS.below⟩
 by_cases h1 : k = 1
 · subst h1
   have hr : Vl.ok ⟨1, n, s⟩ = decide (0 ≤ n ∧ n ≤ 1099511627776 ∧ s.size = 0) := by simp [Vl.ok]
   rw [hr]
   clear h0 hr
   simp only [vlRow]
   by_cases c1 : 0 ≤ n
   · by_cases c2 : n ≤ 1099511627776
     · by_cases c3 : s.size = 0
       · rw [decide_eq_true ⟨c1, c2, c3⟩]
         rw [decide_eq_true c3] at hb
         go_enter Tryz.func144, Tryz.ntmps144
         go_wp2_with (first | (with_reducible refine wpList_box_st hS rfl rfl rfl ?_; clear hS; intro g1 w1 hS) | (with_reducible refine ld 0 hS rfl rfl rfl rfl rfl ?_) | ((with_reducible refine wpList_gload_st 0 hS rfl (by with_unfolding_all rfl) rfl rfl ?_ rfl ?_); focus (simp [scalarB, go_sem]; done)))
         go_ret
         exact ⟨rfl, hS.below⟩
       · rw [decide_eq_false (fun h => c3 h.2.2)]
         rw [decide_eq_false c3] at hb
         go_enter Tryz.func144, Tryz.ntmps144
         go_wp2_with (first | (with_reducible refine wpList_box_st hS rfl rfl rfl ?_; clear hS; intro g1 w1 hS) | (with_reducible refine ld 0 hS rfl rfl rfl rfl rfl ?_) | ((with_reducible refine wpList_gload_st 0 hS rfl (by with_unfolding_all rfl) rfl rfl ?_ rfl ?_); focus (simp [scalarB, go_sem]; done)))
         go_ret
         exact ⟨rfl, hS.below⟩
     · rw [decide_eq_false (fun h => c2 h.2.1)]
       have d2 : decide (n ≤ 1099511627776) = false := decide_eq_false c2
       go_enter Tryz.func144, Tryz.ntmps144
       go_wp2_with (first | (with_reducible refine wpList_box_st hS rfl rfl rfl ?_; clear hS; intro g1 w1 hS) | (with_reducible refine ld 0 hS rfl rfl rfl rfl rfl ?_) | ((with_reducible refine wpList_gload_st 0 hS rfl (by with_unfolding_all rfl) rfl rfl ?_ rfl ?_); focus (simp [scalarB, go_sem]; done)))
       go_ret
       exact ⟨rfl, hS.below⟩
   · rw [decide_eq_false (fun h => c1 h.1)]
     have d1 : decide (0 ≤ n) = false := decide_eq_false c1
     go_enter Tryz.func144, Tryz.ntmps144
     go_wp2_with (first | (with_reducible refine wpList_box_st hS rfl rfl rfl ?_; clear hS; intro g1 w1 hS) | (with_reducible refine ld 0 hS rfl rfl rfl rfl rfl ?_))
     go_ret
     exact ⟨rfl, hS.below⟩
 by_cases h2 : k = 2
 · subst h2
   have hr : Vl.ok ⟨2, n, s⟩ = decide (n = 0 ∧ s.size ≤ 24) := by simp [Vl.ok]
   rw [hr]
   clear h0 h1 hr hb
   simp only [vlRow]
   by_cases c1 : n = 0
   · subst c1
     by_cases c2 : s.size ≤ 24
     · rw [decide_eq_true ⟨rfl, c2⟩]
       have d2 : decide ((s.size : Int) ≤ 24) = true := decide_eq_true (by omega)
       go_enter Tryz.func144, Tryz.ntmps144
       go_wp2_with (first | (with_reducible refine wpList_box_st hS rfl rfl rfl ?_; clear hS; intro g1 w1 hS) | (with_reducible refine ld 0 hS rfl rfl rfl rfl rfl ?_) | ((with_reducible refine wpList_gload_st 0 hS rfl (by with_unfolding_all rfl) rfl rfl ?_ rfl ?_); focus (simp [scalarB, go_sem]; done)))
       go_ret
       exact ⟨rfl, hS.below⟩
     · rw [decide_eq_false (fun h => c2 h.2)]
       have d2 : decide ((s.size : Int) ≤ 24) = false := decide_eq_false (by omega)
       go_enter Tryz.func144, Tryz.ntmps144
       go_wp2_with (first | (with_reducible refine wpList_box_st hS rfl rfl rfl ?_; clear hS; intro g1 w1 hS) | (with_reducible refine ld 0 hS rfl rfl rfl rfl rfl ?_) | ((with_reducible refine wpList_gload_st 0 hS rfl (by with_unfolding_all rfl) rfl rfl ?_ rfl ?_); focus (simp [scalarB, go_sem]; done)))
       go_ret
       exact ⟨rfl, hS.below⟩
   · rw [decide_eq_false (fun h => c1 h.1)]
     have d1 : (n == 0) = false := by rw [beq_eq_false_iff_ne]; exact c1
     go_enter Tryz.func144, Tryz.ntmps144
     go_wp2_with (first | (with_reducible refine wpList_box_st hS rfl rfl rfl ?_; clear hS; intro g1 w1 hS) | (with_reducible refine ld 0 hS rfl rfl rfl rfl rfl ?_))
     go_ret
     exact ⟨rfl, hS.below⟩
 · have hr : Vl.ok ⟨k, n, s⟩ = false := by simp [Vl.ok, h0, h1, h2]
   rw [hr]
   have e0 : (k == 0) = false := by rw [beq_eq_false_iff_ne]; exact h0
   have e1 : (k == 1) = false := by rw [beq_eq_false_iff_ne]; exact h1
   have e2 : (k == 2) = false := by rw [beq_eq_false_iff_ne]; exact h2
   clear h0 h1 hr hb h2
   simp only [vlRow]
   go_enter Tryz.func144, Tryz.ntmps144
   go_wp2_with (first | (with_reducible refine wpList_box_st hS rfl rfl rfl ?_; clear hS; intro g1 w1 hS) | (with_reducible refine ld 0 hS rfl rfl rfl rfl rfl ?_))
   go_ret
   exact ⟨rfl, hS.below⟩
theorem high_bits : ∀ i : Fin 32, 9 ≤ i.val → (4294966784 : Nat).testBit i.val = true := by decide
theorem low_mask : ∀ m : Fin 512, m.val &&& 4294966784 = 0 := by decide +kernel
theorem within_mask (m : Nat) (hm : m < 4294967296) : (bits .andNot .u32 (m : Int) 511 == 0) = decide (m ≤ 511) := by
 rw [show (511 : Int) = ((511 : Nat) : Int) by rfl, u32_andNot_nat m 511 hm (by decide), show (4294967295 - 511 : Nat) = 4294966784 by rfl]
 by_cases h : m ≤ 511
 · rw [decide_eq_true h, low_mask ⟨m, by omega⟩]
   rfl
 · rw [decide_eq_false h, beq_eq_false_iff_ne]
   intro e
   obtain ⟨i, hi⟩ := Nat.exists_testBit_of_ne_zero (show m / 2 ^ 9 ≠ 0 by omega)
   rw [Nat.testBit_div_two_pow] at hi
   have hlt : i + 9 < 32 := by
    rcases Nat.lt_or_ge (i + 9) 32 with h | h
    · exact h
    · have h2 : 2 ^ 32 ≤ 2 ^ (i + 9) := Nat.pow_le_pow_right (by decide) h
      rw [Nat.testBit_lt_two_pow (show m < 2 ^ (i + 9) by omega)] at hi
      cases hi
   have hb := high_bits ⟨i + 9, hlt⟩ (by simp)
   have e' : m &&& 4294966784 = 0 := by omega
   have := congrArg (fun x => Nat.testBit x (i + 9)) e'
   simp only [Nat.testBit_and, Nat.zero_testBit, hi] at this
   simp only at hb
   rw [hb] at this
   cases this
theorem wmask_any (m : Nat) (hm : m < 4294967296) (w : World) : Calls Tryz.prog 148 #[.int .u32 m, .int .u32 511] w fun e w' => e = .returned (.bool (decide (m ≤ 511))) ∧ w = w' := by
 have h := within_mask m hm
 generalize decide (m ≤ 511) = r at h ⊢
 go_enter Tryz.func148, Tryz.ntmps148
 go_wp2_with fail
 go_ret
 exact ⟨rfl, rfl⟩
theorem mcheck_any (m : Nat) (hm : m < 4294967296) (w : World) : Calls Tryz.prog 111 #[.int .u32 m] w fun e w' => e = .returned (.bool (decide (m ≤ 511))) ∧ w = w' := by
 have cW := Lib.hid (fun W : World => wmask_any m hm W)
 go_enter Tryz.func111, Tryz.ntmps111
 go_wp2_with (go_at_call 148; (with_reducible refine (cW.out _).mono ?_); rintro _ _ ⟨rfl, rfl⟩)
 go_ret
 exact ⟨rfl, rfl⟩
end Go.Proofs.YtneolmnpebiifaaGreatDoor
end
section
namespace Go.Ofp
def badAt (m : Nat) (v : Vl) (i : Nat) : Bool := !v.ok || (decide (v.kind ≠ 0) && !m.testBit i)
def badF (m : Nat) (f : List Vl) (k : Nat) : Bool := (List.range k).any fun i => badAt m (f.getD i Vl.zero) i
def Pt.check (p : Pt) : Int :=
 if p.mask = 0 ∨ 511 < p.mask then 11 else if 65536 ≤ p.lab ∨ (p.lab ≠ 0 ∧ p.mask.testBit 8 = false) then 1 else if badF p.mask p.f 8 then 1 else 0
theorem badF_next (m : Nat) (f : List Vl) (k : Nat) : badF m f (k + 1) = (badF m f k || badAt m (f.getD k Vl.zero) k) := by
 unfold badF
 rw [List.range_succ, List.any_append]
 simp
theorem badF_of {m : Nat} {f : List Vl} {k n : Nat} (hk : k < n) (h : badAt m (f.getD k Vl.zero) k = true) : badF m f n = true := by
 unfold badF
 rw [List.any_eq_true]
 exact ⟨k, List.mem_range.2 hk, h⟩
def Cd.ok (c : Cd) : Bool := decide (1 ≤ c.id ∧ c.id < 1073741824 ∧ 1 ≤ c.ver ∧ c.ver ≤ 1099511627776 ∧ c.lab < 65536) && c.f.all Vl.ok
def Cd.unlike (a b : Cd) : List Nat := (List.range 8).filter fun i => decide (a.f.getD i Vl.zero ≠ b.f.getD i Vl.zero)
end Go.Ofp
namespace Go.Proofs.YtneolmnpebiifaaGreatDoor
open Go.RowKit Go.Ofp
set_option maxHeartbeats 4000000
theorem fl_index (f : List Vl) (hf : f.length = 8) (k : Nat) (v : Vl) (hv : f[k]? = some v) (W : World) : (Instr.index 40 (.agg (flRow f).toArray) (.int .i64 k)).run Tryz.prog W = .ok (.agg (vlRow v).toArray) W := by
 have hk : k < 8 := by
  have := (List.getElem?_eq_some_iff.1 hv).1
  omega
 obtain ⟨i, hi, -, hs, -⟩ := elem_value
 have p1 := run_part_row (P := Tryz.prog) (t := 39) (n := 3) (by kernel_rfl) (by kernel_rfl) (flRow f).toArray (k * 3) W
 have q1 := fl_at [] f k v hv
 simp only [List.nil_append, List.length_nil, Nat.zero_add] at q1
 rw [extract_list, q1] at p1
 unfold Instr.index
 simp [asIntOf, run_underlying Tryz.underlying40, sizeOf, typeInfo, hi, hs, p1]
 omega
theorem cp_main (p : Pt) (hg : p.f.length = 8) (hm : p.mask ≠ 0 ∧ p.mask ≤ 511) (hlab : p.lab < 65536) (hl2 : p.lab = 0 ∨ p.mask.testBit 8 = true) (w : World) :
 Calls Tryz.prog 69 #[.agg (ptRow p).toArray] w fun e w' => e = .returned (.int .i64 (if badF p.mask p.f 8 then 1 else 0)) ∧ Below w.heap.size w w' := by
 have hS := St.start w
 have ev := elem_value
 have cC := fun W : World => mcheck_any p.mask (by omega) W
 rw [decide_eq_true hm.2] at cC
 have cL := fun W : World => labels_any p.mask (by omega) W
 have cV := Lib.hid (fun (v : Vl) (W : World) => vcheck_any v W)
 obtain ⟨m, lab, f⟩ := p
 obtain ⟨hm1, hm2⟩ := hm
 simp only [ptRow] at hg hm1 hm2 hlab hl2 cC cL ⊢
 have z1 : ((m : Int) == 0) = false := by rw [beq_eq_false_iff_ne]; omega
 have z2 : ((lab : Int) / 65536 != 0) = false := by
  have : (lab : Int) / 65536 = 0 := by omega
  rw [this]
  rfl
 replace cC := Lib.hid cC
 have hfl : (flRow f).length = 24 := by rw [flRow_length, hg]
 have hg2 : ((Value.int .u32 m :: .int .u32 lab :: flRow f).toArray.toList.drop 2).take 24 = flRow f := List.take_of_length_le (Nat.le_of_eq hfl)
 have hl3 : ((lab : Int) != 0) = false ∨ ((lab : Int) != 0) = true ∧ m.testBit 8 = true := by
  by_cases h : lab = 0
  · subst h
    exact .inl rfl
  · exact .inr ⟨by rw [bne_iff_ne]; omega, hl2.resolve_left h⟩
 clear hl2
 obtain ⟨er, her⟩ : ∃ er : Int, (if badF m f 8 then 1 else 0) = er := ⟨_, rfl⟩
 rw [her]
 replace her := Lib.hid her
 rcases hl3 with y1 | ⟨y1, y2⟩
 · go_enter Tryz.func69, Tryz.ntmps69
   go_wp2_with (first | (go_at_call 111; (with_reducible refine (cC.out _).mono ?_); rintro _ _ ⟨rfl, rfl⟩) | (with_reducible refine wpList_box_st (L := []) hS rfl rfl rfl ?_; clear hS; intro gp w1 hS) | ((with_reducible refine wpList_gload_st 0 hS rfl (by with_unfolding_all rfl) rfl rfl ?_ rfl ?_); focus (simp [scalarB, go_sem]; done)) | ((with_reducible refine wpList_loadrow_st (n := 24) 0 hS rfl rfl rfl rfl ?_ (by kernel_rfl) hg2 hfl ?_); focus (simp [rowB, go_sem]; done)))
   clear cL cC z1 z2 hm1 hlab y1
   go_loopg [33] 8 (fun gk vx wr => ∃ k : Nat, k + gk = 8 ∧ vx = .int .i64 k ∧ Hid (badF m f k = false) ∧ St w [] [Ch.blk gp 42 (Value.int .u32 m :: .int .u32 lab :: flRow f).toArray] wr)
   case atStart => exact ⟨0, Nat.zero_add _, rfl, Lib.hid rfl, hS⟩
   case round =>
    obtain ⟨k, hkn, rfl, hr, hS1⟩ := hrel
    clear hS
    have hS := hS1
    clear hS1
    by_cases hlt : k < 8
    · have hvf : f[k]? = some (f.getD k Vl.zero) := by rw [List.getD_eq_getElem?_getD, List.getElem?_eq_getElem (by omega)]; rfl
      have hnext := badF_next m f k
      have hof := fun h => badF_of (m := m) (f := f) (k := k) (n := 8) hlt h
      rw [hr.out] at hnext
      simp only [Bool.false_or, badAt] at hnext hof
      generalize f.getD k Vl.zero = v at *
      have hix := fl_index f hg k v hvf
      clear hvf
      have cV2 := cV.out v
      have hE := fun W : World => neq_vl v Vl.zero W
      have hz : v.ok = true → (decide (v = Vl.zero) = decide (v.kind = 0)) := by
       intro h
       rw [decide_eq_decide]
       constructor
       · rintro rfl
         rfl
       · intro hk
         obtain ⟨a, b, c⟩ := v
         simp only at hk
         subst hk
         simp only [Vl.ok, if_true, decide_eq_true_eq] at h
         rw [h.1, ba_empty h.2]
         rfl
      have hsh : (bits .and .u32 ((m : Int) / 2 ^ k) 1 == 0) = !m.testBit k := by
       rw [show (m : Int) / 2 ^ k = ((m / 2 ^ k : Nat) : Int) by simp, show (1 : Int) = ((1 : Nat) : Int) by rfl, u32_and_nat (m / 2 ^ k) 1 (Nat.lt_of_le_of_lt (Nat.div_le_self _ _) (by omega)) (by decide), Nat.and_one_is_mod, Nat.testBit_eq_decide_div_mod_eq]
       rcases Nat.mod_two_eq_zero_or_one (m / 2 ^ k) with h | h <;> rw [h] <;> rfl
      cases hok : v.ok with
      | false =>
       rw [hok] at cV2 hof
       clear hz hE hsh hok
       obtain ⟨vk, vn, vs⟩ := v
       simp only [vlRow] at cV2 hix
       replace cV2 := Lib.hid cV2
       replace hof := Lib.hid (hof rfl)
       go_wp2_with (first | (go_at_call 113; (with_reducible refine (cV2.out _).mono ?_); rintro _ w9 ⟨rfl, hk9⟩; replace hS := hS.keepB hk9; clear hk9) | (with_reducible refine al hS rfl rfl ?_; clear hS; intro g1 w1 hS) | (with_reducible refine lda 0 hS rfl rfl rfl rfl ?_) | (with_reducible refine stor 0 hS rfl rfl rfl rfl rfl rfl rfl rfl ?_; clear hS; intro w1 hS))
       go_ret
       exact ⟨by rw [← her.out, hof.out]; rfl, hS.below⟩
      | true =>
       rw [hok] at cV2 hof hnext
       rw [hz hok] at hE
       have hG := guard_vl
       by_cases hk0 : v.kind = 0
       · rw [decide_eq_true hk0] at hE
         have hnx : badF m f (k + 1) = false := by rw [hnext]; simp [hk0]
         clear hz hsh hok hk0 hof hnext
         obtain ⟨vk, vn, vs⟩ := v
         simp only [vlRow, Vl.zero] at cV2 hix hE
         replace cV2 := Lib.hid cV2
         replace hnx := Lib.hid hnx
         go_wp2_with (first | (go_at_call 113; (with_reducible refine (cV2.out _).mono ?_); rintro _ w9 ⟨rfl, hk9⟩; replace hS := hS.keepB hk9; clear hk9) | ((with_reducible refine wpList_gloadrow_st (n := 3) 0 hS rfl (by with_unfolding_all rfl) rfl rfl ?_ (by kernel_rfl) rfl rfl ?_); focus (simp [rowB, go_sem]; done)) | (with_reducible refine al hS rfl rfl ?_; clear hS; intro g1 w1 hS) | (with_reducible refine stor 0 hS rfl rfl rfl rfl rfl rfl rfl rfl ?_; clear hS; intro w1 hS))
         go_roundg (8 - (k + 1))
         case measure => omega
         case rel => exact ⟨k + 1, by omega, by go_num, hnx, hS.drop⟩
       · rw [decide_eq_false hk0] at hE
         cases hb : m.testBit k with
         | true =>
          have hnx : badF m f (k + 1) = false := by rw [hnext]; simp [hb]
          rw [hb] at hsh
          clear hz hok hk0 hof hnext hb
          obtain ⟨vk, vn, vs⟩ := v
          simp only [vlRow, Vl.zero] at cV2 hix hE
          replace cV2 := Lib.hid cV2
          replace hnx := Lib.hid hnx
          go_wp2_with (first | (go_at_call 113; (with_reducible refine (cV2.out _).mono ?_); rintro _ w9 ⟨rfl, hk9⟩; replace hS := hS.keepB hk9; clear hk9) | ((with_reducible refine wpList_gloadrow_st (n := 3) 0 hS rfl (by with_unfolding_all rfl) rfl rfl ?_ (by kernel_rfl) rfl rfl ?_); focus (simp [rowB, go_sem]; done)) | ((with_reducible refine wpList_gload_st 1 hS rfl (by with_unfolding_all rfl) rfl rfl ?_ rfl ?_); focus (simp [scalarB, go_sem]; done)) | (with_reducible refine al hS rfl rfl ?_; clear hS; intro g1 w1 hS) | (with_reducible refine stor 0 hS rfl rfl rfl rfl rfl rfl rfl rfl ?_; clear hS; intro w1 hS))
          go_roundg (8 - (k + 1))
          case measure => omega
          case rel => exact ⟨k + 1, by omega, by go_num, hnx, hS.drop⟩
         | false =>
          have hof2 : badF m f 8 = true := hof (by simp [hb, hk0])
          rw [hb] at hsh
          clear hz hok hk0 hof hnext hb
          obtain ⟨vk, vn, vs⟩ := v
          simp only [vlRow, Vl.zero] at cV2 hix hE
          replace cV2 := Lib.hid cV2
          replace hof2 := Lib.hid hof2
          go_wp2_with (first | (go_at_call 113; (with_reducible refine (cV2.out _).mono ?_); rintro _ w9 ⟨rfl, hk9⟩; replace hS := hS.keepB hk9; clear hk9) | ((with_reducible refine wpList_gloadrow_st (n := 3) 0 hS rfl (by with_unfolding_all rfl) rfl rfl ?_ (by kernel_rfl) rfl rfl ?_); focus (simp [rowB, go_sem]; done)) | ((with_reducible refine wpList_gload_st 1 hS rfl (by with_unfolding_all rfl) rfl rfl ?_ rfl ?_); focus (simp [scalarB, go_sem]; done)) | (with_reducible refine al hS rfl rfl ?_; clear hS; intro g1 w1 hS) | (with_reducible refine stor 0 hS rfl rfl rfl rfl rfl rfl rfl rfl ?_; clear hS; intro w1 hS))
          go_ret
          exact ⟨by rw [← her.out, hof2.out]; rfl, hS.below⟩
    · obtain rfl : k = 8 := by omega
      go_wp2_with fail
      go_ret
      exact ⟨by rw [← her.out, hr.out]; rfl, hS.below⟩
 · rw [y2] at cL
   replace cL := Lib.hid cL
   go_enter Tryz.func69, Tryz.ntmps69
   go_wp2_with (first | (go_at_call 111; (with_reducible refine (cC.out _).mono ?_); rintro _ _ ⟨rfl, rfl⟩) | (go_at_call 112; (with_reducible refine (cL.out _).mono ?_); rintro _ _ ⟨rfl, rfl⟩) | (with_reducible refine wpList_box_st (L := []) hS rfl rfl rfl ?_; clear hS; intro gp w1 hS) | ((with_reducible refine wpList_gload_st 0 hS rfl (by with_unfolding_all rfl) rfl rfl ?_ rfl ?_); focus (simp [scalarB, go_sem]; done)) | ((with_reducible refine wpList_loadrow_st (n := 24) 0 hS rfl rfl rfl rfl ?_ (by kernel_rfl) hg2 hfl ?_); focus (simp [rowB, go_sem]; done)))
   clear y2
   clear cL cC z1 z2 hm1 hlab y1
   go_loopg [33] 8 (fun gk vx wr => ∃ k : Nat, k + gk = 8 ∧ vx = .int .i64 k ∧ Hid (badF m f k = false) ∧ St w [] [Ch.blk gp 42 (Value.int .u32 m :: .int .u32 lab :: flRow f).toArray] wr)
   case atStart => exact ⟨0, Nat.zero_add _, rfl, Lib.hid rfl, hS⟩
   case round =>
    obtain ⟨k, hkn, rfl, hr, hS1⟩ := hrel
    clear hS
    have hS := hS1
    clear hS1
    by_cases hlt : k < 8
    · have hvf : f[k]? = some (f.getD k Vl.zero) := by rw [List.getD_eq_getElem?_getD, List.getElem?_eq_getElem (by omega)]; rfl
      have hnext := badF_next m f k
      have hof := fun h => badF_of (m := m) (f := f) (k := k) (n := 8) hlt h
      rw [hr.out] at hnext
      simp only [Bool.false_or, badAt] at hnext hof
      generalize f.getD k Vl.zero = v at *
      have hix := fl_index f hg k v hvf
      clear hvf
      have cV2 := cV.out v
      have hE := fun W : World => neq_vl v Vl.zero W
      have hz : v.ok = true → (decide (v = Vl.zero) = decide (v.kind = 0)) := by
       intro h
       rw [decide_eq_decide]
       constructor
       · rintro rfl
         rfl
       · intro hk
         obtain ⟨a, b, c⟩ := v
         simp only at hk
         subst hk
         simp only [Vl.ok, if_true, decide_eq_true_eq] at h
         rw [h.1, ba_empty h.2]
         rfl
      have hsh : (bits .and .u32 ((m : Int) / 2 ^ k) 1 == 0) = !m.testBit k := by
       rw [show (m : Int) / 2 ^ k = ((m / 2 ^ k : Nat) : Int) by simp, show (1 : Int) = ((1 : Nat) : Int) by rfl, u32_and_nat (m / 2 ^ k) 1 (Nat.lt_of_le_of_lt (Nat.div_le_self _ _) (by omega)) (by decide), Nat.and_one_is_mod, Nat.testBit_eq_decide_div_mod_eq]
       rcases Nat.mod_two_eq_zero_or_one (m / 2 ^ k) with h | h <;> rw [h] <;> rfl
      cases hok : v.ok with
      | false =>
       rw [hok] at cV2 hof
       clear hz hE hsh hok
       obtain ⟨vk, vn, vs⟩ := v
       simp only [vlRow] at cV2 hix
       replace cV2 := Lib.hid cV2
       replace hof := Lib.hid (hof rfl)
       go_wp2_with (first | (go_at_call 113; (with_reducible refine (cV2.out _).mono ?_); rintro _ w9 ⟨rfl, hk9⟩; replace hS := hS.keepB hk9; clear hk9) | (with_reducible refine al hS rfl rfl ?_; clear hS; intro g1 w1 hS) | (with_reducible refine lda 0 hS rfl rfl rfl rfl ?_) | (with_reducible refine stor 0 hS rfl rfl rfl rfl rfl rfl rfl rfl ?_; clear hS; intro w1 hS))
       go_ret
       exact ⟨by rw [← her.out, hof.out]; rfl, hS.below⟩
      | true =>
       rw [hok] at cV2 hof hnext
       rw [hz hok] at hE
       have hG := guard_vl
       by_cases hk0 : v.kind = 0
       · rw [decide_eq_true hk0] at hE
         have hnx : badF m f (k + 1) = false := by rw [hnext]; simp [hk0]
         clear hz hsh hok hk0 hof hnext
         obtain ⟨vk, vn, vs⟩ := v
         simp only [vlRow, Vl.zero] at cV2 hix hE
         replace cV2 := Lib.hid cV2
         replace hnx := Lib.hid hnx
         go_wp2_with (first | (go_at_call 113; (with_reducible refine (cV2.out _).mono ?_); rintro _ w9 ⟨rfl, hk9⟩; replace hS := hS.keepB hk9; clear hk9) | ((with_reducible refine wpList_gloadrow_st (n := 3) 0 hS rfl (by with_unfolding_all rfl) rfl rfl ?_ (by kernel_rfl) rfl rfl ?_); focus (simp [rowB, go_sem]; done)) | (with_reducible refine al hS rfl rfl ?_; clear hS; intro g1 w1 hS) | (with_reducible refine stor 0 hS rfl rfl rfl rfl rfl rfl rfl rfl ?_; clear hS; intro w1 hS))
         go_roundg (8 - (k + 1))
         case measure => omega
         case rel => exact ⟨k + 1, by omega, by go_num, hnx, hS.drop⟩
       · rw [decide_eq_false hk0] at hE
         cases hb : m.testBit k with
         | true =>
          have hnx : badF m f (k + 1) = false := by rw [hnext]; simp [hb]
          rw [hb] at hsh
          clear hz hok hk0 hof hnext hb
          obtain ⟨vk, vn, vs⟩ := v
          simp only [vlRow, Vl.zero] at cV2 hix hE
          replace cV2 := Lib.hid cV2
          replace hnx := Lib.hid hnx
          go_wp2_with (first | (go_at_call 113; (with_reducible refine (cV2.out _).mono ?_); rintro _ w9 ⟨rfl, hk9⟩; replace hS := hS.keepB hk9; clear hk9) | ((with_reducible refine wpList_gloadrow_st (n := 3) 0 hS rfl (by with_unfolding_all rfl) rfl rfl ?_ (by kernel_rfl) rfl rfl ?_); focus (simp [rowB, go_sem]; done)) | ((with_reducible refine wpList_gload_st 1 hS rfl (by with_unfolding_all rfl) rfl rfl ?_ rfl ?_); focus (simp [scalarB, go_sem]; done)) | (with_reducible refine al hS rfl rfl ?_; clear hS; intro g1 w1 hS) | (with_reducible refine stor 0 hS rfl rfl rfl rfl rfl rfl rfl rfl ?_; clear hS; intro w1 hS))
          go_roundg (8 - (k + 1))
          case measure => omega
          case rel => exact ⟨k + 1, by omega, by go_num, hnx, hS.drop⟩
         | false =>
          have hof2 : badF m f 8 = true := hof (by simp [hb, hk0])
          rw [hb] at hsh
          clear hz hok hk0 hof hnext hb
          obtain ⟨vk, vn, vs⟩ := v
          simp only [vlRow, Vl.zero] at cV2 hix hE
          replace cV2 := Lib.hid cV2
          replace hof2 := Lib.hid hof2
          go_wp2_with (first | (go_at_call 113; (with_reducible refine (cV2.out _).mono ?_); rintro _ w9 ⟨rfl, hk9⟩; replace hS := hS.keepB hk9; clear hk9) | ((with_reducible refine wpList_gloadrow_st (n := 3) 0 hS rfl (by with_unfolding_all rfl) rfl rfl ?_ (by kernel_rfl) rfl rfl ?_); focus (simp [rowB, go_sem]; done)) | ((with_reducible refine wpList_gload_st 1 hS rfl (by with_unfolding_all rfl) rfl rfl ?_ rfl ?_); focus (simp [scalarB, go_sem]; done)) | (with_reducible refine al hS rfl rfl ?_; clear hS; intro g1 w1 hS) | (with_reducible refine stor 0 hS rfl rfl rfl rfl rfl rfl rfl rfl ?_; clear hS; intro w1 hS))
          go_ret
          exact ⟨by rw [← her.out, hof2.out]; rfl, hS.below⟩
    · obtain rfl : k = 8 := by omega
      go_wp2_with fail
      go_ret
      exact ⟨by rw [← her.out, hr.out]; rfl, hS.below⟩
theorem cp_any (p : Pt) (hg : p.f.length = 8) (hmm : p.mask < 4294967296) (hll : p.lab < 4294967296) (w : World) :
 Calls Tryz.prog 69 #[.agg (ptRow p).toArray] w fun e w' => e = .returned (.int .i64 p.check) ∧ Below w.heap.size w w' := by
 have hS := St.start w
 have cC := fun W : World => mcheck_any p.mask hmm W
 have cL := fun W : World => labels_any p.mask hmm W
 unfold Pt.check
 by_cases h1 : p.mask = 0 ∨ 511 < p.mask
 · rw [if_pos h1]
   obtain ⟨m, lab, f⟩ := p
   simp only [ptRow] at *
   rcases h1 with h1 | h1
   · have z1 : ((m : Int) == 0) = true := by rw [h1]; rfl
     clear cC cL h1
     go_enter Tryz.func69, Tryz.ntmps69
     go_wp2_with (first | (with_reducible refine wpList_box_st (L := []) hS rfl rfl rfl ?_; clear hS; intro gp w1 hS) | ((with_reducible refine wpList_gload_st 0 hS rfl (by with_unfolding_all rfl) rfl rfl ?_ rfl ?_); focus (simp [scalarB, go_sem]; done)))
     go_ret
     exact ⟨rfl, hS.below⟩
   · have z1 : ((m : Int) == 0) = false := by rw [beq_eq_false_iff_ne]; omega
     rw [decide_eq_false (by omega)] at cC
     replace cC := Lib.hid cC
     clear cL h1
     go_enter Tryz.func69, Tryz.ntmps69
     go_wp2_with (first | (go_at_call 111; (with_reducible refine (cC.out _).mono ?_); rintro _ _ ⟨rfl, rfl⟩) | (with_reducible refine wpList_box_st (L := []) hS rfl rfl rfl ?_; clear hS; intro gp w1 hS) | ((with_reducible refine wpList_gload_st 0 hS rfl (by with_unfolding_all rfl) rfl rfl ?_ rfl ?_); focus (simp [scalarB, go_sem]; done)))
     go_ret
     exact ⟨rfl, hS.below⟩
 rw [if_neg h1]
 by_cases h2 : 65536 ≤ p.lab ∨ p.lab ≠ 0 ∧ p.mask.testBit 8 = false
 · rw [if_pos h2]
   rw [decide_eq_true (show p.mask ≤ 511 by omega)] at cC
   obtain ⟨m, lab, f⟩ := p
   simp only [ptRow] at *
   have z1 : ((m : Int) == 0) = false := by rw [beq_eq_false_iff_ne]; omega
   replace cC := Lib.hid cC
   by_cases h3 : 65536 ≤ lab
   · have z2 : ((lab : Int) / 65536 != 0) = true := by rw [bne_iff_ne]; omega
     clear cL h1 h2 h3
     go_enter Tryz.func69, Tryz.ntmps69
     go_wp2_with (first | (go_at_call 111; (with_reducible refine (cC.out _).mono ?_); rintro _ _ ⟨rfl, rfl⟩) | (with_reducible refine wpList_box_st (L := []) hS rfl rfl rfl ?_; clear hS; intro gp w1 hS) | ((with_reducible refine wpList_gload_st 0 hS rfl (by with_unfolding_all rfl) rfl rfl ?_ rfl ?_); focus (simp [scalarB, go_sem]; done)))
     go_ret
     exact ⟨rfl, hS.below⟩
   · have z2 : ((lab : Int) / 65536 != 0) = false := by
      have : (lab : Int) / 65536 = 0 := by omega
      rw [this]
      rfl
     obtain ⟨h4, h5⟩ := h2.resolve_left h3
     have z3 : ((lab : Int) != 0) = true := by rw [bne_iff_ne]; omega
     rw [h5] at cL
     replace cL := Lib.hid cL
     clear h1 h2 h3 h4 h5
     go_enter Tryz.func69, Tryz.ntmps69
     go_wp2_with (first | (go_at_call 111; (with_reducible refine (cC.out _).mono ?_); rintro _ _ ⟨rfl, rfl⟩) | (go_at_call 112; (with_reducible refine (cL.out _).mono ?_); rintro _ _ ⟨rfl, rfl⟩) | (with_reducible refine wpList_box_st (L := []) hS rfl rfl rfl ?_; clear hS; intro gp w1 hS) | ((with_reducible refine wpList_gload_st 0 hS rfl (by with_unfolding_all rfl) rfl rfl ?_ rfl ?_); focus (simp [scalarB, go_sem]; done)))
     go_ret
     exact ⟨rfl, hS.below⟩
 · rw [if_neg h2]
   exact cp_main p hg ⟨by omega, by omega⟩ (by omega) (by
    by_cases h : p.lab = 0
    · exact .inl h
    · right
      cases hb : p.mask.testBit 8 with
      | true => rfl
      | false => exact absurd (.inr ⟨h, hb⟩) h2) w
end Go.Proofs.YtneolmnpebiifaaGreatDoor
end
