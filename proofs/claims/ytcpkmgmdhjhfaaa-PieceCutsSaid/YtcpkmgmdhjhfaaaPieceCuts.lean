/- The law PieceCuts: the walk of it. -/
import Derived.Test.YtcpkmgmdhjhfaaaPiece5
import Derived.Test.YtcpkmgmdhjhfaaaMix
namespace Go.Proofs.Ytcpkmgmdhjhfaaa
open Go.RowKit Go.Ofp
set_option linter.unusedVariables false
set_option maxRecDepth 100000
set_option maxHeartbeats 4000000

theorem awake36_any (w : World) : Calls Try.prog 19 #[] w fun e w' => e = .returned (.bool true) ∧ w = w' := by
  have m0 : ∀ w : World, Calls Try.prog 46 #[.int .i64 0] w fun e w' => e = .returned (.int .i64 1) ∧ w = w' := fun w => many_any 0 w (by unfold maxLen; omega)
  have m1 : ∀ w : World, Calls Try.prog 46 #[.int .i64 52] w fun e w' => e = .returned (.int .i64 1) ∧ w = w' := fun w => many_any 52 w (by unfold maxLen; omega)
  have m2 : ∀ w : World, Calls Try.prog 46 #[.int .i64 53] w fun e w' => e = .returned (.int .i64 2) ∧ w = w' := fun w => many_any 53 w (by unfold maxLen; omega)
  go_enter Try.func19, Try.ntmps19
  go_wp2_with (go_at_call 46; first
    | (with_reducible refine (m0 _).mono ?_; rintro _ _ ⟨rfl, rfl⟩)
    | (with_reducible refine (m1 _).mono ?_; rintro _ _ ⟨rfl, rfl⟩)
    | (with_reducible refine (m2 _).mono ?_; rintro _ _ ⟨rfl, rfl⟩))
  go_ret
  exact ⟨rfl, rfl⟩

theorem cuts_main (q0 q1 : Int) (rec : ByteArray) (a : Option Addr) (ps : List Pc) (n cap : Nat) (w : World) (ha : Ps w a ps) (hn : n = ps.length) (hn1 : n ≤ 20) (hrec : rec.size ≤ 600)
    (hwf : ∀ p ∈ ps, (-9223372036854775808 ≤ p.life ∧ p.life ≤ 9223372036854775807) ∧ (-9223372036854775808 ≤ p.place ∧ p.place ≤ 9223372036854775807))
    (hq0 : -9223372036854775808 ≤ q0 ∧ q0 ≤ 9223372036854775807) (hq1 : -9223372036854775808 ≤ q1 ∧ q1 ≤ 9223372036854775807) :
    Calls Try.prog 5 #[.agg #[.int .i64 q0, .int .i64 q1], .string rec, .slice a n cap] w fun e w' => e = .returned (.bool true) ∧ Below w.heap.size w w' := by
  replace ha := Lib.hid ha
  replace hn := Lib.hid hn
  replace hwf := Lib.hid hwf
  replace hq0 := Lib.hid hq0
  replace hq1 := Lib.hid hq1
  obtain ⟨C, hC⟩ : ∃ C, C = cutB q0 q1 rec := ⟨_, rfl⟩
  have hCl := cutB_le q0 q1 rec 601 (by omega)
  rw [← hC] at hCl
  obtain ⟨J, hJ⟩ : ∃ J, J = joinB ps := ⟨_, rfl⟩
  obtain ⟨js, jb⟩ := J
  replace hJ := Lib.hid hJ
  replace hC := Lib.hid hC
  go_enter Try.func5, Try.ntmps5
  go_wp2_with fail
  have hW := Whole.new w 31 #[.int .i64 q0, .int .i64 q1]
  have hw0 : Below w.heap.size w (w.alloc (.cells #[.int .i64 q0, .int .i64 q1] 31)) := (Below.refl _ _).alloc (Nat.le_refl _) _
  have hlt := hW.lt
  generalize w.alloc (.cells #[.int .i64 q0, .int .i64 q1] 31) = W0 at hW hw0 hlt ⊢
  replace hW := Lib.hid hW
  have ha0 := ha.out.below hw0
  replace ha0 := Lib.hid ha0
  go_loopg [7] n (fun gk vi wr => ∃ j : Nat, j + gk = n ∧ vi = .int .i64 j ∧ W0 = wr ∧ ∀ i p, i < j → ps[i]? = some p → p.body.size ≤ 200)
  case atStart => exact ⟨0, by omega, rfl, rfl, fun i p h => absurd h (by omega)⟩
  case round =>
    obtain ⟨j, hjk, rfl, rfl, hall⟩ := hrel
    replace hall := Lib.hid hall
    by_cases hj : j < n
    · obtain ⟨p, hp⟩ : ∃ p, ps[j]? = some p := ⟨_, List.getElem?_eq_getElem (by have := hn.out; omega)⟩
      obtain ⟨b, off, hab, c0, c1, c2, c3, c4⟩ := ha0.out.get j p hp
      subst hab
      clear c0 c1 c2 c3
      replace hp := Lib.hid hp
      by_cases hbig : 200 < p.body.size
      · go_wp2_with (go_at_call 19; refine (awake36_any _).mono ?_; rintro _ _ ⟨rfl, rfl⟩)
        go_ret
        exact ⟨rfl, hw0⟩
      · go_wp2_with fail
        go_roundg (n - (j + 1))
        case measure => omega
        case rel =>
          refine ⟨j + 1, by omega, rfl, rfl, fun i q hi hq => ?_⟩
          by_cases hij : i < j
          · exact hall.out i q hij hq
          · have : i = j := by omega
            subst this
            rw [hp.out] at hq
            cases hq
            omega
    · have e : j = n := by omega
      subst e
      have hbd : ∀ p ∈ ps, p.body.size ≤ 1000 := by
        intro p hp
        obtain ⟨i, hi, rfl⟩ := List.getElem_of_mem hp
        have := hall.out i _ (by have := hn.out; omega) (List.getElem?_eq_getElem hi)
        omega
      replace hbd := Lib.hid hbd
      go_wp2_with (first
        | (go_at_call 21; refine (list_any _ ps j cap W0 ha0.out hn.out (by omega)).mono ?_; rintro _ w1 ⟨v1, rfl, ho1, hb1⟩; obtain ⟨a1, c1, rfl, hs1, hl1, -, -⟩ := owns_sl ho1; replace hs1 := Lib.hid hs1; clear ho1 hl1)
        | (go_at_call 20; refine (join_any a1 ps j c1 w1 hs1.out hn.out (by omega)).mono ?_; rintro _ w2 ⟨rfl, hb2⟩; rw [← hJ.out])
        | (go_at_call 22; refine (rjoin_any _ ps j cap w2 ((ha0.out.below hb1).below hb2) hn.out (by omega) hbd.out hwf.out).mono ?_; rintro _ w3 ⟨rfl, hb3⟩; rw [← hJ.out]))
      have hW3 := ((hW.out.below hb1 hlt).below (hb2.mono hb1.size) hlt).below (hb3.mono (Nat.le_trans hb1.size hb2.size)) hlt
      have hw3 : Below w.heap.size w w3 := hw0.trans ((hb1.mono hw0.size).trans ((hb2.mono (Nat.le_trans hw0.size hb1.size)).trans (hb3.mono (Nat.le_trans hw0.size (Nat.le_trans hb1.size hb2.size)))))
      clear hb1 hb2 hb3 hs1 hall
      refine mix_begin (by kernel_rfl) ?_
      have hW4 : Whole w3.drew w.heap.size 31 #[.int .i64 q0, .int .i64 q1] := hW3.drew
      have hw4 : Below w.heap.size w w3.drew := hw3.drew
      generalize w3.drew = w4 at hW4 hw4 ⊢
      clear hW3 hw3
      have h4 : Below w4.heap.size w4 w4 := Below.refl _ _
      have k0 : ∀ s : Past w4, s.1.cell? ⟨w.heap.size, 0, none⟩ = some (.int .i64 q0) := fun s => s.cell (hW4.cell 0)
      have k1 : ∀ s : Past w4, s.1.cell? ⟨w.heap.size, 1, none⟩ = some (.int .i64 q1) := fun s => s.cell (hW4.cell 1)
      refine mix_take 0 (v := ?_) rfl (by kernel_rfl) (fun _ _ _ h => h) (by kernel_rfl) (by assumption) (fun s => ?hy) ?_; case hy => (go_simp <;> with_reducible rfl)
      try simp only [Act.put, List.setIfInBounds_toArray, List.set_cons_zero, List.set_cons_succ]
      refine mix_take 1 (v := ?_) rfl (by kernel_rfl) (fun _ _ _ h => h) (by kernel_rfl) (by assumption) (fun s => ?hy) ?_; case hy => (go_simp <;> with_reducible rfl)
      try simp only [Act.put, List.setIfInBounds_toArray, List.set_cons_zero, List.set_cons_succ]
      refine mix_take 2 (v := ?_) rfl (by kernel_rfl) (fun _ _ _ h => h) (by kernel_rfl) (by assumption) (fun s => ?hy) ?_; case hy => (go_simp <;> with_reducible rfl)
      try simp only [Act.put, List.setIfInBounds_toArray, List.set_cons_zero, List.set_cons_succ]
      refine mix_take 3 (v := ?_) rfl (by kernel_rfl) (fun _ _ _ h => h) (by kernel_rfl) (by assumption) (fun s => ?hy) ?_; case hy => (go_simp <;> with_reducible rfl)
      try simp only [Act.put, List.setIfInBounds_toArray, List.set_cons_zero, List.set_cons_succ]
      refine mix_take 4 (v := ?_) rfl (by kernel_rfl) (fun _ _ _ h => h) (by kernel_rfl) (by assumption) (fun s => ?hy) ?_; case hy => (go_simp <;> with_reducible rfl)
      try simp only [Act.put, List.setIfInBounds_toArray, List.set_cons_zero, List.set_cons_succ]
      refine mix_take 7 (v := ?_) rfl (by kernel_rfl) (fun _ _ _ h => h) (by kernel_rfl) (by assumption) (fun s => ?hy) ?_; case hy => (go_simp <;> with_reducible rfl)
      try simp only [Act.put, List.setIfInBounds_toArray, List.set_cons_zero, List.set_cons_succ]
      refine mix_take 8 (v := ?_) rfl (by kernel_rfl) (fun _ _ _ h => h) (by kernel_rfl) (by assumption) (fun s => ?hy) ?_; case hy => (go_simp <;> with_reducible rfl)
      try simp only [Act.put, List.setIfInBounds_toArray, List.set_cons_zero, List.set_cons_succ]
      refine mix_take 9 (v := ?_) rfl (by kernel_rfl) (fun _ _ _ h => h) (by kernel_rfl) (by assumption) (fun s => ?hy) ?_; case hy => (go_simp <;> with_reducible rfl)
      try simp only [Act.put, List.setIfInBounds_toArray, List.set_cons_zero, List.set_cons_succ]
      refine mix_take 10 (v := ?_) rfl (by kernel_rfl) (fun _ _ _ h => h) (by kernel_rfl) (by assumption) (fun s => ?hy) ?_; case hy => (go_simp <;> with_reducible rfl)
      try simp only [Act.put, List.setIfInBounds_toArray, List.set_cons_zero, List.set_cons_succ]
      refine mix_take 11 (v := ?_) rfl (by kernel_rfl) (fun _ _ _ h => h) (by kernel_rfl) (by assumption) (fun s => ?hy) ?_; case hy => (go_simp <;> with_reducible rfl)
      try simp only [Act.put, List.setIfInBounds_toArray, List.set_cons_zero, List.set_cons_succ]
      refine mix_one 5 (by kernel_rfl) rfl (by assumption) (fun K hK => ?_)
      go_simp
      (refine (cut_any q0 q1 rec w4 (by omega) hq0.out hq1.out).mono ?_; rintro _ w5 ⟨ac, cc, rfl, hsc, hlc, hb5⟩; rw [← hC.out] at hsc hlc; rw [← hC.out])
      refine hK.out _ _ hb5 fun h5 => ?_
      clear hK K
      skip
      refine mix_one 6 (by kernel_rfl) rfl (by assumption) (fun K hK => ?_)
      go_simp
      (refine (back_any ac C _ cc w5 hsc rfl (by omega)).mono ?_; rintro _ w6 ⟨vb1, rfl, hob, hb6⟩; obtain ⟨ab, cb, rfl, hsb, hlb, -, -⟩ := owns_sl hob)
      refine hK.out _ _ hb6 fun h6 => ?_
      clear hK K
      skip
      refine mix_one 12 (by kernel_rfl) rfl (by assumption) (fun K hK => ?_)
      go_simp
      (refine (rcut_any q0 q1 rec w6 (by omega) hq0.out hq1.out).mono ?_; rintro _ w7 ⟨ar, cr, rfl, hsr, hlr, hb7⟩; rw [← hC.out] at hsr hlr; rw [← hC.out])
      refine hK.out _ _ hb7 fun h7 => ?_
      clear hK K
      skip
      have P0 : Ps w7 ab C := (Ps.below (w := w6) hsb hb7)
      have P1 := pieces_any ab ar C C C.length C.length cb cr w7 P0 hsr rfl rfl (by omega) (by omega)
      refine mix_one 13 (by kernel_rfl) rfl (by assumption) (fun K hK => ?_)
      go_simp
      (refine P1.mono ?_; rintro _ w8 ⟨bb, rfl, hbb, hb8⟩; obtain rfl : bb = true := hbb.2 rfl)
      refine hK.out _ _ hb8 fun h8 => ?_
      clear hK K
      refine mix_take 14 (v := ?_) rfl (by kernel_rfl) (fun _ _ _ h => h) (by kernel_rfl) (by assumption) (fun s => ?hy) ?_; case hy => (go_simp <;> with_reducible rfl)
      try simp only [Act.put, List.setIfInBounds_toArray, List.set_cons_zero, List.set_cons_succ]
      refine mix_take 15 (v := ?_) rfl (by kernel_rfl) (fun _ _ _ h => h) (by kernel_rfl) (by assumption) (fun s => ?hy) ?_; case hy => (go_simp <;> with_reducible rfl)
      try simp only [Act.put, List.setIfInBounds_toArray, List.set_cons_zero, List.set_cons_succ]
      refine mix_take 16 (v := ?_) rfl (by kernel_rfl) (fun _ _ _ h => h) (by kernel_rfl) (by assumption) (fun s => ?hy) ?_; case hy => (go_simp <;> with_reducible rfl)
      try simp only [Act.put, List.setIfInBounds_toArray, List.set_cons_zero, List.set_cons_succ]
      refine mix_take 17 (v := ?_) rfl (by kernel_rfl) (fun _ _ _ h => h) (by kernel_rfl) (by assumption) (fun s => ?hy) ?_; case hy => (go_simp <;> with_reducible rfl)
      try simp only [Act.put, List.setIfInBounds_toArray, List.set_cons_zero, List.set_cons_succ]
      refine mix_take 18 (v := ?_) rfl (by kernel_rfl) (fun _ _ _ h => h) (by kernel_rfl) (by assumption) (fun s => ?hy) ?_; case hy => (go_simp <;> with_reducible rfl)
      try simp only [Act.put, List.setIfInBounds_toArray, List.set_cons_zero, List.set_cons_succ]
      refine mix_take 19 (v := ?_) rfl (by kernel_rfl) (fun _ _ _ h => h) (by kernel_rfl) (by assumption) (fun s => ?hy) ?_; case hy => (go_simp <;> with_reducible rfl)
      try simp only [Act.put, List.setIfInBounds_toArray, List.set_cons_zero, List.set_cons_succ]
      refine mix_take 20 (v := ?_) rfl (by kernel_rfl) (fun _ _ _ h => h) (by kernel_rfl) (by assumption) (fun s => ?hy) ?_; case hy => (go_simp <;> with_reducible rfl)
      try simp only [Act.put, List.setIfInBounds_toArray, List.set_cons_zero, List.set_cons_succ]
      refine mix_take 21 (v := ?_) rfl (by kernel_rfl) (fun _ _ _ h => h) (by kernel_rfl) (by assumption) (fun s => ?hy) ?_; case hy => (go_simp <;> with_reducible rfl)
      try simp only [Act.put, List.setIfInBounds_toArray, List.set_cons_zero, List.set_cons_succ]
      refine mix_take 22 (v := ?_) rfl (by kernel_rfl) (fun _ _ _ h => h) (by kernel_rfl) (by assumption) (fun s => ?hy) ?_; case hy => (go_simp <;> with_reducible rfl)
      try simp only [Act.put, List.setIfInBounds_toArray, List.set_cons_zero, List.set_cons_succ]
      refine mix_take 23 (v := ?_) rfl (by kernel_rfl) (fun _ _ _ h => h) (by kernel_rfl) (by assumption) (fun s => ?hy) ?_; case hy => (go_simp <;> with_reducible rfl)
      try simp only [Act.put, List.setIfInBounds_toArray, List.set_cons_zero, List.set_cons_succ]
      refine mix_take 24 (v := ?_) rfl (by kernel_rfl) (fun _ _ _ h => h) (by kernel_rfl) (by assumption) (fun s => ?hy) ?_; case hy => (go_simp <;> with_reducible rfl)
      try simp only [Act.put, List.setIfInBounds_toArray, List.set_cons_zero, List.set_cons_succ]
      refine mix_one 25 (by kernel_rfl) rfl (by assumption) (fun K hK => ?_)
      go_simp
      (refine (awake36_any w8).mono ?_; rintro _ w9 ⟨rfl, rfl⟩)
      refine hK.out _ _ (Below.refl _ _) fun h9 => ?_
      clear hK K
      refine mix_take 26 (v := ?_) rfl (by kernel_rfl) (fun _ _ _ h => h) (by kernel_rfl) (by assumption) (fun s => ?hy) ?_; case hy => (go_simp <;> with_reducible rfl)
      try simp only [Act.put, List.setIfInBounds_toArray, List.set_cons_zero, List.set_cons_succ]
      refine mix_take 27 (v := ?_) rfl (by kernel_rfl) (fun _ _ _ h => h) (by kernel_rfl) (by assumption) (fun s => ?hy) ?_; case hy => (go_simp <;> with_reducible rfl)
      try simp only [Act.put, List.setIfInBounds_toArray, List.set_cons_zero, List.set_cons_succ]
      refine wpAnyH_done (by kernel_rfl) ?_ _
      clear h8 h9
      go_wp2_with fail
      go_ret
      exact ⟨rfl, hw4.trans ((hb5.mono hw4.size).trans ((hb6.mono (Nat.le_trans hw4.size hb5.size)).trans ((hb7.mono (Nat.le_trans hw4.size (Nat.le_trans hb5.size hb6.size))).trans (hb8.mono (Nat.le_trans hw4.size (Nat.le_trans hb5.size (Nat.le_trans hb6.size hb7.size)))))))⟩

theorem cuts_any (q0 q1 : Int) (rec : ByteArray) (a : Option Addr) (ps : List Pc) (n cap : Nat) (w : World) (ha : Ps w a ps) (hn : n = ps.length) (hnm : n ≤ maxLen) (hrm : rec.size ≤ maxLen)
    (hwf : ∀ p ∈ ps, (-9223372036854775808 ≤ p.life ∧ p.life ≤ 9223372036854775807) ∧ (-9223372036854775808 ≤ p.place ∧ p.place ≤ 9223372036854775807))
    (hq0 : -9223372036854775808 ≤ q0 ∧ q0 ≤ 9223372036854775807) (hq1 : -9223372036854775808 ≤ q1 ∧ q1 ≤ 9223372036854775807) :
    Calls Try.prog 5 #[.agg #[.int .i64 q0, .int .i64 q1], .string rec, .slice a n cap] w fun e w' => e = .returned (.bool true) ∧ Below w.heap.size w w' := by
  by_cases h1 : rec.size ≤ 600
  · by_cases h2 : n ≤ 20
    · exact cuts_main q0 q1 rec a ps n cap w ha hn h2 h1 hwf hq0 hq1
    · unfold maxLen at hnm hrm
      clear hwf hq0 hq1 hn ha
      have h3 : 20 < n := by omega
      go_enter Try.func5, Try.ntmps5
      go_wp2_with (go_at_call 19; refine (awake36_any _).mono ?_; rintro _ _ ⟨rfl, rfl⟩)
      go_ret
      exact ⟨rfl, (Below.refl _ _).alloc (Nat.le_refl _) _⟩
  · unfold maxLen at hnm hrm
    clear hwf hq0 hq1 hn ha
    have h3 : 600 < rec.size := by omega
    go_enter Try.func5, Try.ntmps5
    go_wp2_with (go_at_call 19; refine (awake36_any _).mono ?_; rintro _ _ ⟨rfl, rfl⟩)
    go_ret
    exact ⟨rfl, (Below.refl _ _).alloc (Nat.le_refl _) _⟩

end Go.Proofs.Ytcpkmgmdhjhfaaa
