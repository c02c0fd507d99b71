/- The walks of pieces: the reference's cut. -/
import Derived.Test.YtcpkmgmdhjhfaaaPiece2
set_option linter.unusedSimpArgs false
set_option linter.unusedVariables false
namespace Go.Proofs.Ytcpkmgmdhjhfaaa
open Go.RowKit Go.Ofp
set_option linter.unusedVariables false
set_option maxRecDepth 100000
set_option maxHeartbeats 4000000

theorem rcut_any (life place : Int) (rec : ByteArray) (w : World) (hr : rec.size ≤ 1000000) (hl : -9223372036854775808 ≤ life ∧ life ≤ 9223372036854775807) (hp : -9223372036854775808 ≤ place ∧ place ≤ 9223372036854775807) :
    Calls Try.prog 26 #[.int .i64 life, .int .i64 place, .string rec] w fun e w' => ∃ a cap, e = .returned (.slice a (cutB life place rec).length cap) ∧ Ps w' a (cutB life place rec) ∧ (cutB life place rec).length ≤ cap ∧ Below w.heap.size w w' := by
  have hm := manyB_pos rec.size
  have hmb := manyB_bound rec.size
  have hml := manyB_lt rec.size
  obtain ⟨mm, hmm⟩ : ∃ mm, mm = manyB rec.size := ⟨_, rfl⟩
  rw [← hmm] at hm hmb hml
  by_cases hpl : 0 ≤ place ∧ place ≤ 1099511627776
  · obtain ⟨hp0, hp1⟩ := hpl
    have hcut : ∀ j : Nat, j < mm → Pc.ok (pieceAt life place rec mm j) = false → cutB life place rec = [] := by
      intro j hj hb
      rw [hmm, pieceAt_ok _ _ _ _ (by omega) hp0] at hb
      rw [cutB, ← hmm, if_neg]
      rw [cutOk_iff]
      simp at hb
      omega
    have hfull : (∀ j : Nat, j < mm → Pc.ok (pieceAt life place rec mm j) = true) → cutB life place rec = (List.range mm).map (pieceAt life place rec mm) := by
      intro h
      have h0 := h 0 hm
      have h1 := h (mm - 1) (by omega)
      rw [hmm, pieceAt_ok _ _ _ _ (by omega) hp0] at h0 h1
      rw [cutB, ← hmm, if_pos]
      rw [cutOk_iff]
      simp at h0 h1
      omega
    replace hmm := Lib.hid hmm
    replace hcut := Lib.hid hcut
    replace hfull := Lib.hid hfull
    generalize hC : cutB life place rec = C
    replace hC := Lib.hid hC
    go_enter Try.func26, Try.ntmps26
    go_wp2_with (first
      | (go_at_call 47; refine (rmany_any _ _ (by unfold maxLen; omega)).mono ?_; rintro _ _ ⟨rfl, rfl⟩; rw [← hmm.out]))
    go_loopg [7, 9] mm (fun gk vo vi wr => ∃ (j : Nat), j + gk = mm ∧ vi = .int .i64 j ∧ wr.ownsRow w.heap.size 34 5 vo j (((List.range j).map (pieceAt life place rec mm)).map Pc.row).flatten ∧ Below w.heap.size w wr ∧ ∀ i : Nat, i < j → Pc.ok (pieceAt life place rec mm i) = true)
    case atStart => exact ⟨0, by omega, rfl, World.ownsRow_lit w #[] 0 (Nat.le_refl _) (by unfold maxLen; omega) rfl, (Below.refl _ _).alloc (Nat.le_refl _) _, fun i hi => absurd hi (by omega)⟩
    case round =>
      obtain ⟨j, hjk, rfl, ho, hb, hall⟩ := hrel
      by_cases hj : j < mm
      · replace ho := Lib.hid ho
        replace hall := Lib.hid hall
        have hj52 : j * 52 ≤ rec.size := by omega
        have h0 : ((j : Int) == 0) = (j == 0) := by rw [Bool.eq_iff_iff]; simp
        have h1 : ((j : Int) == (mm : Int) - 1) = (j == mm - 1) := by rw [Bool.eq_iff_iff]; simp; omega
        obtain ⟨b, hbk⟩ : ∃ b, Pc.ok (pieceAt life place rec mm j) = b := ⟨_, rfl⟩
        have pA : ∀ k : Nat, k = min rec.size ((j + 1) * 52) → pieceAt life place rec mm j = ⟨life, place + j, (j : Int) == 0, (j : Int) == (mm : Int) - 1, rec.extract (j * 52) k⟩ := by
          intro k hk
          rw [h0, h1, hk]
          rfl
        have cA : ∀ k : Nat, k = min rec.size ((j + 1) * 52) → ∀ W : World, Calls Try.prog 42 #[.agg #[.int .i64 life, .int .i64 (place + j), .bool ((j : Int) == 0), .bool ((j : Int) == (mm : Int) - 1), .string (rec.extract (j * 52) k)]] W fun e w' => e = .returned (.bool b) ∧ Below W.heap.size W w' := by
          intro k hk W
          have := rcheck_any (pieceAt life place rec mm j) W
          rw [hbk, pA k hk] at this
          exact this
        have pR : ∀ k : Nat, k = min rec.size ((j + 1) * 52) → (pieceAt life place rec mm j).row = [.int .i64 life, .int .i64 (place + j), .bool ((j : Int) == 0), .bool ((j : Int) == (mm : Int) - 1), .string (rec.extract (j * 52) k)] := by
          intro k hk
          rw [pA k hk]
          rfl
        have h1s : ∀ s : ByteArray, ∀ u ∈ ([.int .i64 life, .int .i64 (place + j), .bool ((j : Int) == 0), .bool ((j : Int) == (mm : Int) - 1), .string s] : List Value), u.oneCell' = true := fun s => row_one ⟨life, place + j, (j : Int) == 0, (j : Int) == (mm : Int) - 1, s⟩
        clear h0 h1 pA
        replace hbk := Lib.hid hbk
        replace cA := Lib.hid cA
        replace pR := Lib.hid pR
        replace h1s := Lib.hid h1s
        by_cases hsz : (rec.size : Int) ≤ ((j : Int) + 1) * 52
        · go_wp2_with (first
            | (go_at_call 42; refine (cA.out _ (by omega) _).mono ?_; rintro _ w1 ⟨rfl, hb1⟩; have hW := (Whole.new wr 34 _).below hb1 (by simp); have c0 := hW.cell 0; have c1 := hW.cell 1; have c2 := hW.cell 2; have c3 := hW.cell 3; have c4 := hW.cell 4; simp at c0 c1 c2 c3 c4; clear hW)
            | (at_builtin; refine wpList_app (s := .tmp 51) (x := .tmp 53) (base := w.heap.size) rfl rfl Try.underlying32 elem_rpc ((owns_below ((owns_below ho.out ((Below.refl _ _).alloc (Nat.le_refl _) _))) hb1).alloc _) rfl (Src.slice Try.underlying32 (Sl.new _ _ _ _) (by simp)) rfl (h1s.out _) (by omega) (by unfold maxLen; omega) (by have := hb.size; have := hb1.size; simp at this ⊢; omega) ?_; intro v' w' ho' hb' hg' hv'))
          · go_ret
            have hbf : b = false := by simpa using ‹(!b) = true›
            have hn := hcut.out j hj (by rw [hbk.out, hbf])
            rw [hC.out] at hn
            subst hn
            exact ⟨none, 0, rfl, Sl.nil _ _, Nat.le_refl _, hb.trans (((Below.refl _ _).alloc hb.size _).trans (hb1.mono (by have := hb.size; simp; omega)))⟩
          · go_roundg (mm - (j + 1))
            case measure => omega
            case rel =>
              refine ⟨j + 1, by omega, rfl, ?_, hb.trans (((Below.refl _ _).alloc hb.size _).trans ((hb1.mono (by have := hb.size; simp; omega)).trans (Below.trans ((Below.refl _ _).alloc (by have := hb.size; have := hb1.size; simp at this; omega) _) hb'))), ?_⟩
              · rw [← rows_next, pR.out rec.size (by omega)]
                exact ho'
              · intro i hi
                by_cases hij : i < j
                · exact hall.out i hij
                · have : i = j := by omega
                  subst this
                  rw [hbk.out]
                  simpa using ‹(!b) = false›
        · go_wp2_with (first
            | (go_at_call 42; refine (cA.out _ (by omega) _).mono ?_; rintro _ w1 ⟨rfl, hb1⟩; have hW := (Whole.new wr 34 _).below hb1 (by simp); have c0 := hW.cell 0; have c1 := hW.cell 1; have c2 := hW.cell 2; have c3 := hW.cell 3; have c4 := hW.cell 4; simp at c0 c1 c2 c3 c4; clear hW)
            | (at_builtin; refine wpList_app (s := .tmp 51) (x := .tmp 53) (base := w.heap.size) rfl rfl Try.underlying32 elem_rpc ((owns_below ((owns_below ho.out ((Below.refl _ _).alloc (Nat.le_refl _) _))) hb1).alloc _) rfl (Src.slice Try.underlying32 (Sl.new _ _ _ _) (by simp)) rfl (h1s.out _) (by omega) (by unfold maxLen; omega) (by have := hb.size; have := hb1.size; simp at this ⊢; omega) ?_; intro v' w' ho' hb' hg' hv'))
          · go_ret
            have hbf : b = false := by simpa using ‹(!b) = true›
            have hn := hcut.out j hj (by rw [hbk.out, hbf])
            rw [hC.out] at hn
            subst hn
            exact ⟨none, 0, rfl, Sl.nil _ _, Nat.le_refl _, hb.trans (((Below.refl _ _).alloc hb.size _).trans (hb1.mono (by have := hb.size; simp; omega)))⟩
          · go_roundg (mm - (j + 1))
            case measure => omega
            case rel =>
              refine ⟨j + 1, by omega, rfl, ?_, hb.trans (((Below.refl _ _).alloc hb.size _).trans ((hb1.mono (by have := hb.size; simp; omega)).trans (Below.trans ((Below.refl _ _).alloc (by have := hb.size; have := hb1.size; simp at this; omega) _) hb'))), ?_⟩
              · rw [← rows_next, pR.out ((j + 1) * 52) (by omega)]
                exact ho'
              · intro i hi
                by_cases hij : i < j
                · exact hall.out i hij
                · have : i = j := by omega
                  subst this
                  rw [hbk.out]
                  simpa using ‹(!b) = false›
      · have e : j = mm := by omega
        subst e
        replace ho := Lib.hid ho
        go_wp2_with fail
        go_ret
        have hf := hfull.out hall
        rw [hC.out] at hf
        subst hf
        obtain ⟨a8, c8, rfl, hs8, hn8, hc8, hm8⟩ := owns_sl ho.out
        exact ⟨a8, c8, by simp, hs8, by simpa using hc8, hb⟩
  · have hc : cutB life place rec = [] := by rw [cutB, ← hmm, if_neg]; rw [cutOk_iff]; omega
    rw [hc]
    replace hmm := Lib.hid hmm
    clear hc
    go_enter Try.func26, Try.ntmps26
    go_wp2_with (first
      | (go_at_call 47; refine (rmany_any _ _ (by unfold maxLen; omega)).mono ?_; rintro _ _ ⟨rfl, rfl⟩; rw [← hmm.out]))
    all_goals
      go_ret
      first
        | exact ⟨none, ⟨0, rfl⟩, Sl.nil _ _, (Below.refl _ _).alloc (Nat.le_refl _) _⟩
        | exact ⟨none, 0, rfl, Sl.nil _ _, Nat.le_refl _, (Below.refl _ _).alloc (Nat.le_refl _) _⟩

end Go.Proofs.Ytcpkmgmdhjhfaaa
