/- The walks of pieces: cut, joined, compared. -/
import Derived.Test.YtcpkmgmdhjhfaaaPiece
import Derived.Test.YtcpkmgmdhjhfaaaPieceEq
import Derived.Test.YtcpkmgmdhjhfaaaMix
set_option linter.unusedSimpArgs false
set_option linter.unusedVariables false
namespace Go.Proofs.Ytcpkmgmdhjhfaaa
open Go.RowKit Go.Ofp
set_option linter.unusedVariables false
set_option maxRecDepth 100000
set_option maxHeartbeats 4000000

theorem pieces_any (a a' : Option Addr) (ps qs : List Pc) (n n' cap cap' : Nat) (w : World) (ha : Ps w a ps) (ha' : Ps w a' qs) (hn : n = ps.length) (hn' : n' = qs.length) (hn1 : n ≤ 1000000000) (hn2 : n' ≤ 1000000000) :
    Calls Try.prog 23 #[.slice a n cap, .slice a' n' cap'] w fun e w' => ∃ b : Bool, e = .returned (.bool b) ∧ (b = true ↔ ps = qs) ∧ Below w.heap.size w w' := by
  replace ha := Lib.hid ha
  replace hn := Lib.hid hn
  replace ha' := Lib.hid ha'
  replace hn' := Lib.hid hn'
  by_cases hl : n = n'
  · subst hl
    go_enter Try.func23, Try.ntmps23
    go_wp2_with fail
    go_loopg [5] n (fun gk i wr => ∃ j m : Nat, j + gk = n ∧ i = .int .i64 j ∧ wr = w.drewN m ∧ ∀ i p q, i < j → ps[i]? = some p → qs[i]? = some q → p = q)
    case atStart => exact ⟨0, 0, by omega, rfl, rfl, fun i p q h => absurd h (by omega)⟩
    case round =>
      obtain ⟨j, m, hjk, rfl, rfl, hall⟩ := hrel
      replace hall := Lib.hid hall
      by_cases hj : j < n
      · obtain ⟨p, hp⟩ : ∃ p, ps[j]? = some p := ⟨_, List.getElem?_eq_getElem (by have := hn.out; omega)⟩
        obtain ⟨q, hq⟩ : ∃ p, qs[j]? = some p := ⟨_, List.getElem?_eq_getElem (by have := hn'.out; omega)⟩
        obtain ⟨b, off, hab, c0, c1, c2, c3, c4⟩ := ha.out.get j p hp
        obtain ⟨b', off', hab', d0, d1, d2, d3, d4⟩ := ha'.out.get j q hq
        subst hab
        subst hab'
        replace hp := Lib.hid hp
        replace hq := Lib.hid hq
        have zn := neq_rpc p q
        have zg := guard_rpc
        have hb := pcBeq_iff p q
        generalize pcBeq p q = bb at zn hb
        replace hb := Lib.hid hb
        cases bb with
        | false =>
          go_wp2_with fail
          go_quiet (fail)
          go_wp2_with fail
          go_ret
          refine ⟨false, rfl, ?_, below_drewN (below_drewN (Below.refl _ _) m) nq⟩
          simp only [Bool.false_eq_true, false_iff]
          rintro rfl
          have h1 := hp.out
          rw [hq.out] at h1
          cases h1
          exact absurd (hb.out.2 rfl) (by simp)
        | true =>
          go_wp2_with fail
          go_quiet (fail)
          go_wp2_with fail
          go_roundg (n - (j + 1))
          case measure => omega
          case rel =>
            refine ⟨j + 1, m + nq, by omega, rfl, rfl, fun i x y hi hx hy => ?_⟩
            by_cases hij : i < j
            · exact hall.out i x y hij hx hy
            · have : i = j := by omega
              subst this
              rw [hp.out] at hx
              rw [hq.out] at hy
              cases hx
              cases hy
              exact hb.out.1 trivial
      · have e : j = n := by omega
        subst e
        go_wp2_with fail
        go_ret
        refine ⟨true, rfl, ?_, below_drewN (Below.refl _ _) m⟩
        simp only [true_iff]
        refine List.ext_getElem? fun i => ?_
        have h1 := hn.out
        have h2 := hn'.out
        by_cases hi : i < j
        · obtain ⟨p, hp⟩ : ∃ p, ps[i]? = some p := ⟨_, List.getElem?_eq_getElem (by omega)⟩
          obtain ⟨q, hq⟩ : ∃ p, qs[i]? = some p := ⟨_, List.getElem?_eq_getElem (by omega)⟩
          rw [hp, hq, hall.out i p q hi hp hq]
        · rw [List.getElem?_eq_none (by omega), List.getElem?_eq_none (by omega)]
  · go_enter Try.func23, Try.ntmps23
    go_wp2_with fail
    go_ret
    refine ⟨false, rfl, ?_, Below.refl _ _⟩
    have := hn.out
    have := hn'.out
    simp
    rintro rfl
    omega


theorem cut_row (life place : Int) (rec : ByteArray) (mm j k : Nat) (r : ByteArray) (hmm : mm = manyB rec.size) (hr2 : r.data.toList = rec.data.toList.drop (j * 52)) (hk : k = min r.size 52) (hj : j < mm) :
    [Value.int .i64 life, .int .i64 (place + j), .bool ((j : Int) == 0), .bool ((j : Int) == (mm : Int) - 1), .string (r.extract 0 k)] = (pieceAt life place rec mm j).row := by
  have hb : r.extract 0 k = (pieceAt life place rec mm j).body := by
    apply ba_ext
    rw [hmm, pieceAt_body, extract_list, hr2, List.drop_zero, hk]
    have hs : r.size = (rec.data.toList.drop (j * 52)).length := by rw [ba_size, hr2]
    by_cases h : r.size ≤ 52
    · rw [Nat.min_eq_left h, List.take_of_length_le (by omega), List.take_of_length_le (by omega)]
    · rw [Nat.min_eq_right (by omega)]
  have h0 : ((j : Int) == 0) = (j == 0) := by rw [Bool.eq_iff_iff]; simp
  have h1 : ((j : Int) == (mm : Int) - 1) = (j == mm - 1) := by rw [Bool.eq_iff_iff]; simp; omega
  rw [hb, h0, h1]
  simp [Pc.row, pieceAt]

theorem rows_next (life place : Int) (rec : ByteArray) (mm j : Nat) : (((List.range j).map (pieceAt life place rec mm)).map Pc.row).flatten ++ (pieceAt life place rec mm j).row = (((List.range (j + 1)).map (pieceAt life place rec mm)).map Pc.row).flatten := by
  rw [List.range_succ]
  simp

theorem rest_next (rec r r' : ByteArray) (j : Nat) (hr2 : r.data.toList = rec.data.toList.drop (j * 52)) (h : r' = r.extract 52 r.size ∨ (r' = ByteArray.empty ∧ r.size ≤ 52)) : r'.data.toList = rec.data.toList.drop ((j + 1) * 52) := by
  have e : rec.data.toList.drop ((j + 1) * 52) = r.data.toList.drop 52 := by rw [hr2, List.drop_drop]; congr 1; omega
  rw [e]
  rcases h with rfl | ⟨rfl, h⟩
  · rw [extract_list, List.take_of_length_le]
    rw [List.length_drop, ba_size]
    omega
  · rw [List.drop_eq_nil_of_le (by rw [← ba_size]; exact h)]
    rfl

theorem cut_any (life place : Int) (rec : ByteArray) (w : World) (hr : rec.size ≤ 1000000) (hl : -9223372036854775808 ≤ life ∧ life ≤ 9223372036854775807) (hp : -9223372036854775808 ≤ place ∧ place ≤ 9223372036854775807) :
    Calls Try.prog 25 #[.int .i64 life, .int .i64 place, .string rec] w fun e w' => ∃ a cap, e = .returned (.slice a (cutB life place rec).length cap) ∧ Ps w' a (cutB life place rec) ∧ (cutB life place rec).length ≤ cap ∧ Below w.heap.size w w' := by
  have hm := manyB_pos rec.size
  have hmb := manyB_bound rec.size
  obtain ⟨mm, hmm⟩ : ∃ mm, mm = manyB rec.size := ⟨_, rfl⟩
  rw [cutB, ← hmm]
  rw [← hmm] at hm hmb
  by_cases hpl : 0 ≤ place ∧ place + mm ≤ 1099511627776
  · by_cases hlf : 1 ≤ life ∧ life < 4294967296
    · have hc : cutOk life place mm = true := by rw [cutOk_iff]; omega
      rw [if_pos hc]
      clear hc
      have hok : Pc.ok ⟨life, 0, false, false, ⟨#[]⟩⟩ = true := by rw [Pc.ok_iff]; simp [ByteArray.size]; omega
      have hlen : ((List.range mm).map (pieceAt life place rec mm)).length = mm := by simp
      rw [hlen]
      replace hok := Lib.hid hok
      replace hmm := Lib.hid hmm
      clear hlen
      obtain ⟨hp0, hp1⟩ := hpl
      go_enter Try.func25, Try.ntmps25
      go_wp2_with (first
        | (go_at_call 46; refine (many_any _ _ (by unfold maxLen; omega)).mono ?_; rintro _ _ ⟨rfl, rfl⟩; rw [← hmm.out])
        | (go_at_call 40; refine (check_any ⟨life, 0, false, false, ⟨#[]⟩⟩ w).mono ?_; rintro _ w1 ⟨rfl, hb1⟩; rw [hok.out])
        | (at_make; refine wpList_mk rfl rfl Try.underlying37 elem_pc rfl rfl mm (by simp) (by omega) (by unfold maxLen; omega) ?_; intro w2 ho2 hg2))
      go_loopg [2, 8, 31] mm (fun gk vr vo vi wr => ∃ (j : Nat) (r : ByteArray), j + gk = mm ∧ vi = .int .i64 j ∧ vr = .string r ∧ r.data.toList = rec.data.toList.drop (j * 52) ∧ wr.ownsRow w1.heap.size 58 5 vo j (((List.range j).map (pieceAt life place rec mm)).map Pc.row).flatten ∧ Below w1.heap.size w1 wr)
      case atStart => exact ⟨0, rec, by omega, rfl, rfl, by simp, ho2, below_grown hg2⟩
      case round =>
        obtain ⟨j, r, hjk, rfl, rfl, hr2, ho, hb⟩ := hrel
        have hrs : r.size = rec.size - j * 52 := by rw [ba_size, ba_size, hr2, List.length_drop]
        by_cases hj : j < mm
        · replace ho := Lib.hid ho
          replace hr2 := Lib.hid hr2
          go_wp2_with (at_builtin; refine wpList_app (s := .tmp 37) (x := .tmp 52) (base := w1.heap.size) rfl rfl Try.underlying37 elem_pc (ho.out.alloc _) rfl (Src.slice Try.underlying37 (Sl.new _ _ _ _) (by simp)) rfl (row_one ⟨_, _, _, _, _⟩) (by omega) (by unfold maxLen; omega) (by have := hb.size; simp; omega) ?_; intro v' w' ho' hb' hg' hv')
          · go_roundg (mm - (j + 1))
            case measure => omega
            case rel =>
              refine ⟨j + 1, _, by omega, rfl, rfl, rest_next rec r _ j hr2.out (.inl (by rw [hrs])), ?_, (hb.alloc hb.size _).trans hb'⟩
              rw [← rows_next, ← cut_row life place rec mm j _ r hmm.out hr2.out rfl hj]
              have : (min r.size 52) = (if 52 < (((rec.size - j * 52 : Nat)) : Int) then (52 : Int) else ((rec.size - j * 52 : Nat) : Int)).toNat := by split <;> omega
              rw [this]
              exact ho'
          · go_roundg (mm - (j + 1))
            case measure => omega
            case rel =>
              refine ⟨j + 1, _, by omega, rfl, rfl, rest_next rec r _ j hr2.out (.inr ⟨rfl, by omega⟩), ?_, (hb.alloc hb.size _).trans hb'⟩
              rw [← rows_next, ← cut_row life place rec mm j _ r hmm.out hr2.out rfl hj]
              have : (min r.size 52) = (if 52 < (((rec.size - j * 52 : Nat)) : Int) then (52 : Int) else ((rec.size - j * 52 : Nat) : Int)).toNat := by split <;> omega
              rw [this]
              exact ho'
        · have e : j = mm := by omega
          subst e
          obtain ⟨a8, c8, rfl, hs8, hn8, hc8, hm8⟩ := owns_sl ho
          obtain ⟨b8, o8, rfl⟩ := hs8.cells (by intro hx; rw [hx] at hn8; simp at hn8; omega)
          replace hs8 := Lib.hid hs8
          replace hmm := Lib.hid hmm
          clear ho2 ho
          go_wp2_with fail
          go_ret
          refine ⟨_, _, rfl, ?_, ?_, ?_⟩
          · exact hs8.out
          · exact Nat.le_refl _
          · exact hb1.trans (hb.mono hb1.size)
    · have hc : ¬ cutOk life place mm = true := by rw [cutOk_iff]; omega
      rw [if_neg hc]
      clear hc
      have hok : Pc.ok ⟨life, 0, false, false, ⟨#[]⟩⟩ = false := by rw [Bool.eq_false_iff, ne_eq, Pc.ok_iff]; simp; omega
      replace hok := Lib.hid hok
      replace hmm := Lib.hid hmm
      go_enter Try.func25, Try.ntmps25
      go_wp2_with (first
        | (go_at_call 46; refine (many_any _ _ (by unfold maxLen; omega)).mono ?_; rintro _ _ ⟨rfl, rfl⟩; rw [← hmm.out])
        | (go_at_call 40; refine (check_any ⟨life, 0, false, false, ⟨#[]⟩⟩ w).mono ?_; rintro _ w1 ⟨rfl, hb1⟩; rw [hok.out]))
      go_ret
      exact ⟨none, 0, rfl, Sl.nil _ _, Nat.le_refl _, hb1⟩
  · have hc : ¬ cutOk life place mm = true := by rw [cutOk_iff]; omega
    rw [if_neg hc]
    clear hc
    replace hmm := Lib.hid hmm
    go_enter Try.func25, Try.ntmps25
    go_wp2_with (first
      | (go_at_call 46; refine (many_any _ _ (by unfold maxLen; omega)).mono ?_; rintro _ _ ⟨rfl, rfl⟩; rw [← hmm.out])
      | (go_at_call 40; exfalso; omega))
    all_goals
      go_ret
      exact ⟨none, ⟨0, rfl⟩, Sl.nil _ _, Below.refl _ _⟩

end Go.Proofs.Ytcpkmgmdhjhfaaa
