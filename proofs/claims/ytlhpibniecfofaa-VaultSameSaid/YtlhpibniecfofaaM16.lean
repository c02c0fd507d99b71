/- Texts laid together: VaultSame. -/
import Derived.ChangeSlices
import Derived.Test.YtlhpibniecfofaaM15
section
/- The law VaultSame. -/
set_option linter.unusedSimpArgs false
set_option linter.unusedVariables false
namespace Go.Proofs.Ytlhpibniecfofaa
open Go.RowKit Go.Ofp
set_option linter.unusedVariables false
set_option maxRecDepth 100000
set_option maxHeartbeats 4000000

theorem vlmany_any (n : Nat) (w : World) (hn : n ≤ 900000) : Calls Try.prog 64 #[.int .i64 n] w fun e w' => e = .returned (.int .i64 (manyB (n + 1) : Nat)) ∧ w = w' := by
  have cP := fun W : World => many_any (n + 1) W (by unfold maxLen; omega)
  have e1 : ((n + 1 : Nat) : Int) = (n : Int) + 1 := by omega
  rw [e1] at cP
  replace cP := Lib.hid cP
  generalize manyB (n + 1) = mm at *
  clear e1
  go_enter Try.func64, Try.ntmps64
  go_wp2_with (first
    | (go_at_call 83; (with_reducible refine (cP.out _).mono ?_); rintro _ _ ⟨rfl, rfl⟩))
  go_ret
  exact ⟨rfl, rfl⟩
theorem same39_main (text next : ByteArray) (a : Option Addr) (n c : Nat) (l : List ByteArray) (w : World) (hl : Sl w a (l.map vs)) (hn : l.length = n) (h1 : text.size ≤ 300) (h2 : next.size ≤ 300) (h3 : n ≤ 10) :
    Calls Try.prog 9 #[.string text, .slice a n c, .string next] w fun e w' => e = .returned (.bool true) ∧ Below w.heap.size w w' := by
  have hS := St.start w
  have ex := elem_tx
  have cA0 := fun W : World => awake39_any W
  have cN : ∀ W : World, Calls Try.prog 11 #[.int .i64 100] W fun e w' => ∃ bd sv wv, e = .returned (.pointer (some ⟨bd, 0, none⟩)) ∧ St W [] (dks bd sv wv (Dk.new 100)) w' := fun W => new_any 100 W (by decide) (by decide)
  have hmt := many_300 (n := text.size + 1) (by omega)
  have hmn := many_300 (n := next.size + 1) (by omega)
  have cF : ∀ (bd : Nat) (sv wv : Value) (W : World), St W (feet (dks bd sv wv (Dk.new 100))) (dks bd sv wv (Dk.new 100)) W → Calls Try.prog 58 #[.pointer (some ⟨bd, 0, none⟩), .string text] W fun e w' => e = .returned (.int .i64 0) ∧ ∃ wv' d, Hid (Founds d 100 ⟨1, 1, 0⟩ [wholeB text] (manyB (text.size + 1)) ∧ d.Fit 100 0) ∧ St W (feet (dks bd sv wv (Dk.new 100))) (dks bd sv wv' d) w' :=
    fun bd sv wv W hh => (vformat_new bd sv wv 100 text W hh (by decide) (by decide) (by omega) (by omega)).mono fun e w' ⟨h1, wv', d, h2, h3, h4⟩ => ⟨h1, wv', d, Lib.hid ⟨h2, h3⟩, h4⟩
  have cO : ∀ (bd : Nat) (sv wv : Value) (d : Dk) (W : World), Hid (Founds d 100 ⟨1, 1, 0⟩ [wholeB text] (manyB (text.size + 1)) ∧ d.Fit 100 0) → St W (feet (dks bd sv wv d)) (dks bd sv wv d) W → Calls Try.prog 59 #[.pointer (some ⟨bd, 0, none⟩)] W fun e w' => ∃ g gr av cv wv' d', e = .returned (.tuple #[.pointer (some ⟨g, 0, none⟩), .string text, .slice av 0 cv, .int .i64 0]) ∧ Hid (Lies d' 100 ⟨2, 2, 0⟩ ⟨2, 98, 0, manyB (text.size + 1), 2⟩ ([wholeB text] ++ (l.take 0).map stepB) ∧ d'.Fit 100 0) ∧ St W (feet (dks bd sv wv d)) (vts g gr bd sv wv' d' ⟨2, 98, 0, manyB (text.size + 1), 2⟩ ⟨2, 2, 0⟩ false) w' := by
    intro bd sv wv d W hh hk
    refine (vopen_founds bd sv wv d 100 _ _ _ _ _ hh.out.1 (split_one _) hh.out.2 (by decide) (by decide) (by decide) W hk).mono ?_
    rintro e w' ⟨g, gr, v, wv', d', rfl, h2, h3, _, h4⟩
    obtain ⟨av, cv, rfl, -⟩ := h4.row 0 rfl
    exact ⟨g, gr, av, cv, wv', d', rfl, Lib.hid ⟨h2, h3⟩, h4.drop⟩
  replace cA0 := Lib.hid cA0
  replace cN := Lib.hid cN
  replace cF := Lib.hid cF
  replace cO := Lib.hid cO
  replace hl := Lib.hid hl
  replace hn := Lib.hid hn
  have d1 : decide ((300 : Int) < (text.size : Int)) = false := decide_eq_false (by omega)
  have d2 : decide ((300 : Int) < (next.size : Int)) = false := decide_eq_false (by omega)
  have d3 : decide ((10 : Int) < (n : Int)) = false := decide_eq_false (by omega)
  generalize hmt0 : manyB (text.size + 1) = mt at *
  replace hmt0 := Lib.hid hmt0
  generalize Dk.new 100 = d0 at *
  go_enter Try.func9, Try.ntmps9
  go_wp2_with (first
    | (go_at_call 11; (with_reducible refine (cN.out _).mono ?_); rintro _ w2 ⟨bd, sv, wv, rfl, hk⟩; have hS1 := hS.made hk; clear hS hk; have hS : St w [] ([] ++ (dks bd sv wv d0 ++ [])) w2 := hS1; clear hS1)
    | (go_at_call 58; (with_reducible refine (cF.out _ _ _ _ hS.preM).mono ?_); rintro _ w3 ⟨rfl, wv3, d3', hF3, hk⟩; have hS1 := hS.callM hk; clear hS hk; have hS := hS1; clear hS1)
    | (go_at_call 59; (with_reducible refine (cO.out _ _ _ _ _ hF3 hS.preM).mono ?_); rintro _ w4 ⟨g, gr, av4, cv4, wv4, d4, rfl, hF4, hk⟩; have hS1 := hS.callM hk; clear hS hk; have hS := hS1; clear hS1))
  clear cN cF cO hF3
  go_loopg [12] n (fun gk vi wr => ∃ (i : Nat) (sv wv : Value) (d : Dk) (r : Rg), i + gk = n ∧ vi = .int .i64 i ∧ Hid (Lies d 100 ⟨2, 2, 0⟩ r ([wholeB text] ++ (l.take i).map stepB) ∧ d.Fit 100 0) ∧ r.tail ≤ 6 + 6 * i ∧ St w [] ([] ++ (vts g gr bd sv wv d r ⟨2, 2, 0⟩ false ++ [])) wr)
  case atStart => exact ⟨0, _, _, _, _, Nat.zero_add _, rfl, hF4, by simp only; omega, hS⟩
  case round =>
    clear hS hF4
    obtain ⟨i, sv, wv, d, r, hin, rfl, hF, ht, hS⟩ := hrel
    by_cases hlt : i < n
    · have hil : i < l.length := by rw [hn.out]; exact hlt
      obtain ⟨b9, o9, e9, hci⟩ := sl_text hl.out i hil
      subst e9
      have hcw := hS.old hci (by simp)
      have hnx : (l.take (i + 1)).map stepB = (l.take i).map stepB ++ [stepB l[i]] := by rw [List.take_succ_eq_append_getElem hil, List.map_append]; rfl
      generalize l[i] = s at *
      by_cases hs3 : s.size ≤ 300
      · have d4 : decide ((300 : Int) < (s.size : Int)) = false := decide_eq_false (by omega)
        have hms := many_300 (n := s.size + 1) (by omega)
        have hL := hF.out.1
        have q1 := hL.head
        have q2 := hL.n
        have q3 := hL.life
        simp only at q1 q3
        have cA : ∀ W, St W (feet (vts g gr bd sv wv d r ⟨2, 2, 0⟩ false)) (vts g gr bd sv wv d r ⟨2, 2, 0⟩ false) W → Calls Try.prog 60 #[.pointer (some ⟨g, 0, none⟩), .string s] W fun e w' => e = .returned (.int .i64 0) ∧ ∃ wv' d' r', Hid (Lies d' 100 ⟨2, 2, 0⟩ r' ([wholeB text] ++ (l.take (i + 1)).map stepB) ∧ d'.Fit 100 0 ∧ r'.tail ≤ 6 + 6 * (i + 1)) ∧ St W (feet (vts g gr bd sv wv d r ⟨2, 2, 0⟩ false)) (vts g gr bd sv wv' d' r' ⟨2, 2, 0⟩ false) w' := by
          intro W hk
          refine (vmore_lies g gr bd sv wv d 100 _ _ _ s hL hF.out.2 (by decide) (by omega) (by unfold Rg.free; simp at q1; omega) (by rw [cutOk_iff]; simp at q1; omega) W hk).mono ?_
          rintro e w' ⟨rfl, wv', d', k1, k2, k3⟩
          refine ⟨rfl, wv', d', _, Lib.hid ⟨?_, k2, by simp only; omega⟩, k3⟩
          rw [hnx, ← List.append_assoc]
          exact k1
        replace cA := Lib.hid cA
        clear q1 q2 q3 hL hnx hms hs3
        go_wp2_with (first
          | (go_at_call 60; (with_reducible refine (cA.out _ hS.preM).mono ?_); rintro _ w5 ⟨rfl, wv5, d5, r5, hF5, hk⟩; have hS1 := hS.callM hk; clear hS hk; have hS := hS1; clear hS1))
        go_roundg (n - (i + 1))
        case measure => omega
        case rel => exact ⟨i + 1, _, _, _, _, by omega, by go_num, Lib.hid ⟨hF5.out.1, hF5.out.2.1⟩, hF5.out.2.2, hS⟩
      · have d4 : decide ((300 : Int) < (s.size : Int)) = true := decide_eq_true (by omega)
        clear hs3 hnx
        go_wp2_with (go_at_call 57; (with_reducible refine (cA0.out _).mono ?_); rintro _ w7 ⟨rfl, hk7⟩; have hS1 := hS.keepB hk7; clear hk7 hS; have hS := hS1; clear hS1)
        go_ret
        exact ⟨rfl, hS.below⟩
    · have hil : i = n := by omega
      have htk : l.take i = l := List.take_of_length_le (by rw [hil, hn.out]; exact Nat.le_refl _)
      rw [htk] at hF
      have hL := hF.out.1
      have q1 := hL.head
      have q2 := hL.n
      have q3 := hL.life
      simp only at q1 q3
      have htl := hL.stands.ring.tail
      have hx : Hid (Founds d 100 ⟨2, 2, 0⟩ ([wholeB text] ++ l.map stepB) r.tail) := Lib.hid hL.founds
      have hq66 : r.tail ≤ 66 := by omega
      generalize r.tail = tt at *
      have cO2 : ∀ (W : World), St W (feet (dks bd sv wv d)) (dks bd sv wv d) W → Calls Try.prog 59 #[.pointer (some ⟨bd, 0, none⟩)] W fun e w' => ∃ g2 gr2 av cv wv' d', e = .returned (.tuple #[.pointer (some ⟨g2, 0, none⟩), .string text, .slice av n cv, .int .i64 0]) ∧ Hid (Lies d' 100 ⟨3, 3, 0⟩ ⟨2, 98, 0, tt, 3⟩ ([wholeB text] ++ l.map stepB) ∧ d'.Fit 100 0) ∧ St W (feet (dks bd sv wv d)) (Ch.row 9 1 (.slice av n cv) n (l.map vs) :: vts g2 gr2 bd sv wv' d' ⟨2, 98, 0, tt, 3⟩ ⟨3, 3, 0⟩ false) w' := by
        intro W hk
        refine (vopen_founds bd sv wv d 100 _ _ _ _ _ hx.out (split_steps _ _) hF.out.2 (by decide) (by decide) (by decide) W hk).mono ?_
        rintro e w' ⟨g, gr, v, wv', d', rfl, h2, h3, _, h4⟩
        rw [hn.out] at h4
        obtain ⟨av, cv, rfl, -⟩ := h4.row 0 rfl
        exact ⟨g, gr, av, cv, wv', d', rfl, Lib.hid ⟨h2, h3⟩, h4⟩
      have cT : ∀ (a1 : Option Addr) (c1 : Nat) (W : World), Sl W a1 (l.map vs) → Sl W a (l.map vs) → Calls Try.prog 46 #[.slice a1 n c1, .slice a n c] W fun e w' => e = .returned (.bool true) ∧ Below W.heap.size W w' :=
        fun a1 c1 W h1 h2 => (texts_any a1 a l l n n c1 c W h1 h2 hn.out hn.out (by omega) (by omega)).mono fun e w' ⟨k1, k2⟩ => ⟨by rw [k1, decide_eq_true rfl], k2⟩
      have cFr : ∀ (g2 gr2 : Nat) (sv wv : Value) (d' : Dk) (W : World), Hid (Lies d' 100 ⟨3, 3, 0⟩ ⟨2, 98, 0, tt, 3⟩ ([wholeB text] ++ l.map stepB) ∧ d'.Fit 100 0) → St W (feet (vts g2 gr2 bd sv wv d' ⟨2, 98, 0, tt, 3⟩ ⟨3, 3, 0⟩ false)) (vts g2 gr2 bd sv wv d' ⟨2, 98, 0, tt, 3⟩ ⟨3, 3, 0⟩ false) W → Calls Try.prog 61 #[.pointer (some ⟨g2, 0, none⟩)] W fun e w' => e = .returned (.int .i64 ((98 - tt : Nat) : Int)) ∧ Below W.heap.size W w' := by
        intro g2 gr2 sv wv d' W hh hk
        refine (vlfree_any g2 gr2 bd sv wv d' _ _ false 100 W hk hh.out.1.stands.ring (by decide)).mono ?_
        rintro e w' ⟨rfl, h2⟩
        exact ⟨by simp [Rg.free], h2⟩
      have cRn : ∀ (g2 gr2 : Nat) (sv wv : Value) (d' : Dk) (W : World), Hid (Lies d' 100 ⟨3, 3, 0⟩ ⟨2, 98, 0, tt, 3⟩ ([wholeB text] ++ l.map stepB) ∧ d'.Fit 100 0) → St W (feet (vts g2 gr2 bd sv wv d' ⟨2, 98, 0, tt, 3⟩ ⟨3, 3, 0⟩ false)) (vts g2 gr2 bd sv wv d' ⟨2, 98, 0, tt, 3⟩ ⟨3, 3, 0⟩ false) W → Calls Try.prog 62 #[.pointer (some ⟨g2, 0, none⟩), .string next] W fun e w' => e = .returned (.int .i64 0) ∧ ∃ wv' d2, Hid (Lies d2 100 ⟨4, 3, tt⟩ ⟨2, 98, tt, tt + manyB (next.size + 1), 3⟩ [wholeB next] ∧ d2.Fit 100 0) ∧ St W (feet (vts g2 gr2 bd sv wv d' ⟨2, 98, 0, tt, 3⟩ ⟨3, 3, 0⟩ false)) (vts g2 gr2 bd sv wv' d2 ⟨2, 98, tt, tt + manyB (next.size + 1), 3⟩ ⟨4, 3, tt⟩ false) w' := by
        intro g2 gr2 sv wv d' W hh hk
        refine (vrenew_lies g2 gr2 bd sv wv d' 100 _ _ _ next hh.out.1 hh.out.2 (by decide) (by omega) (by simp only [Rg.free]; omega) (by rw [cutOk_iff]; simp only; omega) (by decide) W hk).mono ?_
        rintro e w' ⟨rfl, wv', d2, k1, k2, k3⟩
        exact ⟨rfl, wv', d2, Lib.hid ⟨k1, k2⟩, k3⟩
      have cLk : ∀ (sv wv : Value) (d' : Dk) (W : World), Hid (Lies d' 100 ⟨4, 3, tt⟩ ⟨2, 98, tt, tt + manyB (next.size + 1), 3⟩ [wholeB next] ∧ d'.Fit 100 0) → St W (feet (dks bd sv wv d')) (dks bd sv wv d') W → Calls Try.prog 63 #[.pointer (some ⟨bd, 0, none⟩)] W fun e w' => ∃ av cv, e = .returned (.tuple #[.string next, .slice av 0 cv, .int .i64 0]) ∧ St W (feet (dks bd sv wv d')) (dks bd sv wv d') w' := by
        intro sv wv d' W hh hk
        refine (vlook_founds bd sv wv d' 100 _ _ _ _ _ hh.out.1.founds (split_one _) hh.out.2 (by decide) W hk).mono ?_
        rintro e w' ⟨v, rfl, h2⟩
        obtain ⟨av, cv, rfl, -⟩ := h2.row 0 rfl
        exact ⟨av, cv, rfl, h2.drop⟩
      have cFr2 : ∀ (g2 gr2 : Nat) (sv wv : Value) (d' : Dk) (W : World), Hid (Lies d' 100 ⟨4, 3, tt⟩ ⟨2, 98, tt, tt + manyB (next.size + 1), 3⟩ [wholeB next] ∧ d'.Fit 100 0) → St W (feet (vts g2 gr2 bd sv wv d' ⟨2, 98, tt, tt + manyB (next.size + 1), 3⟩ ⟨4, 3, tt⟩ false)) (vts g2 gr2 bd sv wv d' ⟨2, 98, tt, tt + manyB (next.size + 1), 3⟩ ⟨4, 3, tt⟩ false) W → Calls Try.prog 61 #[.pointer (some ⟨g2, 0, none⟩)] W fun e w' => e = .returned (.int .i64 ((98 - manyB (next.size + 1) : Nat) : Int)) ∧ Below W.heap.size W w' := by
        intro g2 gr2 sv wv d' W hh hk
        refine (vlfree_any g2 gr2 bd sv wv d' _ _ false 100 W hk hh.out.1.stands.ring (by decide)).mono ?_
        rintro e w' ⟨rfl, h2⟩
        refine ⟨?_, h2⟩
        simp only [Rg.free]
        congr 3
        omega
      have cMy := fun W : World => vlmany_any next.size W (by omega)
      have wM : IntKind.i64.wrap ((98 : Int) - ((manyB (next.size + 1) : Nat) : Int)) = ((98 - manyB (next.size + 1) : Nat) : Int) := by
        rw [IntWalk.i64_in _ (by omega)]
        omega
      have hle98 : decide ((((98 - tt : Nat) : Int)) ≤ 98) = true := decide_eq_true (by omega)
      clear q1 q2 q3 hL htl hx htk
      generalize manyB (next.size + 1) = mn at *
      replace cO2 := Lib.hid cO2
      replace cT := Lib.hid cT
      replace cFr := Lib.hid cFr
      replace cRn := Lib.hid cRn
      replace cLk := Lib.hid cLk
      replace cFr2 := Lib.hid cFr2
      replace cMy := Lib.hid cMy
      replace hF := Lib.hid hF
      have hS0 : St w [] ([vlt g gr bd ⟨2, 2, 0⟩ false, rng gr bd r] ++ (dks bd sv wv d ++ [])) wr := hS
      clear hS hil
      have hS := hS0
      clear hS0
      go_wp2_with (first
        | (go_at_call 59; (with_reducible refine (cO2.out _ hS.preM).mono ?_); rintro _ w4 ⟨g2, gr2, av4, cv4, wv4, d4, rfl, hF4, hk⟩; have hS1 := hS.callM hk; clear hS hk; have hS : St w [] ([vlt g gr bd ⟨2, 2, 0⟩ false, rng gr bd r, Ch.row 9 1 (.slice av4 n cv4) n (l.map vs)] ++ (vts g2 gr2 bd sv wv4 d4 ⟨2, 98, 0, tt, 3⟩ ⟨3, 3, 0⟩ false ++ [])) w4 := hS1; clear hS1)
        | (go_at_call 46; (with_reducible refine (cT.out _ _ _ (hS.rowsl 2 rfl) (hS.sl hl.out)).mono ?_); rintro _ w9 ⟨rfl, hk9⟩; have hS1 := hS.keepB hk9; clear hk9 hS; have hS := hS1; clear hS1)
        | (go_at_call 61; (with_reducible refine (cFr.out _ _ _ _ _ _ hF4 hS.preM).mono ?_); rintro _ w9 ⟨rfl, hk9⟩; have hS1 := hS.keepB hk9; clear hk9 hS; have hS := hS1; clear hS1)
        | (go_at_call 62; (with_reducible refine (cRn.out _ _ _ _ _ _ hF4 hS.preM).mono ?_); rintro _ w5 ⟨rfl, wv5, d5, hF5, hk⟩; have hS1 := hS.callM hk; clear hS hk; have hS : St w [] ([vlt g gr bd ⟨2, 2, 0⟩ false, rng gr bd r, Ch.row 9 1 (.slice av4 n cv4) n (l.map vs), vlt g2 gr2 bd ⟨4, 3, tt⟩ false, rng gr2 bd ⟨2, 98, tt, tt + mn, 3⟩] ++ (dks bd sv wv5 d5 ++ [])) w5 := hS1; clear hS1)
        | (go_at_call 63; (with_reducible refine (cLk.out _ _ _ _ hF5 hS.preM).mono ?_); rintro _ w6 ⟨av6, cv6, rfl, hk⟩; have hS1 := hS.callM hk; clear hS hk; have hS : St w [] ([vlt g gr bd ⟨2, 2, 0⟩ false, rng gr bd r, Ch.row 9 1 (.slice av4 n cv4) n (l.map vs)] ++ (vts g2 gr2 bd sv wv5 d5 ⟨2, 98, tt, tt + mn, 3⟩ ⟨4, 3, tt⟩ false ++ [])) w6 := hS1; clear hS1)
        | (go_at_call 61; (with_reducible refine (cFr2.out _ _ _ _ _ _ hF5 hS.preM).mono ?_); rintro _ w9 ⟨rfl, hk9⟩; have hS1 := hS.keepB hk9; clear hk9 hS; have hS := hS1; clear hS1)
        | (go_at_call 64; (with_reducible refine (cMy.out _).mono ?_); rintro _ _ ⟨rfl, rfl⟩)
        | (go_at_call 57; (with_reducible refine (cA0.out _).mono ?_); rintro _ w7 ⟨rfl, hk7⟩; have hS1 := hS.keepB hk7; clear hk7 hS; have hS := hS1; clear hS1))
      go_ret
      exact ⟨rfl, hS.below⟩
theorem same39_any (text next : ByteArray) (a : Option Addr) (n c : Nat) (l : List ByteArray) (w : World) (hl : Sl w a (l.map vs)) (hn : l.length = n) (hnc : n ≤ maxLen) (ht1 : text.size ≤ maxLen) (ht2 : next.size ≤ maxLen) :
    Calls Try.prog 9 #[.string text, .slice a n c, .string next] w fun e w' => e = .returned (.bool true) ∧ Below w.heap.size w w' := by
  have cA0 := Lib.hid (fun W : World => awake39_any W)
  by_cases h1 : text.size ≤ 300
  · by_cases h2 : next.size ≤ 300
    · by_cases h3 : n ≤ 10
      · exact same39_main text next a n c l w hl hn h1 h2 h3
      · have hS := St.start w
        have d1 : decide ((300 : Int) < (text.size : Int)) = false := decide_eq_false (by omega)
        have d2 : decide ((300 : Int) < (next.size : Int)) = false := decide_eq_false (by omega)
        have d3 : decide ((10 : Int) < (n : Int)) = true := decide_eq_true (by omega)
        clear hl hn h1 h2 h3
        go_enter Try.func9, Try.ntmps9
        go_wp2_with (go_at_call 57; (with_reducible refine (cA0.out _).mono ?_); rintro _ w7 ⟨rfl, hk7⟩; have hS1 := hS.keepB hk7; clear hk7 hS; have hS := hS1; clear hS1)
        go_ret
        exact ⟨rfl, hS.below⟩
    · have hS := St.start w
      have d1 : decide ((300 : Int) < (text.size : Int)) = false := decide_eq_false (by omega)
      have d2 : decide ((300 : Int) < (next.size : Int)) = true := decide_eq_true (by omega)
      clear hl hn h1 h2
      go_enter Try.func9, Try.ntmps9
      go_wp2_with (go_at_call 57; (with_reducible refine (cA0.out _).mono ?_); rintro _ w7 ⟨rfl, hk7⟩; have hS1 := hS.keepB hk7; clear hk7 hS; have hS := hS1; clear hS1)
      go_ret
      exact ⟨rfl, hS.below⟩
  · have hS := St.start w
    have d1 : decide ((300 : Int) < (text.size : Int)) = true := decide_eq_true (by omega)
    clear hl hn h1
    go_enter Try.func9, Try.ntmps9
    go_wp2_with (go_at_call 57; (with_reducible refine (cA0.out _).mono ?_); rintro _ w7 ⟨rfl, hk7⟩; have hS1 := hS.keepB hk7; clear hk7 hS; have hS := hS1; clear hS1)
    go_ret
    exact ⟨rfl, hS.below⟩
section
open Go.WideShapes
variable {H : Type} {enc : TypeId × Value → H}
theorem open_texts {r : Reach} {b0 : Nat} {v : Value} {d : DataW H} {ms : List MemPlace} {w : World}
    (ho : Value.okWide Try.prog w r b0 26 v) (ht : DataW.Trod enc Try.prog w 0 (fun _ => true) true 26 v d ms) :
    ∃ (a : Option Addr) (n cap : Nat) (l : List ByteArray), v = .slice a n cap ∧ l.length = n ∧ Sl w a (l.map vs) ∧ n ≤ cap ∧ cap ≤ maxLen := by
  obtain ⟨a, n, c, rfl⟩ := okWide_slice Try.underlying26 ho
  obtain ⟨fuel, hf⟩ := ht
  obtain ⟨a', n', cap, l, h1, h2, h3, h4, h5, -⟩ := read_texts (by simpa [Value.cells] using hf)
  cases h1
  exact ⟨_, _, _, l, rfl, h2, h3, h4, h5⟩
end
end Go.Proofs.Ytlhpibniecfofaa
end
