/- The law IdsTwo: what is in both of two lists, in one alone, and in either, is the document's: the walk of it. -/
import Derived.Test.YtplgpbbghhlbjaaSt6
import Derived.Test.YtplgpbbghhlbjaaOpen
import Derived.Test.YtplgpbbghhlbjaaAlong
import Derived.Test.YtplgpbbghhlbjaaIdsCheck
set_option linter.unusedSimpArgs false
set_option linter.unusedVariables false
namespace Go.Proofs.Ytplgpbbghhlbjaa
open Go.RowKit Go.Ofp
set_option linter.unusedVariables false
set_option maxRecDepth 100000
set_option maxHeartbeats 4000000

theorem build_keep_b (w : World) : (Instr.build 71 #[(1, .bool true)]).run Try.prog w = .ok (.agg #[.bool false, .bool true, .bool false]) w := by kernel_rfl
theorem build_keep_l (w : World) : (Instr.build 71 #[(0, .bool true)]).run Try.prog w = .ok (.agg #[.bool true, .bool false, .bool false]) w := by kernel_rfl

theorem both_any (a b : Option Addr) (l m : List Int) (n k cap cap2 : Nat) (w : World) (hs : Sl w a (l.map vi)) (ht : Sl w b (m.map vi)) (hn : l.length = n) (hk : m.length = k) (hm : n ≤ 10000) (hm2 : k ≤ 10000) :
    Calls Try.prog 13 #[.slice a n cap, .slice b k cap2] w (IntsRet (Ids.along false true false l m) w) := by
  have cA := along_any a b l m n k cap cap2 false true false w hs ht hn hk hm hm2
  replace cA := Lib.hid cA
  clear hs ht hn hk
  go_enter Try.func13, Try.ntmps13
  go_wp2_with (first
    | ((with_reducible refine wpList_build1 rfl rfl (.bool true) rfl build_keep_b ?_))
    | (go_at_call 56; (with_reducible refine cA.out.mono ?_); rintro _ w3 ⟨a3, c3, rfl, h1, h2, h3⟩))
  go_ret
  exact ⟨_, _, rfl, h1, h2, h3⟩

theorem minus_any (a b : Option Addr) (l m : List Int) (n k cap cap2 : Nat) (w : World) (hs : Sl w a (l.map vi)) (ht : Sl w b (m.map vi)) (hn : l.length = n) (hk : m.length = k) (hm : n ≤ 10000) (hm2 : k ≤ 10000) :
    Calls Try.prog 15 #[.slice a n cap, .slice b k cap2] w (IntsRet (Ids.along true false false l m) w) := by
  have cA := along_any a b l m n k cap cap2 true false false w hs ht hn hk hm hm2
  replace cA := Lib.hid cA
  clear hs ht hn hk
  go_enter Try.func15, Try.ntmps15
  go_wp2_with (first
    | ((with_reducible refine wpList_build1 rfl rfl (.bool true) rfl build_keep_l ?_))
    | (go_at_call 56; (with_reducible refine cA.out.mono ?_); rintro _ w3 ⟨a3, c3, rfl, h1, h2, h3⟩))
  go_ret
  exact ⟨_, _, rfl, h1, h2, h3⟩

theorem either_any (a b : Option Addr) (l m : List Int) (n k cap cap2 : Nat) (w : World) (hs : Sl w a (l.map vi)) (ht : Sl w b (m.map vi)) (hn : l.length = n) (hk : m.length = k) (hm : n ≤ 10000) (hm2 : k ≤ 10000) :
    Calls Try.prog 17 #[.slice a n cap, .slice b k cap2] w (IntsRet (Ids.along true true true l m) w) := by
  have cA := along_any a b l m n k cap cap2 true true true w hs ht hn hk hm hm2
  replace cA := Lib.hid cA
  clear hs ht hn hk
  go_enter Try.func17, Try.ntmps17
  go_wp2_with (go_at_call 56; (with_reducible refine cA.out.mono ?_); rintro _ w3 ⟨a3, c3, rfl, h1, h2, h3⟩)
  go_ret
  exact ⟨_, _, rfl, h1, h2, h3⟩

theorem lit_135 (w : World) : (Instr.buildSlice 22 3 #[(0, .int .i64 1), (1, .int .i64 3), (2, .int .i64 5)]).run Try.prog w = .ok (.slice (some ⟨w.heap.size, 0, none⟩) 3 3) (w.alloc (.cells #[.int .i64 1, .int .i64 3, .int .i64 5] 3)) := by kernel_rfl
theorem lit_34 (w : World) : (Instr.buildSlice 22 2 #[(0, .int .i64 3), (1, .int .i64 4)]).run Try.prog w = .ok (.slice (some ⟨w.heap.size, 0, none⟩) 2 2) (w.alloc (.cells #[.int .i64 3, .int .i64 4] 3)) := by kernel_rfl
theorem lit_15 (w : World) : (Instr.buildSlice 22 2 #[(0, .int .i64 1), (1, .int .i64 5)]).run Try.prog w = .ok (.slice (some ⟨w.heap.size, 0, none⟩) 2 2) (w.alloc (.cells #[.int .i64 1, .int .i64 5] 3)) := by kernel_rfl

theorem awake07_any (w : World) : Calls Try.prog 11 #[] w fun e w' => e = .returned (.bool true) ∧ Below w.heap.size w w' := by
  have cM := fun (a b : Option Addr) (W : World) (hs : Sl W a [.int .i64 1, .int .i64 3, .int .i64 5]) (ht : Sl W b [.int .i64 3, .int .i64 4]) => minus_any a b [1, 3, 5] [3, 4] 3 2 3 2 W hs ht rfl rfl (by omega) (by omega)
  have cI := fun (a b : Option Addr) (cap : Nat) (W : World) hs (ht : Sl W b [.int .i64 1, .int .i64 5]) => ints_any a b [1, 5] [1, 5] 2 2 cap 2 W hs ht rfl rfl (by unfold maxLen; omega) (by unfold maxLen; omega)
  rw [show Ids.along true false false [1, 3, 5] [3, 4] = [1, 5] by decide +kernel] at cM
  replace cM := Lib.hid cM
  replace cI := Lib.hid cI
  have hS := St.start w
  go_enter Try.func11, Try.ntmps11
  go_wp2_with (first
    | ((refine wpList_buildr_st hS rfl lit_135 rfl rfl ?_); intro g1 w3 hS1; clear hS; have hS := hS1; clear hS1)
    | ((refine wpList_buildr_st hS rfl lit_34 rfl rfl ?_); intro g1 w3 hS1; clear hS; have hS := hS1; clear hS1)
    | ((refine wpList_buildr_st hS rfl lit_15 rfl rfl ?_); intro g1 w3 hS1; clear hS; have hS := hS1; clear hS1)
    | (go_at_call 15; (with_reducible refine (cM.out _ _ _ (hS.blksl2 1 rfl) (hS.blksl2 0 rfl)).mono ?_); rintro _ w3 ⟨a3, c3, rfl, h31, h32, hb3⟩; have hS1 := hS.made hb3; clear hS hb3; have hS := hS1; clear hS1)
    | (go_at_call 12; (with_reducible refine (cI.out _ _ _ _ (hS.rowsl 1 rfl) (hS.blksl2 0 rfl)).mono ?_); rintro _ w3 ⟨rfl, hb3⟩; have hS1 := hS.keepB hb3; clear hb3 hS; have hS := hS1; clear hS1))
  go_ret
  exact ⟨rfl, hS.below⟩

/-- A slice of numbers that came in. -/
theorem row_ints {w : World} {a : Option Addr} {len cap : Nat} {zs : List Int} (h : (a = none ∧ len = 0 ∧ cap = 0 ∧ zs = []) ∨
    ∃ x, a = some x ∧ len ≤ cap ∧ cap ≤ maxLen ∧ zs.length = cap ∧ (∀ i, i < zs.length → w.cell? (x.add i) = some (.int .i64 (zs.getD i 0))) ∧ ∀ n ∈ zs, (Lit.int .i64 n).wf = true) :
    ∃ l : List Int, l.length = len ∧ Sl w a (l.map vi) ∧ len ≤ cap ∧ cap ≤ maxLen ∧ ∀ x ∈ l, -9223372036854775808 ≤ x ∧ x ≤ 9223372036854775807 := by
  rcases h with ⟨rfl, rfl, rfl, rfl⟩ | ⟨x, rfl, h1, h2, h3, h4, h5⟩
  · exact ⟨[], rfl, Sl.nil _ _, Nat.le_refl _, Nat.zero_le _, by simp⟩
  · refine ⟨zs.take len, by rw [List.length_take]; omega, ?_, h1, h2, fun z hz => wf_i64 (h5 z (List.mem_of_mem_take hz))⟩
    intro i hi
    have hi' : i < len := by simp at hi; omega
    have hc := h4 i (by omega)
    obtain ⟨b, off, spot⟩ := x
    have hs : spot = none := by
      have := h4 0 (by omega)
      simpa [Addr.add] using World.cell?_spot this
    subst hs
    refine ⟨b, off, rfl, ?_⟩
    rw [Addr.add_lit] at hc
    rw [hc]
    simp [vi, List.getElem?_eq_getElem (show i < zs.length by omega)]

theorem two_main (a b : Option Addr) (l m : List Int) (n k cap cap2 : Nat) (w : World) (hs : Sl w a (l.map vi)) (ht : Sl w b (m.map vi)) (hn : l.length = n) (hk : m.length = k) (hm : n ≤ 300) (hm2 : k ≤ 300) (h1 : Ids.Rise l) (h2 : Ids.Rise m) :
    Calls Try.prog 3 #[.slice a n cap, .slice b k cap2] w fun e w' => e = .returned (.bool true) ∧ Below w.heap.size w w' := by
  have hS := St.start w
  have cC := fun (W : World) hsl => rcheck_any a l n cap W hsl hn (by unfold maxLen; omega)
  have cD := fun (W : World) hsl => rcheck_any b m k cap2 W hsl hk (by unfold maxLen; omega)
  have cB := fun (W : World) h3 h4 => both_any a b l m n k cap cap2 W h3 h4 hn hk (by omega) (by omega)
  have cM := fun (W : World) h3 h4 => minus_any a b l m n k cap cap2 W h3 h4 hn hk (by omega) (by omega)
  have cE := fun (W : World) h3 h4 => either_any a b l m n k cap cap2 W h3 h4 hn hk (by omega) (by omega)
  have rB := fun (W : World) h3 h4 => rboth_any a b l m n k cap cap2 W h3 h4 hk (by unfold maxLen; omega) hn (by omega)
  have rM := fun (W : World) h3 h4 => rminus_any a b l m n k cap cap2 W h3 h4 hk (by unfold maxLen; omega) hn (by omega)
  have rE := fun (W : World) h3 h4 => reither_any a b l m n k cap cap2 W h3 h4 hn hk (by omega) (by omega)
  rw [Ids.along_both l m h1.1 h2.1] at cB
  rw [Ids.along_minus l m h1.1 h2.1] at cM
  rw [Ids.along_either l m h1 h2] at cE
  rw [(Ids.chk_iff l).2 h1] at cC
  rw [(Ids.chk_iff m).2 h2] at cD
  have e1 : (Ids.both l m).length ≤ 1000 := by have := List.length_filter_le (fun x => Ids.has m x) l; unfold Ids.both; omega
  have e2 : (Ids.minus l m).length ≤ 1000 := by have := List.length_filter_le (fun x => !Ids.has m x) l; unfold Ids.minus; omega
  have e3 : (Ids.either l m).length ≤ 1000 := by have := foldl_put_length m l; unfold Ids.either; omega
  generalize Ids.both l m = xb at cB rB e1
  generalize Ids.minus l m = xm at cM rM e2
  generalize Ids.either l m = xe at cE rE e3
  have cI := fun (x : List Int) (hx : x.length ≤ 1000) (a b : Option Addr) (c d : Nat) (W : World) h3 h4 => ints_any a b x x x.length x.length c d W h3 h4 rfl rfl (by unfold maxLen; omega) (by unfold maxLen; omega)
  simp only [decide_true] at cI
  replace cC := Lib.hid cC
  replace cD := Lib.hid cD
  replace cB := Lib.hid cB
  replace cM := Lib.hid cM
  replace cE := Lib.hid cE
  replace rB := Lib.hid rB
  replace rM := Lib.hid rM
  replace rE := Lib.hid rE
  replace cI := Lib.hid cI
  replace hs := Lib.hid hs
  replace ht := Lib.hid ht
  replace hn := Lib.hid hn
  replace hk := Lib.hid hk
  clear h1 h2
  go_enter Try.func3, Try.ntmps3
  go_wp2_with (first
    | (go_at_call 10; (with_reducible refine (cC.out _ (hS.sl hs.out)).mono ?_); rintro _ w3 ⟨rfl, hb3⟩; have hS1 := hS.keepB hb3; clear hb3 hS; have hS := hS1; clear hS1)
    | (go_at_call 10; (with_reducible refine (cD.out _ (hS.sl ht.out)).mono ?_); rintro _ w3 ⟨rfl, hb3⟩; have hS1 := hS.keepB hb3; clear hb3 hS; have hS := hS1; clear hS1)
    | (go_at_call 13; (with_reducible refine (cB.out _ (hS.sl hs.out) (hS.sl ht.out)).mono ?_); rintro _ w3 ⟨a3, c3, rfl, h31, h32, hb3⟩; have hS1 := hS.made hb3; clear hS hb3; have hS := hS1; clear hS1)
    | (go_at_call 15; (with_reducible refine (cM.out _ (hS.sl hs.out) (hS.sl ht.out)).mono ?_); rintro _ w3 ⟨a3, c3, rfl, h31, h32, hb3⟩; have hS1 := hS.made hb3; clear hS hb3; have hS := hS1; clear hS1)
    | (go_at_call 17; (with_reducible refine (cE.out _ (hS.sl hs.out) (hS.sl ht.out)).mono ?_); rintro _ w3 ⟨a3, c3, rfl, h31, h32, hb3⟩; have hS1 := hS.made hb3; clear hS hb3; have hS := hS1; clear hS1)
    | (go_at_call 14; (with_reducible refine (rB.out _ (hS.sl hs.out) (hS.sl ht.out)).mono ?_); rintro _ w3 ⟨a3, c3, rfl, h31, h32, hb3⟩; have hS1 := hS.made hb3; clear hS hb3; have hS := hS1; clear hS1)
    | (go_at_call 16; (with_reducible refine (rM.out _ (hS.sl hs.out) (hS.sl ht.out)).mono ?_); rintro _ w3 ⟨a3, c3, rfl, h31, h32, hb3⟩; have hS1 := hS.made hb3; clear hS hb3; have hS := hS1; clear hS1)
    | (go_at_call 18; (with_reducible refine (rE.out _ (hS.sl hs.out) (hS.sl ht.out)).mono ?_); rintro _ w3 ⟨a3, c3, rfl, h31, h32, hb3⟩; have hS1 := hS.made hb3; clear hS hb3; have hS := hS1; clear hS1)
    | (go_at_call 12; (with_reducible refine (cI.out _ (by assumption) _ _ _ _ _ (hS.rowsl 1 rfl) (hS.rowsl 0 rfl)).mono ?_); rintro _ w3 ⟨rfl, hb3⟩; have hS1 := hS.keepB hb3; clear hb3 hS; have hS := hS1; clear hS1)
    | (go_at_call 11; (with_reducible refine (awake07_any _).mono ?_); rintro _ w3 ⟨rfl, hb3⟩; have hS1 := hS.keepB hb3; clear hb3 hS; have hS := hS1; clear hS1))
  go_ret
  exact ⟨rfl, hS.below⟩

theorem two_any (a b : Option Addr) (l m : List Int) (n k cap cap2 : Nat) (w : World) (hs : Sl w a (l.map vi)) (ht : Sl w b (m.map vi)) (hn : l.length = n) (hk : m.length = k) (hnm : n ≤ maxLen) (hkm : k ≤ maxLen) :
    Calls Try.prog 3 #[.slice a n cap, .slice b k cap2] w fun e w' => e = .returned (.bool true) ∧ Below w.heap.size w w' := by
  by_cases h1 : n ≤ 300
  · by_cases h2 : k ≤ 300
    · have cC := fun (W : World) hsl => rcheck_any a l n cap W hsl hn (by unfold maxLen; omega)
      have cD := fun (W : World) hsl => rcheck_any b m k cap2 W hsl hk (by unfold maxLen; omega)
      cases e1 : Ids.chk l with
      | true =>
        cases e2 : Ids.chk m with
        | true => exact two_main a b l m n k cap cap2 w hs ht hn hk h1 h2 ((Ids.chk_iff l).1 e1) ((Ids.chk_iff m).1 e2)
        | false =>
          have hS := St.start w
          rw [e1] at cC
          rw [e2] at cD
          clear hn hk e1 e2
          replace cC := Lib.hid cC
          replace cD := Lib.hid cD
          replace hs := Lib.hid hs
          replace ht := Lib.hid ht
          go_enter Try.func3, Try.ntmps3
          go_wp2_with (first
            | (go_at_call 10; (with_reducible refine (cC.out _ (hS.sl hs.out)).mono ?_); rintro _ w3 ⟨rfl, hb3⟩; have hS1 := hS.keepB hb3; clear hb3 hS; have hS := hS1; clear hS1)
            | (go_at_call 10; (with_reducible refine (cD.out _ (hS.sl ht.out)).mono ?_); rintro _ w3 ⟨rfl, hb3⟩; have hS1 := hS.keepB hb3; clear hb3 hS; have hS := hS1; clear hS1)
            | (go_at_call 11; (with_reducible refine (awake07_any _).mono ?_); rintro _ w3 ⟨rfl, hb3⟩; have hS1 := hS.keepB hb3; clear hb3 hS; have hS := hS1; clear hS1))
          go_ret
          exact ⟨rfl, hS.below⟩
      | false =>
        have hS := St.start w
        rw [e1] at cC
        clear hn hk e1 cD ht
        replace cC := Lib.hid cC
        replace hs := Lib.hid hs
        go_enter Try.func3, Try.ntmps3
        go_wp2_with (first
          | (go_at_call 10; (with_reducible refine (cC.out _ (hS.sl hs.out)).mono ?_); rintro _ w3 ⟨rfl, hb3⟩; have hS1 := hS.keepB hb3; clear hb3 hS; have hS := hS1; clear hS1)
          | (go_at_call 11; (with_reducible refine (awake07_any _).mono ?_); rintro _ w3 ⟨rfl, hb3⟩; have hS1 := hS.keepB hb3; clear hb3 hS; have hS := hS1; clear hS1))
        go_ret
        exact ⟨rfl, hS.below⟩
    · have hS := St.start w
      have h2' : 300 < k := by omega
      clear hn hk hs ht h2
      unfold maxLen at hkm hnm
      go_enter Try.func3, Try.ntmps3
      go_wp2_with (go_at_call 11; (with_reducible refine (awake07_any _).mono ?_); rintro _ w3 ⟨rfl, hb3⟩; have hS1 := hS.keepB hb3; clear hb3 hS; have hS := hS1; clear hS1)
      go_ret
      exact ⟨rfl, hS.below⟩
  · have hS := St.start w
    have h2' : 300 < n := by omega
    clear hn hk hs ht h1
    unfold maxLen at hkm hnm
    go_enter Try.func3, Try.ntmps3
    go_wp2_with (go_at_call 11; (with_reducible refine (awake07_any _).mono ?_); rintro _ w3 ⟨rfl, hb3⟩; have hS1 := hS.keepB hb3; clear hb3 hS; have hS := hS1; clear hS1)
    go_ret
    exact ⟨rfl, hS.below⟩
end Go.Proofs.Ytplgpbbghhlbjaa
