/- The laws IdsOne and IdsParts: places, what is there, what is above, lists with a number and without; the parts of two lists: the walk of them. -/
import Derived.Test.YtplgpbbghhlbjaaIdsOps
import Derived.Test.YtplgpbbghhlbjaaIdsTwo
set_option linter.unusedSimpArgs false
set_option linter.unusedVariables false
namespace Go.Proofs.Ytplgpbbghhlbjaa
open Go.RowKit Go.Ofp
set_option linter.unusedVariables false
set_option maxRecDepth 100000
set_option maxHeartbeats 4000000

theorem one_main (a : Option Addr) (l : List Int) (n cap : Nat) (id : Int) (w : World) (hs : Sl w a (l.map vi)) (hn : l.length = n) (hm : n ≤ 300) (hnc : n ≤ cap) (hcm : cap ≤ maxLen) (hc : a = none → cap = 0) (h1 : Ids.Rise l) :
    Calls Try.prog 6 #[.slice a n cap, .int .i64 id] w fun e w' => e = .returned (.bool true) ∧ Below w.heap.size w w' := by
  have hS := St.start w
  have pC := fun (W : World) hsl => check_any a l n cap W hsl hn (by unfold maxLen; omega)
  have rC := fun (W : World) hsl => rcheck_any a l n cap W hsl hn (by unfold maxLen; omega)
  have pPl := fun (W : World) hsl => place_any a l n cap id W hsl hn (by omega) h1.1
  have rPl := fun (W : World) hsl => rplace_any a l n cap id W hsl hn (by unfold maxLen; omega)
  have pH := fun (W : World) hsl => has_any a l n cap id W hsl hn (by omega) h1.1
  have rH := fun (W : World) hsl => rhas_any a l n cap id W hsl hn (by unfold maxLen; omega)
  have pA := fun (W : World) hsl => after_any a l n cap id W hsl hn (by omega) hnc hcm hc h1.1
  have rA := fun (W : World) hsl => rafter_any a l n cap id W hsl hn (by omega)
  have pP := fun (W : World) hsl => put_any a l n cap id W hsl hn (by omega) hc h1.1
  have rP := fun (W : World) hsl => rput_any a l n cap id W hsl hn (by omega) hnc
  have pD := fun (W : World) hsl => drop_any a l n cap id W hsl hn (by omega) hc h1.1
  have rD := fun (W : World) hsl => rdrop_any a l n cap id W hsl hn (by omega)
  rw [(Ids.chk_iff l).2 h1] at pC rC
  have e1 : (Ids.after l id).length ≤ 1000 := by have := List.length_filter_le (fun x => decide (id < x)) l; unfold Ids.after; omega
  have e2 : (Ids.put l id).length ≤ 1000 := by have := Ids.put_length l id; omega
  have e3 : (Ids.drop l id).length ≤ 1000 := by have := List.length_filter_le (fun x => decide (x ≠ id)) l; unfold Ids.drop; omega
  have e4 : Ids.place l id ≤ n := by have := place_le l id; omega
  generalize Ids.after l id = xa at pA rA e1
  generalize Ids.put l id = xp at pP rP e2
  generalize Ids.drop l id = xd at pD rD e3
  generalize Ids.place l id = xn at pPl rPl e4
  generalize Ids.has l id = xh at pH rH
  have cI := fun (x : List Int) (hx : x.length ≤ 1000) (a b : Option Addr) (c d : Nat) (W : World) h3 h4 => ints_any a b x x x.length x.length c d W h3 h4 rfl rfl (by unfold maxLen; omega) (by unfold maxLen; omega)
  simp only [decide_true] at cI
  replace pC := Lib.hid pC
  replace rC := Lib.hid rC
  replace pPl := Lib.hid pPl
  replace rPl := Lib.hid rPl
  replace pH := Lib.hid pH
  replace rH := Lib.hid rH
  replace pA := Lib.hid pA
  replace rA := Lib.hid rA
  replace pP := Lib.hid pP
  replace rP := Lib.hid rP
  replace pD := Lib.hid pD
  replace rD := Lib.hid rD
  replace cI := Lib.hid cI
  replace hs := Lib.hid hs
  clear h1 hn hc hnc hcm
  have hbb : (xh == xh) = true := by cases xh <;> rfl
  go_enter Try.func6, Try.ntmps6
  go_wp2_with (first
    | (go_at_call 26; (with_reducible refine (pC.out _ (hS.sl hs.out)).mono ?_); rintro _ _ ⟨rfl, rfl⟩)
    | (go_at_call 10; (with_reducible refine (rC.out _ (hS.sl hs.out)).mono ?_); rintro _ w3 ⟨rfl, hb3⟩; have hS1 := hS.keepB hb3; clear hb3 hS; have hS := hS1; clear hS1)
    | (go_at_call 27; (with_reducible refine (pPl.out _ (hS.sl hs.out)).mono ?_); rintro _ _ ⟨rfl, rfl⟩)
    | (go_at_call 28; (with_reducible refine (rPl.out _ (hS.sl hs.out)).mono ?_); rintro _ _ ⟨rfl, rfl⟩)
    | (go_at_call 29; (with_reducible refine (pH.out _ (hS.sl hs.out)).mono ?_); rintro _ _ ⟨rfl, rfl⟩)
    | (go_at_call 25; (with_reducible refine (rH.out _ (hS.sl hs.out)).mono ?_); rintro _ _ ⟨rfl, rfl⟩)
    | (go_at_call 30; (with_reducible refine (pA.out _ (hS.sl hs.out)).mono ?_); rintro _ w3 ⟨a3, c3, rfl, h31, h32, hb3⟩; have hS1 := hS.made hb3; clear hS hb3; have hS := hS1; clear hS1)
    | (go_at_call 31; (with_reducible refine (rA.out _ (hS.sl hs.out)).mono ?_); rintro _ w3 ⟨a3, c3, rfl, h31, h32, hb3⟩; have hS1 := hS.made hb3; clear hS hb3; have hS := hS1; clear hS1)
    | (go_at_call 24; (with_reducible refine (pP.out _ (hS.sl hs.out)).mono ?_); rintro _ w3 ⟨a3, c3, rfl, h31, h32, hb3⟩; have hS1 := hS.made hb3; clear hS hb3; have hS := hS1; clear hS1)
    | (go_at_call 32; (with_reducible refine (rP.out _ (hS.sl hs.out)).mono ?_); rintro _ w3 ⟨a3, c3, rfl, h31, h32, hb3⟩; have hS1 := hS.made hb3; clear hS hb3; have hS := hS1; clear hS1)
    | (go_at_call 23; (with_reducible refine (pD.out _ (hS.sl hs.out)).mono ?_); rintro _ w3 ⟨a3, c3, rfl, h31, h32, hb3⟩; have hS1 := hS.made hb3; clear hS hb3; have hS := hS1; clear hS1)
    | (go_at_call 33; (with_reducible refine (rD.out _ (hS.sl hs.out)).mono ?_); rintro _ w3 ⟨a3, c3, rfl, h31, h32, hb3⟩; have hS1 := hS.made hb3; clear hS hb3; have hS := hS1; clear hS1)
    | (go_at_call 12; (with_reducible refine (cI.out _ (by assumption) _ _ _ _ _ (hS.rowsl 1 rfl) (hS.rowsl 0 rfl)).mono ?_); rintro _ w3 ⟨rfl, hb3⟩; have hS1 := hS.keepB hb3; clear hb3 hS; have hS := hS1; clear hS1)
    | (go_at_call 11; (with_reducible refine (awake07_any _).mono ?_); rintro _ w3 ⟨rfl, hb3⟩; have hS1 := hS.keepB hb3; clear hb3 hS; have hS := hS1; clear hS1))
  go_ret
  exact ⟨rfl, hS.below⟩

theorem one_any (a : Option Addr) (l : List Int) (n cap : Nat) (id : Int) (w : World) (hs : Sl w a (l.map vi)) (hn : l.length = n) (hnc : n ≤ cap) (hcm : cap ≤ maxLen) (hc : a = none → cap = 0) :
    Calls Try.prog 6 #[.slice a n cap, .int .i64 id] w fun e w' => e = .returned (.bool true) ∧ Below w.heap.size w w' := by
  by_cases h1 : n ≤ 300
  · cases e1 : Ids.chk l with
    | true => exact one_main a l n cap id w hs hn h1 hnc hcm hc ((Ids.chk_iff l).1 e1)
    | false =>
      have hS := St.start w
      have pC := fun (W : World) hsl => check_any a l n cap W hsl hn (by unfold maxLen; omega)
      have rC := fun (W : World) hsl => rcheck_any a l n cap W hsl hn (by unfold maxLen; omega)
      rw [e1] at pC rC
      clear hn e1 hnc hcm hc
      replace pC := Lib.hid pC
      replace rC := Lib.hid rC
      replace hs := Lib.hid hs
      go_enter Try.func6, Try.ntmps6
      go_wp2_with (first
        | (go_at_call 26; (with_reducible refine (pC.out _ (hS.sl hs.out)).mono ?_); rintro _ _ ⟨rfl, rfl⟩)
        | (go_at_call 10; (with_reducible refine (rC.out _ (hS.sl hs.out)).mono ?_); rintro _ w3 ⟨rfl, hb3⟩; have hS1 := hS.keepB hb3; clear hb3 hS; have hS := hS1; clear hS1)
        | (go_at_call 11; (with_reducible refine (awake07_any _).mono ?_); rintro _ w3 ⟨rfl, hb3⟩; have hS1 := hS.keepB hb3; clear hb3 hS; have hS := hS1; clear hS1))
      go_ret
      exact ⟨rfl, hS.below⟩
  · have hS := St.start w
    have h2 : 300 < n := by omega
    have h3 : n ≤ 9223372036854775807 := by unfold maxLen at hcm; omega
    clear hn hs h1 hnc hcm hc
    go_enter Try.func6, Try.ntmps6
    go_wp2_with (go_at_call 11; (with_reducible refine (awake07_any _).mono ?_); rintro _ w3 ⟨rfl, hb3⟩; have hS1 := hS.keepB hb3; clear hb3 hS; have hS := hS1; clear hS1)
    go_ret
    exact ⟨rfl, hS.below⟩

theorem parts_main (a b : Option Addr) (l m : List Int) (n k cap cap2 : Nat) (id : Int) (w : World) (hs : Sl w a (l.map vi)) (ht : Sl w b (m.map vi)) (hn : l.length = n) (hk : m.length = k) (hm : n ≤ 300) (hm2 : k ≤ 300) (hc : a = none → cap = 0) (h1 : Ids.Rise l) (h2 : Ids.Rise m) :
    Calls Try.prog 5 #[.slice a n cap, .slice b k cap2, .int .i64 id] w fun e w' => e = .returned (.bool true) ∧ Below w.heap.size w w' := by
  have hS := St.start w
  have cC := fun (W : World) hsl => rcheck_any a l n cap W hsl hn (by unfold maxLen; omega)
  have cD := fun (W : World) hsl => rcheck_any b m k cap2 W hsl hk (by unfold maxLen; omega)
  have cB := fun (W : World) h3 h4 => both_any a b l m n k cap cap2 W h3 h4 hn hk (by omega) (by omega)
  have cM1 := fun (W : World) h3 h4 => minus_any a b l m n k cap cap2 W h3 h4 hn hk (by omega) (by omega)
  have cM2 := fun (W : World) h3 h4 => minus_any b a m l k n cap2 cap W h3 h4 hk hn (by omega) (by omega)
  have cE3 := fun (W : World) h3 h4 => either_any b a m l k n cap2 cap W h3 h4 hk hn (by omega) (by omega)
  have rH := fun (W : World) hsl => rhas_any a l n cap id W hsl hn (by unfold maxLen; omega)
  have pP1 := fun (W : World) hsl => put_any a l n cap id W hsl hn (by omega) hc h1.1
  have pD1 := fun (W : World) hsl => drop_any a l n cap id W hsl hn (by omega) hc h1.1
  rw [Ids.along_both l m h1.1 h2.1] at cB
  rw [Ids.along_minus l m h1.1 h2.1] at cM1
  rw [Ids.along_minus m l h2.1 h1.1] at cM2
  rw [Ids.along_either m l h2 h1] at cE3
  have e1 : (Ids.both l m).length ≤ 300 := by have := List.length_filter_le (fun x => Ids.has m x) l; unfold Ids.both; omega
  have e2 : (Ids.minus l m).length ≤ 300 := by have := List.length_filter_le (fun x => !Ids.has m x) l; unfold Ids.minus; omega
  have e3 : (Ids.minus m l).length ≤ 300 := by have := List.length_filter_le (fun x => !Ids.has l x) m; unfold Ids.minus; omega
  have e4 : (Ids.either (Ids.minus l m) (Ids.minus m l)).length ≤ 600 := by have := foldl_put_length (Ids.minus m l) (Ids.minus l m); unfold Ids.either; omega
  have e5 : (Ids.either m l).length ≤ 600 := by have := foldl_put_length l m; unfold Ids.either; omega
  have hr1 := Ids.rise_minus (b := m) h1
  have hr2 := Ids.rise_minus (b := l) h2
  have hr3 := Ids.rise_both (b := m) h1
  have hr4 := (Ids.either_spec (Ids.minus m l) (Ids.minus l m) hr1 hr2).1
  have cE1 := fun (a b : Option Addr) (c d : Nat) (W : World) h3 h4 => either_any a b (Ids.minus l m) (Ids.minus m l) _ _ c d W h3 h4 rfl rfl (by omega) (by omega)
  have cE2 := fun (a b : Option Addr) (c d : Nat) (W : World) h3 h4 => either_any a b (Ids.both l m) (Ids.either (Ids.minus l m) (Ids.minus m l)) _ _ c d W h3 h4 rfl rfl (by omega) (by omega)
  rw [Ids.along_either _ _ hr1 hr2] at cE1
  rw [Ids.along_either _ _ hr3 hr4, Ids.parts l m h1 h2] at cE2
  have hlen := Ids.parts_length l m h1 h2
  rw [Ids.parts l m h1 h2, hn, hk] at hlen
  have hneq : (((Ids.either m l).length : Int) + ((Ids.both l m).length : Int) != (n : Int) + (k : Int)) = false := by
    have : ((Ids.either m l).length : Int) + ((Ids.both l m).length : Int) = (n : Int) + (k : Int) := by omega
    rw [this]; simp
  have cI := fun (x : List Int) (hx : x.length ≤ 1000) (a b : Option Addr) (c d : Nat) (W : World) h3 h4 => ints_any a b x x x.length x.length c d W h3 h4 rfl rfl (by unfold maxLen; omega) (by unfold maxLen; omega)
  have cI2 := fun (a' : Option Addr) (c d : Nat) (W : World) h3 h4 => ints_any a' a l l l.length n c d W h3 h4 rfl hn (by unfold maxLen; omega) (by unfold maxLen; omega)
  simp only [decide_true] at cI cI2
  have e6 : (Ids.put l id).length ≤ 301 := by have := Ids.put_length l id; omega
  have e7 : (Ids.drop l id).length ≤ 300 := by have := List.length_filter_le (fun x => decide (x ≠ id)) l; unfold Ids.drop; omega
  have e8 : l.length ≤ 300 := by omega
  rw [(Ids.chk_iff l).2 h1] at cC
  rw [(Ids.chk_iff m).2 h2] at cD
  have pD2 := fun (a' : Option Addr) (c : Nat) (W : World) h3 h4 => drop_any a' (Ids.put l id) _ c id W h3 rfl (by omega) h4 (Ids.up_put l id h1.1)
  have pP2 := fun (a' : Option Addr) (c : Nat) (W : World) h3 h4 => put_any a' (Ids.drop l id) _ c id W h3 rfl (by omega) h4 (Ids.up_filter _ _ h1.1)
  have hdl : (Ids.drop (Ids.put l id) id).length ≤ 301 := by have := List.length_filter_le (fun x => decide (x ≠ id)) (Ids.put l id); unfold Ids.drop; unfold Ids.drop at this; omega
  generalize Ids.either m l = xp at cE2 cE3 e5 hneq hlen
  generalize Ids.either (Ids.minus l m) (Ids.minus m l) = x1 at cE1 cE2 e4 hr4
  generalize Ids.minus l m = xm1 at cM1 cE1 e2
  generalize Ids.minus m l = xm2 at cM2 cE1 e3
  generalize Ids.both l m = xb at cB cE2 e1 hneq hlen
  have hpe : ∀ x : List Int, x.length ≤ 1000 → x.length ≤ 1000 := fun _ h => h
  clear hpe hr1 hr2 hr3 hr4
  replace cC := Lib.hid cC
  replace cD := Lib.hid cD
  replace cB := Lib.hid cB
  replace cM1 := Lib.hid cM1
  replace cM2 := Lib.hid cM2
  replace cE1 := Lib.hid cE1
  replace cE2 := Lib.hid cE2
  replace cE3 := Lib.hid cE3
  replace cI := Lib.hid cI
  replace cI2 := Lib.hid cI2
  replace pP1 := Lib.hid pP1
  replace pD1 := Lib.hid pD1
  replace hs := Lib.hid hs
  replace ht := Lib.hid ht
  replace hk := Lib.hid hk
  clear h2 hlen hc
  cases hh : Ids.has l id with
  | true =>
    have hput : Ids.put l id = l := by unfold Ids.put; rw [if_pos (.inr (.inr hh))]
    have hpd := Ids.put_drop l id h1 ((Ids.has_iff _ _).1 hh)
    rw [hh] at rH
    rw [hpd] at pP2
    rw [hput] at pP1 pD2 e6
    generalize Ids.drop l id = xd at pD1 pP2 pD2 e7
    replace rH := Lib.hid rH
    replace pD2 := Lib.hid pD2
    replace pP2 := Lib.hid pP2
    replace hn := Lib.hid hn
    clear hh h1 hput hpd hdl
    go_enter Try.func5, Try.ntmps5
    go_wp2_with (first
      | (go_at_call 10; (with_reducible refine (cC.out _ (hS.sl hs.out)).mono ?_); rintro _ w3 ⟨rfl, hb3⟩; have hS1 := hS.keepB hb3; clear hb3 hS; have hS := hS1; clear hS1)
      | (go_at_call 10; (with_reducible refine (cD.out _ (hS.sl ht.out)).mono ?_); rintro _ w3 ⟨rfl, hb3⟩; have hS1 := hS.keepB hb3; clear hb3 hS; have hS := hS1; clear hS1)
      | (go_at_call 25; (with_reducible refine (rH.out _ (hS.sl hs.out)).mono ?_); rintro _ _ ⟨rfl, rfl⟩)
      | (go_at_call 13; (with_reducible refine (cB.out _ (hS.sl hs.out) (hS.sl ht.out)).mono ?_); rintro _ w3 ⟨a3, c3, rfl, h31, h32, hb3⟩; have hS1 := hS.made hb3; clear hS hb3; have hS := hS1; clear hS1)
      | (go_at_call 15; (with_reducible refine (cM1.out _ (hS.sl hs.out) (hS.sl ht.out)).mono ?_); rintro _ w3 ⟨a3, c3, rfl, h31, h32, hb3⟩; have hS1 := hS.made hb3; clear hS hb3; have hS := hS1; clear hS1)
      | (go_at_call 15; (with_reducible refine (cM2.out _ (hS.sl ht.out) (hS.sl hs.out)).mono ?_); rintro _ w3 ⟨a3, c3, rfl, h31, h32, hb3⟩; have hS1 := hS.made hb3; clear hS hb3; have hS := hS1; clear hS1)
      | (go_at_call 17; (with_reducible refine (cE3.out _ (hS.sl ht.out) (hS.sl hs.out)).mono ?_); rintro _ w3 ⟨a3, c3, rfl, h31, h32, hb3⟩; have hS1 := hS.made hb3; clear hS hb3; have hS := hS1; clear hS1)
      | (go_at_call 17; (with_reducible refine (cE1.out _ _ _ _ _ (hS.rowsl 1 rfl) (hS.rowsl 0 rfl)).mono ?_); rintro _ w3 ⟨a3, c3, rfl, h31, h32, hb3⟩; have hS1 := hS.made hb3; clear hS hb3; have hS := hS1; clear hS1)
      | (go_at_call 17; (with_reducible refine (cE2.out _ _ _ _ _ (hS.rowsl 3 rfl) (hS.rowsl 0 rfl)).mono ?_); rintro _ w3 ⟨a3, c3, rfl, h31, h32, hb3⟩; have hS1 := hS.made hb3; clear hS hb3; have hS := hS1; clear hS1)
      | (go_at_call 12; (with_reducible refine (cI.out _ (by omega) _ _ _ _ _ (hS.rowsl 1 rfl) (hS.rowsl 0 rfl)).mono ?_); rintro _ w3 ⟨rfl, hb3⟩; have hS1 := hS.keepB hb3; clear hb3 hS; have hS := hS1; clear hS1)
      | (go_at_call 12; (with_reducible refine (cI2.out _ _ _ _ (hS.rowsl 0 rfl) (hS.sl hs.out)).mono ?_); rintro _ w3 ⟨rfl, hb3⟩; have hS1 := hS.keepB hb3; clear hb3 hS; have hS := hS1; clear hS1)
      | (go_at_call 24; (with_reducible refine (pP1.out _ (hS.sl hs.out)).mono ?_); rintro _ w3 ⟨a3, c3, rfl, h31, h32, hb3⟩; have hS1 := hS.made hb3; clear hS hb3; have hS := hS1; clear hS1)
      | (go_at_call 23; (with_reducible refine (pD1.out _ (hS.sl hs.out)).mono ?_); rintro _ w3 ⟨a3, c3, rfl, h31, h32, hb3⟩; have hS1 := hS.made hb3; clear hS hb3; have hS := hS1; clear hS1)
      | (go_at_call 23; (with_reducible refine (pD2.out _ _ _ (hS.rowsl 0 rfl) (hS.rownil 0 rfl)).mono ?_); rintro _ w3 ⟨a3, c3, rfl, h31, h32, hb3⟩; have hS1 := hS.made hb3; clear hS hb3; have hS := hS1; clear hS1)
      | (go_at_call 24; (with_reducible refine (pP2.out _ _ _ (hS.rowsl 0 rfl) (hS.rownil 0 rfl)).mono ?_); rintro _ w3 ⟨a3, c3, rfl, h31, h32, hb3⟩; have hS1 := hS.made hb3; clear hS hb3; have hS := hS1; clear hS1)
      | (go_at_call 11; (with_reducible refine (awake07_any _).mono ?_); rintro _ w3 ⟨rfl, hb3⟩; have hS1 := hS.keepB hb3; clear hb3 hS; have hS := hS1; clear hS1))
    go_ret
    exact ⟨rfl, hS.below⟩
  | false =>
    have hpd := Ids.drop_put l id h1 (fun h => by rw [(Ids.has_iff _ _).2 h] at hh; cases hh)
    rw [hh] at rH
    rw [hpd] at pD2
    generalize Ids.put l id = xd at pP1 pP2 pD2 e6
    replace rH := Lib.hid rH
    replace pD2 := Lib.hid pD2
    replace hn := Lib.hid hn
    clear hh h1 hpd hdl pP2
    go_enter Try.func5, Try.ntmps5
    go_wp2_with (first
      | (go_at_call 10; (with_reducible refine (cC.out _ (hS.sl hs.out)).mono ?_); rintro _ w3 ⟨rfl, hb3⟩; have hS1 := hS.keepB hb3; clear hb3 hS; have hS := hS1; clear hS1)
      | (go_at_call 10; (with_reducible refine (cD.out _ (hS.sl ht.out)).mono ?_); rintro _ w3 ⟨rfl, hb3⟩; have hS1 := hS.keepB hb3; clear hb3 hS; have hS := hS1; clear hS1)
      | (go_at_call 25; (with_reducible refine (rH.out _ (hS.sl hs.out)).mono ?_); rintro _ _ ⟨rfl, rfl⟩)
      | (go_at_call 13; (with_reducible refine (cB.out _ (hS.sl hs.out) (hS.sl ht.out)).mono ?_); rintro _ w3 ⟨a3, c3, rfl, h31, h32, hb3⟩; have hS1 := hS.made hb3; clear hS hb3; have hS := hS1; clear hS1)
      | (go_at_call 15; (with_reducible refine (cM1.out _ (hS.sl hs.out) (hS.sl ht.out)).mono ?_); rintro _ w3 ⟨a3, c3, rfl, h31, h32, hb3⟩; have hS1 := hS.made hb3; clear hS hb3; have hS := hS1; clear hS1)
      | (go_at_call 15; (with_reducible refine (cM2.out _ (hS.sl ht.out) (hS.sl hs.out)).mono ?_); rintro _ w3 ⟨a3, c3, rfl, h31, h32, hb3⟩; have hS1 := hS.made hb3; clear hS hb3; have hS := hS1; clear hS1)
      | (go_at_call 17; (with_reducible refine (cE3.out _ (hS.sl ht.out) (hS.sl hs.out)).mono ?_); rintro _ w3 ⟨a3, c3, rfl, h31, h32, hb3⟩; have hS1 := hS.made hb3; clear hS hb3; have hS := hS1; clear hS1)
      | (go_at_call 17; (with_reducible refine (cE1.out _ _ _ _ _ (hS.rowsl 1 rfl) (hS.rowsl 0 rfl)).mono ?_); rintro _ w3 ⟨a3, c3, rfl, h31, h32, hb3⟩; have hS1 := hS.made hb3; clear hS hb3; have hS := hS1; clear hS1)
      | (go_at_call 17; (with_reducible refine (cE2.out _ _ _ _ _ (hS.rowsl 3 rfl) (hS.rowsl 0 rfl)).mono ?_); rintro _ w3 ⟨a3, c3, rfl, h31, h32, hb3⟩; have hS1 := hS.made hb3; clear hS hb3; have hS := hS1; clear hS1)
      | (go_at_call 12; (with_reducible refine (cI.out _ (by omega) _ _ _ _ _ (hS.rowsl 1 rfl) (hS.rowsl 0 rfl)).mono ?_); rintro _ w3 ⟨rfl, hb3⟩; have hS1 := hS.keepB hb3; clear hb3 hS; have hS := hS1; clear hS1)
      | (go_at_call 12; (with_reducible refine (cI2.out _ _ _ _ (hS.rowsl 0 rfl) (hS.sl hs.out)).mono ?_); rintro _ w3 ⟨rfl, hb3⟩; have hS1 := hS.keepB hb3; clear hb3 hS; have hS := hS1; clear hS1)
      | (go_at_call 24; (with_reducible refine (pP1.out _ (hS.sl hs.out)).mono ?_); rintro _ w3 ⟨a3, c3, rfl, h31, h32, hb3⟩; have hS1 := hS.made hb3; clear hS hb3; have hS := hS1; clear hS1)
      | (go_at_call 23; (with_reducible refine (pD2.out _ _ _ (hS.rowsl 0 rfl) (hS.rownil 0 rfl)).mono ?_); rintro _ w3 ⟨a3, c3, rfl, h31, h32, hb3⟩; have hS1 := hS.made hb3; clear hS hb3; have hS := hS1; clear hS1)
      | (go_at_call 11; (with_reducible refine (awake07_any _).mono ?_); rintro _ w3 ⟨rfl, hb3⟩; have hS1 := hS.keepB hb3; clear hb3 hS; have hS := hS1; clear hS1))
    go_ret
    exact ⟨rfl, hS.below⟩

theorem parts_any (a b : Option Addr) (l m : List Int) (n k cap cap2 : Nat) (id : Int) (w : World) (hs : Sl w a (l.map vi)) (ht : Sl w b (m.map vi)) (hn : l.length = n) (hk : m.length = k) (hnm : n ≤ maxLen) (hkm : k ≤ maxLen) (hc : a = none → cap = 0) :
    Calls Try.prog 5 #[.slice a n cap, .slice b k cap2, .int .i64 id] w fun e w' => e = .returned (.bool true) ∧ Below w.heap.size w w' := by
  by_cases h1 : n ≤ 300
  · by_cases h2 : k ≤ 300
    · have cC := fun (W : World) hsl => rcheck_any a l n cap W hsl hn (by unfold maxLen; omega)
      have cD := fun (W : World) hsl => rcheck_any b m k cap2 W hsl hk (by unfold maxLen; omega)
      cases e1 : Ids.chk l with
      | true =>
        cases e2 : Ids.chk m with
        | true => exact parts_main a b l m n k cap cap2 id w hs ht hn hk h1 h2 hc ((Ids.chk_iff l).1 e1) ((Ids.chk_iff m).1 e2)
        | false =>
          have hS := St.start w
          rw [e1] at cC
          rw [e2] at cD
          clear hn hk e1 e2 hc
          replace cC := Lib.hid cC
          replace cD := Lib.hid cD
          replace hs := Lib.hid hs
          replace ht := Lib.hid ht
          go_enter Try.func5, Try.ntmps5
          go_wp2_with (first
            | (go_at_call 10; (with_reducible refine (cC.out _ (hS.sl hs.out)).mono ?_); rintro _ w3 ⟨rfl, hb3⟩; have hS1 := hS.keepB hb3; clear hb3 hS; have hS := hS1; clear hS1)
            | (go_at_call 10; (with_reducible refine (cD.out _ (hS.sl ht.out)).mono ?_); rintro _ w3 ⟨rfl, hb3⟩; have hS1 := hS.keepB hb3; clear hb3 hS; have hS := hS1; clear hS1)
            | (go_at_call 11; (with_reducible refine (awake07_any _).mono ?_); rintro _ w3 ⟨rfl, hb3⟩; have hS1 := hS.keepB hb3; clear hb3 hS; have hS := hS1; clear hS1))
          go_ret
          exact ⟨rfl, hS.below⟩
      | false =>
        have hS := St.start w
        rw [e1] at cC
        clear hn hk e1 cD ht hc
        replace cC := Lib.hid cC
        replace hs := Lib.hid hs
        go_enter Try.func5, Try.ntmps5
        go_wp2_with (first
          | (go_at_call 10; (with_reducible refine (cC.out _ (hS.sl hs.out)).mono ?_); rintro _ w3 ⟨rfl, hb3⟩; have hS1 := hS.keepB hb3; clear hb3 hS; have hS := hS1; clear hS1)
          | (go_at_call 11; (with_reducible refine (awake07_any _).mono ?_); rintro _ w3 ⟨rfl, hb3⟩; have hS1 := hS.keepB hb3; clear hb3 hS; have hS := hS1; clear hS1))
        go_ret
        exact ⟨rfl, hS.below⟩
    · have hS := St.start w
      have h2' : 300 < k := by omega
      clear hn hk hs ht h2 hc
      unfold maxLen at hkm hnm
      go_enter Try.func5, Try.ntmps5
      go_wp2_with (go_at_call 11; (with_reducible refine (awake07_any _).mono ?_); rintro _ w3 ⟨rfl, hb3⟩; have hS1 := hS.keepB hb3; clear hb3 hS; have hS := hS1; clear hS1)
      go_ret
      exact ⟨rfl, hS.below⟩
  · have hS := St.start w
    have h2' : 300 < n := by omega
    clear hn hk hs ht h1 hc
    unfold maxLen at hkm hnm
    go_enter Try.func5, Try.ntmps5
    go_wp2_with (go_at_call 11; (with_reducible refine (awake07_any _).mono ?_); rintro _ w3 ⟨rfl, hb3⟩; have hS1 := hS.keepB hb3; clear hb3 hS; have hS := hS1; clear hS1)
    go_ret
    exact ⟨rfl, hS.below⟩
end Go.Proofs.Ytplgpbbghhlbjaa
