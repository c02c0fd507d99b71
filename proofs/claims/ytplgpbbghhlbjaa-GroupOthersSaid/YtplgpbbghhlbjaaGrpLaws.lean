/- The laws GroupDoes and GroupTells: what any call makes of groups; members, a card's groups, groups without it: the walk of them. -/
import Derived.Test.YtplgpbbghhlbjaaGrp10
set_option linter.unusedSimpArgs false
set_option linter.unusedVariables false
namespace Go.Ofp
/-- Groups that may be, and are not more than are looked at. -/
structure OkK (ks : List Key) : Prop where
  chk : chkK ks = true
  len : ks.length ≤ 200
  mem : ∀ k ∈ ks, k.2.length ≤ 2000
theorem OkK.up {gs : List Gr} (h : OkK (keys gs)) : Ids.Up (nos gs) := by
  rw [nos_keys]
  exact ((chkK_iff _).1 h.chk).1
theorem OkK.no {gs : List Gr} (h : OkK (keys gs)) : ∀ g ∈ gs, 0 ≤ g.no ∧ g.no < 16 := fun g hg => ((chkK_iff _).1 h.chk).2.1 g.key (List.mem_map_of_mem hg)
theorem OkK.rise {gs : List Gr} (h : OkK (keys gs)) : ∀ g ∈ gs, Ids.Rise g.mem := fun g hg => ((chkK_iff _).1 h.chk).2.2 g.key (List.mem_map_of_mem hg)
theorem OkK.um {gs : List Gr} (h : OkK (keys gs)) : ∀ g ∈ gs, Ids.Up g.mem := fun g hg => (h.rise g hg).1
theorem OkK.mm {gs : List Gr} (h : OkK (keys gs)) : ∀ g ∈ gs, g.mem.length ≤ 10000 := fun g hg => Nat.le_trans (h.mem g.key (List.mem_map_of_mem hg)) (by omega)
theorem OkK.nn {gs : List Gr} (h : OkK (keys gs)) : gs.length ≤ 200 := by have := h.len; simpa [keys] using this
end Go.Ofp
namespace Go.Proofs.Ytplgpbbghhlbjaa
open Go.RowKit Go.Ofp
set_option linter.unusedVariables false
set_option maxRecDepth 100000
set_option maxHeartbeats 4000000

theorem small_of {ks : List Key} (h : bigK ks = false) : ks.length ≤ 40 ∧ ∀ k ∈ ks, k.2.length ≤ 100 := by
  unfold bigK at h
  rw [Bool.or_eq_false_iff] at h
  refine ⟨by have := of_decide_eq_false h.1; omega, fun k hk => ?_⟩
  have := List.any_eq_false.1 h.2 k hk
  simp only [decide_eq_true_eq] at this
  omega
theorem okK_of {ks : List Key} (h : bigK ks = false) (hc : chkK ks = true) : OkK ks := by
  obtain ⟨h1, h2⟩ := small_of h
  exact ⟨hc, by omega, fun k hk => Nat.le_trans (h2 k hk) (by omega)⟩

theorem of_ok {a : Option Addr} {gs : List Gr} {n c : Nat} {w : World} (id : Int) (hD : Deep w a n c gs) (h : OkK (keys gs)) :
    Calls Try.prog 38 #[.slice a n c, .int .i64 id] w fun e w' => e = .returned (.int .u32 (ofK (keys gs) id : Nat)) ∧ Below w.heap.size w w' :=
  gof_any a gs n c id w hD (by have := hD.len; have := h.nn; omega) h.mm h.no h.um
theorem join_ok {a : Option Addr} {gs : List Gr} {n c : Nat} {w : World} (g id : Int) (hD : Deep w a n c gs) (h : OkK (keys gs)) :
    Calls Try.prog 40 #[.slice a n c, .int .i64 g, .int .i64 id] w (GsOut (joinK (keys gs) g id) w) :=
  join_any a gs n c g id w hD (by have := hD.len; have := h.nn; omega) h.mm h.up h.um
theorem quit_ok {a : Option Addr} {gs : List Gr} {n c : Nat} {w : World} (g id : Int) (hD : Deep w a n c gs) (h : OkK (keys gs)) :
    Calls Try.prog 41 #[.slice a n c, .int .i64 g, .int .i64 id] w (GsOut (quitK (keys gs) g id) w) :=
  quit_any a gs n c g id w hD (by have := hD.len; have := h.nn; omega) h.mm h.up h.um

theorem awake17_any (w : World) : Calls Try.prog 36 #[] w fun e w' => e = .returned (.bool true) ∧ Below w.heap.size w w' := by
  have hS := St.start w
  have k1 : openK (keys []) 3 = (0, [(3, [])]) := by decide +kernel
  have k2 : joinK [(3, [])] 3 5 = (0, [(3, [5])]) := by decide +kernel
  have k3 : joinK [(3, [5])] 3 5 = (7, []) := by decide +kernel
  have k4 : ofK [(3, [5])] 5 = 8 := by decide +kernel
  have o1 : OkK [(3, [])] := ⟨by decide +kernel, by decide, by decide⟩
  have o2 : OkK [(3, [5])] := ⟨by decide +kernel, by decide, by decide⟩
  have cO := open_any none [] 0 0 3 w (deep_nil w) (by omega) (by simp) (by simp [nos, Ids.Up])
  rw [k1] at cO
  have cJ1 : ∀ (a : Option Addr) (gs : List Gr) (n c : Nat) (W : World), keys gs = [(3, [])] → Deep W a n c gs → Calls Try.prog 40 #[.slice a n c, .int .i64 3, .int .i64 5] W (GsOut (0, [(3, [5])]) W) := by
    intro a gs n c W hk hD
    have := join_ok 3 5 hD (by rw [hk]; exact o1)
    rwa [hk, k2] at this
  have cJ2 : ∀ (a : Option Addr) (gs : List Gr) (n c : Nat) (W : World), keys gs = [(3, [5])] → Deep W a n c gs → Calls Try.prog 40 #[.slice a n c, .int .i64 3, .int .i64 5] W (GsOut (7, []) W) := by
    intro a gs n c W hk hD
    have := join_ok 3 5 hD (by rw [hk]; exact o2)
    rwa [hk, k3] at this
  have cF : ∀ (a : Option Addr) (gs : List Gr) (n c : Nat) (W : World), keys gs = [(3, [5])] → Deep W a n c gs → Calls Try.prog 38 #[.slice a n c, .int .i64 5] W fun e w' => e = .returned (.int .u32 8) ∧ Below W.heap.size W w' := by
    intro a gs n c W hk hD
    have := of_ok 5 hD (by rw [hk]; exact o2)
    rw [hk, k4] at this
    exact this
  clear k1 k2 k3 k4 o1 o2
  replace cO := Lib.hid cO
  replace cJ1 := Lib.hid cJ1
  replace cJ2 := Lib.hid cJ2
  replace cF := Lib.hid cF
  go_enter Try.func36, Try.ntmps36
  go_wp2_with (first
    | (go_at_call 45; (with_reducible refine cO.out.mono ?_); rintro _ w3 ⟨a3, c3, gs3, hk3, rfl, hd3, hb3⟩; replace hk3 := Lib.hid hk3; have hS1 := hS.keepB hb3; clear hb3 hS; have hS := hS1; clear hS1)
    | (go_at_call 40; (refine (cJ1.out a3 gs3 _ _ _ hk3.out hd3).mono ?_); clear cJ1; rintro _ w4 ⟨a4, c4, gs4, hk4, rfl, hd4, hb4⟩; replace hk4 := Lib.hid hk4; have hS1 := hS.keepB hb4; clear hb4 hS; have hS := hS1; clear hS1)
    | (go_at_call 40; (refine (cJ2.out a4 gs4 _ _ _ hk4.out hd4).mono ?_); clear cJ2; rintro _ w5 ⟨a5, c5, gs5, hk5, rfl, hd5, hb5⟩; replace hk5 := Lib.hid hk5; replace hd4 := hd4.below hb5; have hS1 := hS.keepB hb5; clear hb5 hS; have hS := hS1; clear hS1)
    | (go_at_call 38; (refine (cF.out a4 gs4 _ _ _ hk4.out hd4).mono ?_); rintro _ w6 ⟨rfl, hb6⟩; have hS1 := hS.keepB hb6; clear hb6 hS; have hS := hS1; clear hS1))
  go_ret
  exact ⟨rfl, hS.below⟩

theorem does_main (a : Option Addr) (gs : List Gr) (n cap : Nat) (g id : Int) (w : World) (hD : Deep w a n cap gs) (hbig : bigK (keys gs) = false) (hchk : chkK (keys gs) = true) :
    Calls Try.prog 8 #[.slice a n cap, .int .i64 g, .int .i64 id] w fun e w' => e = .returned (.bool true) ∧ Below w.heap.size w w' := by
  have hS := St.start w
  have hok := okK_of hbig hchk
  have hn1 : n ≤ 200 := by have := hD.len; have := hok.nn; omega
  have cL := fun W (h : Deep W a n cap gs) => large_any a gs n cap W h
  have pC := fun W (h : Deep W a n cap gs) => gcheck_any a gs n cap W h (by omega) hok.mm
  have rC := fun W (h : Deep W a n cap gs) => rgcheck_any a gs n cap W h (by omega)
  have pO := fun W (h : Deep W a n cap gs) => open_any a gs n cap g W h (by omega) hok.mm hok.up
  have rO := fun W (h : Deep W a n cap gs) => ropen_any a gs n cap g W h (by omega) hok.up
  have pK := fun W (h : Deep W a n cap gs) => close_any a gs n cap g W h (by omega) hok.mm hok.up
  have rK := fun W (h : Deep W a n cap gs) => rclose_any a gs n cap g W h (by omega) hok.up
  have pJ := fun W (h : Deep W a n cap gs) => join_any a gs n cap g id W h (by omega) hok.mm hok.up hok.um
  have rJ := fun W (h : Deep W a n cap gs) => rjoin_any a gs n cap g id W h (by omega) hok.mm hok.up
  have pQ := fun W (h : Deep W a n cap gs) => quit_any a gs n cap g id W h (by omega) hok.mm hok.up hok.um
  have rQ := fun W (h : Deep W a n cap gs) => rquit_any a gs n cap g id W h (by omega) hok.mm hok.up
  have cS : ∀ (a b : Option Addr) (gs hs : List Gr) (n k c1 c2 : Nat) (W : World), keys gs = keys hs → Deep W a n c1 gs → Deep W b k c2 hs → Calls Try.prog 42 #[.slice a n c1, .slice b k c2] W fun e w' => e = .returned (.bool true) ∧ Below W.heap.size W w' := by
    intro a b gs hs n k c1 c2 W hk h1 h2
    have := rgsame_any a b gs hs n k c1 c2 W h1 h2
    rwa [decide_eq_true hk] at this
  rw [hbig] at cL
  rw [hchk] at pC rC
  generalize openK (keys gs) g = q1 at pO rO
  generalize closeK (keys gs) g = q2 at pK rK
  generalize joinK (keys gs) g id = q3 at pJ rJ
  generalize quitK (keys gs) g id = q4 at pQ rQ
  obtain ⟨e1, l1⟩ := q1
  obtain ⟨e2, l2⟩ := q2
  obtain ⟨e3, l3⟩ := q3
  obtain ⟨e4, l4⟩ := q4
  have hDl := Lib.hid (fun W (h : Below w.heap.size w W) => hD.below h)
  replace cL := Lib.hid cL
  replace pC := Lib.hid pC
  replace rC := Lib.hid rC
  replace pO := Lib.hid pO
  replace rO := Lib.hid rO
  replace pK := Lib.hid pK
  replace rK := Lib.hid rK
  replace pJ := Lib.hid pJ
  replace rJ := Lib.hid rJ
  replace pQ := Lib.hid pQ
  replace rQ := Lib.hid rQ
  replace cS := Lib.hid cS
  clear hD hbig hchk hok
  go_enter Try.func8, Try.ntmps8
  go_wp2_with (first
    | (go_at_call 34; (with_reducible refine (cL.out _ (hDl.out _ hS.below)).mono ?_); rintro _ _ ⟨rfl, rfl⟩)
    | (go_at_call 44; (with_reducible refine (pC.out _ (hDl.out _ hS.below)).mono ?_); rintro _ w9 ⟨rfl, hb9⟩; have hS1 := hS.keepB hb9; clear hb9 hS; have hS := hS1; clear hS1)
    | (go_at_call 35; (with_reducible refine (rC.out _ (hDl.out _ hS.below)).mono ?_); rintro _ w9 ⟨rfl, hb9⟩; have hS1 := hS.keepB hb9; clear hb9 hS; have hS := hS1; clear hS1)
    | (go_at_call 45; (with_reducible refine (pO.out _ (hDl.out _ hS.below)).mono ?_); rintro _ w3 ⟨a3, c3, gs3, hk3, rfl, hd3, hb3⟩; replace hk3 := Lib.hid hk3; have hS1 := hS.keepB hb3; clear hb3 hS; have hS := hS1; clear hS1)
    | (go_at_call 46; (with_reducible refine (rO.out _ (hDl.out _ hS.below)).mono ?_); rintro _ w4 ⟨a4, c4, gs4, hk4, rfl, hd4, hb4⟩; replace hk4 := Lib.hid hk4; replace hd3 := hd3.below hb4; have hS1 := hS.keepB hb4; clear hb4 hS; have hS := hS1; clear hS1)
    | (go_at_call 47; (with_reducible refine (pK.out _ (hDl.out _ hS.below)).mono ?_); rintro _ w3 ⟨a3, c3, gs3, hk3, rfl, hd3, hb3⟩; replace hk3 := Lib.hid hk3; have hS1 := hS.keepB hb3; clear hb3 hS; have hS := hS1; clear hS1)
    | (go_at_call 48; (with_reducible refine (rK.out _ (hDl.out _ hS.below)).mono ?_); rintro _ w4 ⟨a4, c4, gs4, hk4, rfl, hd4, hb4⟩; replace hk4 := Lib.hid hk4; replace hd3 := hd3.below hb4; have hS1 := hS.keepB hb4; clear hb4 hS; have hS := hS1; clear hS1)
    | (go_at_call 40; (with_reducible refine (pJ.out _ (hDl.out _ hS.below)).mono ?_); rintro _ w3 ⟨a3, c3, gs3, hk3, rfl, hd3, hb3⟩; replace hk3 := Lib.hid hk3; have hS1 := hS.keepB hb3; clear hb3 hS; have hS := hS1; clear hS1)
    | (go_at_call 49; (with_reducible refine (rJ.out _ (hDl.out _ hS.below)).mono ?_); rintro _ w4 ⟨a4, c4, gs4, hk4, rfl, hd4, hb4⟩; replace hk4 := Lib.hid hk4; replace hd3 := hd3.below hb4; have hS1 := hS.keepB hb4; clear hb4 hS; have hS := hS1; clear hS1)
    | (go_at_call 41; (with_reducible refine (pQ.out _ (hDl.out _ hS.below)).mono ?_); rintro _ w3 ⟨a3, c3, gs3, hk3, rfl, hd3, hb3⟩; replace hk3 := Lib.hid hk3; have hS1 := hS.keepB hb3; clear hb3 hS; have hS := hS1; clear hS1)
    | (go_at_call 50; (with_reducible refine (rQ.out _ (hDl.out _ hS.below)).mono ?_); rintro _ w4 ⟨a4, c4, gs4, hk4, rfl, hd4, hb4⟩; replace hk4 := Lib.hid hk4; replace hd3 := hd3.below hb4; have hS1 := hS.keepB hb4; clear hb4 hS; have hS := hS1; clear hS1)
    | (go_at_call 42; (refine (cS.out _ _ _ _ _ _ _ _ _ (hk3.out.trans hk4.out.symm) hd3 hd4).mono ?_); rintro _ w9 ⟨rfl, hb9⟩; have hS1 := hS.keepB hb9; clear hb9 hS; have hS := hS1; clear hS1; clear hd3 hd4 hk3 hk4)
    | (go_at_call 36; (with_reducible refine (awake17_any _).mono ?_); rintro _ w9 ⟨rfl, hb9⟩; have hS1 := hS.keepB hb9; clear hb9 hS; have hS := hS1; clear hS1))
  go_ret
  exact ⟨rfl, hS.below⟩

theorem does_any (a : Option Addr) (gs : List Gr) (n cap : Nat) (g id : Int) (w : World) (hD : Deep w a n cap gs) :
    Calls Try.prog 8 #[.slice a n cap, .int .i64 g, .int .i64 id] w fun e w' => e = .returned (.bool true) ∧ Below w.heap.size w w' := by
  have cL := fun W (h : Deep W a n cap gs) => large_any a gs n cap W h
  cases hbig : bigK (keys gs) with
  | true =>
    have hS := St.start w
    have hDl := Lib.hid (fun W (h : Below w.heap.size w W) => hD.below h)
    rw [hbig] at cL
    replace cL := Lib.hid cL
    clear hD hbig
    go_enter Try.func8, Try.ntmps8
    go_wp2_with (first
      | (go_at_call 34; (with_reducible refine (cL.out _ (hDl.out _ hS.below)).mono ?_); rintro _ _ ⟨rfl, rfl⟩)
      | (go_at_call 36; (with_reducible refine (awake17_any _).mono ?_); rintro _ w9 ⟨rfl, hb9⟩; have hS1 := hS.keepB hb9; clear hb9 hS; have hS := hS1; clear hS1))
    go_ret
    exact ⟨rfl, hS.below⟩
  | false =>
    cases hchk : chkK (keys gs) with
    | true => exact does_main a gs n cap g id w hD hbig hchk
    | false =>
      have hS := St.start w
      obtain ⟨hs1, hs2⟩ := small_of hbig
      have hn1 : n ≤ 200 := by have := hD.len; simp only [keys, List.length_map] at hs1; omega
      have hmm : ∀ x ∈ gs, x.mem.length ≤ 10000 := fun x hx => Nat.le_trans (hs2 x.key (List.mem_map_of_mem hx)) (by omega)
      have pC := fun W (h : Deep W a n cap gs) => gcheck_any a gs n cap W h (by omega) hmm
      have rC := fun W (h : Deep W a n cap gs) => rgcheck_any a gs n cap W h (by omega)
      rw [hbig] at cL
      rw [hchk] at pC rC
      have hDl := Lib.hid (fun W (h : Below w.heap.size w W) => hD.below h)
      replace cL := Lib.hid cL
      replace pC := Lib.hid pC
      replace rC := Lib.hid rC
      clear hD hbig hchk hs1 hs2 hmm
      go_enter Try.func8, Try.ntmps8
      go_wp2_with (first
        | (go_at_call 34; (with_reducible refine (cL.out _ (hDl.out _ hS.below)).mono ?_); rintro _ _ ⟨rfl, rfl⟩)
        | (go_at_call 44; (with_reducible refine (pC.out _ (hDl.out _ hS.below)).mono ?_); rintro _ w9 ⟨rfl, hb9⟩; have hS1 := hS.keepB hb9; clear hb9 hS; have hS := hS1; clear hS1)
        | (go_at_call 35; (with_reducible refine (rC.out _ (hDl.out _ hS.below)).mono ?_); rintro _ w9 ⟨rfl, hb9⟩; have hS1 := hS.keepB hb9; clear hb9 hS; have hS := hS1; clear hS1)
        | (go_at_call 36; (with_reducible refine (awake17_any _).mono ?_); rintro _ w9 ⟨rfl, hb9⟩; have hS1 := hS.keepB hb9; clear hb9 hS; have hS := hS1; clear hS1))
      go_ret
      exact ⟨rfl, hS.below⟩

theorem tells_main (a b : Option Addr) (gs hs : List Gr) (n k cap cap2 : Nat) (id : Int) (w : World) (hD : Deep w a n cap gs) (hE : Deep w b k cap2 hs) (hbig : bigK (keys gs) = false) (hbig2 : bigK (keys hs) = false) (hchk : chkK (keys gs) = true) :
    Calls Try.prog 9 #[.slice a n cap, .int .i64 id, .slice b k cap2] w fun e w' => e = .returned (.bool true) ∧ Below w.heap.size w w' := by
  have hS := St.start w
  have hok := okK_of hbig hchk
  have hn1 : n ≤ 200 := by have := hD.len; have := hok.nn; omega
  have cL := fun W (h : Deep W a n cap gs) => large_any a gs n cap W h
  have cL2 := fun W (h : Deep W b k cap2 hs) => large_any b hs k cap2 W h
  have pS := fun W (h1 : Deep W a n cap gs) (h2 : Deep W b k cap2 hs) => same_any a b gs hs n k cap cap2 W h1 h2
  have rS := fun W (h1 : Deep W a n cap gs) (h2 : Deep W b k cap2 hs) => rgsame_any a b gs hs n k cap cap2 W h1 h2
  have hDl := Lib.hid (fun W (h : Below w.heap.size w W) => hD.below h)
  have hEl := Lib.hid (fun W (h : Below w.heap.size w W) => hE.below h)
  generalize decide (keys gs = keys hs) = sm at pS rS
  have hbb : (sm != sm) = false := by cases sm <;> rfl
  have rC := fun W (h : Deep W a n cap gs) => rgcheck_any a gs n cap W h (by omega)
  have pM := fun g W (h : Deep W a n cap gs) => members_any a gs n cap g W h (by omega) hok.mm hok.up
  have rM := fun g W (h : Deep W a n cap gs) => rmembers_any a gs n cap g W h (by omega) hok.up
  have pF := fun W (h : Deep W a n cap gs) => gof_any a gs n cap id W h (by omega) hok.mm hok.no hok.um
  have rF := fun W (h : Deep W a n cap gs) => rgof_any a gs n cap id W h (by omega) hok.no
  have pV := fun W (h : Deep W a n cap gs) => leave_any a gs n cap id W h (by omega) hok.mm hok.um
  have rV := fun W (h : Deep W a n cap gs) => rleave_any a gs n cap id W h (by omega) hok.mm
  have hml : ∀ g, (membersK (keys gs) g).length ≤ 2000 := by
    intro g
    unfold membersK memAt
    split
    · rw [List.getD_eq_getElem?_getD]
      cases e : (keys gs)[Ids.place (knos (keys gs)) g]? with
      | none => simp
      | some x => exact hok.mem x (List.mem_of_getElem? e)
    · simp
  have cI : ∀ (g : Int) (a b : Option Addr) (c d : Nat) (W : World), Sl W a ((membersK (keys gs) g).map vi) → Sl W b ((membersK (keys gs) g).map vi) → Calls Try.prog 12 #[.slice a (membersK (keys gs) g).length c, .slice b (membersK (keys gs) g).length d] W fun e w' => e = .returned (.bool true) ∧ Below W.heap.size W w' := by
    intro g a b c d W h3 h4
    have := ints_any a b (membersK (keys gs) g) (membersK (keys gs) g) _ _ c d W h3 h4 rfl rfl (by have := hml g; unfold maxLen; omega) (by have := hml g; unfold maxLen; omega)
    rwa [decide_eq_true rfl] at this
  have cS : ∀ (a b : Option Addr) (gs hs : List Gr) (n k c1 c2 : Nat) (W : World), keys gs = keys hs → Deep W a n c1 gs → Deep W b k c2 hs → Calls Try.prog 42 #[.slice a n c1, .slice b k c2] W fun e w' => e = .returned (.bool true) ∧ Below W.heap.size W w' := by
    intro a b gs hs n k c1 c2 W hk h1 h2
    have := rgsame_any a b gs hs n k c1 c2 W h1 h2
    rwa [decide_eq_true hk] at this
  rw [hbig] at cL
  rw [hbig2] at cL2
  rw [hchk] at rC
  generalize ofK (keys gs) id = fo at pF rF
  generalize leaveK (keys gs) id = lv at pV rV
  replace cL := Lib.hid cL
  replace cL2 := Lib.hid cL2
  replace pS := Lib.hid pS
  replace rS := Lib.hid rS
  replace rC := Lib.hid rC
  replace pM := Lib.hid pM
  replace rM := Lib.hid rM
  replace pF := Lib.hid pF
  replace rF := Lib.hid rF
  replace pV := Lib.hid pV
  replace rV := Lib.hid rV
  replace cI := Lib.hid cI
  replace cS := Lib.hid cS
  replace hml := Lib.hid hml
  clear hD hE hbig hbig2 hchk hok
  go_enter Try.func9, Try.ntmps9
  go_wp2_with (first
    | (go_at_call 34; (with_reducible refine (cL.out _ (hDl.out _ hS.below)).mono ?_); rintro _ _ ⟨rfl, rfl⟩)
    | (go_at_call 34; (with_reducible refine (cL2.out _ (hEl.out _ hS.below)).mono ?_); rintro _ _ ⟨rfl, rfl⟩)
    | (go_at_call 51; (with_reducible refine (pS.out _ (hDl.out _ hS.below) (hEl.out _ hS.below)).mono ?_); rintro _ w9 ⟨rfl, hb9⟩; have hS1 := hS.keepB hb9; clear hb9 hS; have hS := hS1; clear hS1)
    | (go_at_call 42; (with_reducible refine (rS.out _ (hDl.out _ hS.below) (hEl.out _ hS.below)).mono ?_); rintro _ w9 ⟨rfl, hb9⟩; have hS1 := hS.keepB hb9; clear hb9 hS; have hS := hS1; clear hS1)
    | (go_at_call 35; (with_reducible refine (rC.out _ (hDl.out _ hS.below)).mono ?_); rintro _ w9 ⟨rfl, hb9⟩; have hS1 := hS.keepB hb9; clear hb9 hS; have hS := hS1; clear hS1))
  go_loopg [7] 18 (fun gk vx wr => ∃ j : Int, -1 ≤ j ∧ j ≤ 17 ∧ gk = (17 - j).toNat ∧ vx = .int .i64 j ∧ St w [] [] wr)
  case atStart => exact ⟨-1, by omega, by omega, rfl, rfl, hS⟩
  case round =>
    clear hS
    obtain ⟨j, hj1, hj2, rfl, rfl, hS⟩ := hrel
    by_cases hj : j ≤ 16
    · go_wp2_with (first
        | (go_at_call 39; (with_reducible refine (pM.out _ _ (hDl.out _ hS.below)).mono ?_); rintro _ w3 ⟨a3, c3, rfl, h31, h32, hb3⟩; have hS1 := hS.made hb3; clear hS hb3; have hS := hS1; clear hS1)
        | (go_at_call 52; (with_reducible refine (rM.out _ _ (hDl.out _ hS.below)).mono ?_); rintro _ _ ⟨⟨a4, c4, rfl, hs4⟩, rfl⟩)
        | (go_at_call 12; (with_reducible refine (cI.out _ _ _ _ _ _ (hS.rowsl 0 rfl) hs4).mono ?_); rintro _ w9 ⟨rfl, hb9⟩; have hS1 := hS.keepB hb9; clear hb9 hS; have hS := hS1; clear hS1))
      go_roundg ((17 - (j + 1)).toNat)
      case measure => omega
      case rel => exact ⟨j + 1, by omega, by omega, rfl, by go_num, hS.empty⟩
    · have hj3 : decide (j ≤ 16) = false := decide_eq_false hj
      clear hj
      have hbf : (fo == fo) = true := by simp
      go_wp2_with (first
        | (go_at_call 38; (with_reducible refine (pF.out _ (hDl.out _ hS.below)).mono ?_); rintro _ w9 ⟨rfl, hb9⟩; have hS1 := hS.keepB hb9; clear hb9 hS; have hS := hS1; clear hS1)
        | (go_at_call 53; (with_reducible refine (rF.out _ (hDl.out _ hS.below)).mono ?_); rintro _ _ ⟨rfl, rfl⟩)
        | (go_at_call 54; (with_reducible refine (pV.out _ (hDl.out _ hS.below)).mono ?_); rintro _ w3 ⟨a3, c3, gs3, hk3, rfl, hd3, hb3⟩; replace hk3 := Lib.hid hk3; have hS1 := hS.keepB hb3; clear hb3 hS; have hS := hS1; clear hS1)
        | (go_at_call 55; (with_reducible refine (rV.out _ (hDl.out _ hS.below)).mono ?_); rintro _ w4 ⟨a4, c4, gs4, hk4, rfl, hd4, hb4⟩; replace hk4 := Lib.hid hk4; replace hd3 := hd3.below hb4; have hS1 := hS.keepB hb4; clear hb4 hS; have hS := hS1; clear hS1)
        | (go_at_call 42; (refine (cS.out _ _ _ _ _ _ _ _ _ (hk3.out.trans hk4.out.symm) hd3 hd4).mono ?_); rintro _ w9 ⟨rfl, hb9⟩; have hS1 := hS.keepB hb9; clear hb9 hS; have hS := hS1; clear hS1; clear hd3 hd4 hk3 hk4)
        | (go_at_call 36; (with_reducible refine (awake17_any _).mono ?_); rintro _ w9 ⟨rfl, hb9⟩; have hS1 := hS.keepB hb9; clear hb9 hS; have hS := hS1; clear hS1))
      go_ret
      exact ⟨rfl, hS.below⟩

theorem tells_any (a b : Option Addr) (gs hs : List Gr) (n k cap cap2 : Nat) (id : Int) (w : World) (hD : Deep w a n cap gs) (hE : Deep w b k cap2 hs) :
    Calls Try.prog 9 #[.slice a n cap, .int .i64 id, .slice b k cap2] w fun e w' => e = .returned (.bool true) ∧ Below w.heap.size w w' := by
  have hS := St.start w
  cases hbig : bigK (keys gs) with
  | true =>
    have cL := fun W (h : Deep W a n cap gs) => large_any a gs n cap W h
    have cL2 := fun W (h : Deep W b k cap2 hs) => large_any b hs k cap2 W h
    have pS := fun W (h1 : Deep W a n cap gs) (h2 : Deep W b k cap2 hs) => same_any a b gs hs n k cap cap2 W h1 h2
    have rS := fun W (h1 : Deep W a n cap gs) (h2 : Deep W b k cap2 hs) => rgsame_any a b gs hs n k cap cap2 W h1 h2
    have hDl := Lib.hid (fun W (h : Below w.heap.size w W) => hD.below h)
    have hEl := Lib.hid (fun W (h : Below w.heap.size w W) => hE.below h)
    generalize decide (keys gs = keys hs) = sm at pS rS
    have hbb : (sm != sm) = false := by cases sm <;> rfl
    rw [hbig] at cL
    replace cL := Lib.hid cL
    clear hD hE hbig pS rS cL2
    go_enter Try.func9, Try.ntmps9
    go_wp2_with (first
      | (go_at_call 34; (with_reducible refine (cL.out _ (hDl.out _ hS.below)).mono ?_); rintro _ _ ⟨rfl, rfl⟩)
      | (go_at_call 36; (with_reducible refine (awake17_any _).mono ?_); rintro _ w9 ⟨rfl, hb9⟩; have hS1 := hS.keepB hb9; clear hb9 hS; have hS := hS1; clear hS1))
    go_ret
    exact ⟨rfl, hS.below⟩
  | false =>
    cases hbig2 : bigK (keys hs) with
    | true =>
      have cL := fun W (h : Deep W a n cap gs) => large_any a gs n cap W h
      have cL2 := fun W (h : Deep W b k cap2 hs) => large_any b hs k cap2 W h
      have pS := fun W (h1 : Deep W a n cap gs) (h2 : Deep W b k cap2 hs) => same_any a b gs hs n k cap cap2 W h1 h2
      have rS := fun W (h1 : Deep W a n cap gs) (h2 : Deep W b k cap2 hs) => rgsame_any a b gs hs n k cap cap2 W h1 h2
      have hDl := Lib.hid (fun W (h : Below w.heap.size w W) => hD.below h)
      have hEl := Lib.hid (fun W (h : Below w.heap.size w W) => hE.below h)
      generalize decide (keys gs = keys hs) = sm at pS rS
      have hbb : (sm != sm) = false := by cases sm <;> rfl
      rw [hbig] at cL
      rw [hbig2] at cL2
      replace cL := Lib.hid cL
      replace cL2 := Lib.hid cL2
      clear hD hE hbig hbig2 pS rS
      go_enter Try.func9, Try.ntmps9
      go_wp2_with (first
        | (go_at_call 34; (with_reducible refine (cL.out _ (hDl.out _ hS.below)).mono ?_); rintro _ _ ⟨rfl, rfl⟩)
        | (go_at_call 34; (with_reducible refine (cL2.out _ (hEl.out _ hS.below)).mono ?_); rintro _ _ ⟨rfl, rfl⟩)
        | (go_at_call 36; (with_reducible refine (awake17_any _).mono ?_); rintro _ w9 ⟨rfl, hb9⟩; have hS1 := hS.keepB hb9; clear hb9 hS; have hS := hS1; clear hS1))
      go_ret
      exact ⟨rfl, hS.below⟩
    | false =>
      cases hchk : chkK (keys gs) with
      | true => exact tells_main a b gs hs n k cap cap2 id w hD hE hbig hbig2 hchk
      | false =>
        obtain ⟨hs1, hs2⟩ := small_of hbig
        have hn1 : n ≤ 200 := by have := hD.len; simp only [keys, List.length_map] at hs1; omega
        have rC := fun W (h : Deep W a n cap gs) => rgcheck_any a gs n cap W h (by omega)
        have cL := fun W (h : Deep W a n cap gs) => large_any a gs n cap W h
        have cL2 := fun W (h : Deep W b k cap2 hs) => large_any b hs k cap2 W h
        have pS := fun W (h1 : Deep W a n cap gs) (h2 : Deep W b k cap2 hs) => same_any a b gs hs n k cap cap2 W h1 h2
        have rS := fun W (h1 : Deep W a n cap gs) (h2 : Deep W b k cap2 hs) => rgsame_any a b gs hs n k cap cap2 W h1 h2
        have hDl := Lib.hid (fun W (h : Below w.heap.size w W) => hD.below h)
        have hEl := Lib.hid (fun W (h : Below w.heap.size w W) => hE.below h)
        generalize decide (keys gs = keys hs) = sm at pS rS
        have hbb : (sm != sm) = false := by cases sm <;> rfl
        rw [hbig] at cL
        rw [hbig2] at cL2
        rw [hchk] at rC
        replace cL := Lib.hid cL
        replace cL2 := Lib.hid cL2
        replace pS := Lib.hid pS
        replace rS := Lib.hid rS
        replace rC := Lib.hid rC
        clear hD hE hbig hbig2 hchk hs1 hs2
        go_enter Try.func9, Try.ntmps9
        go_wp2_with (first
          | (go_at_call 34; (with_reducible refine (cL.out _ (hDl.out _ hS.below)).mono ?_); rintro _ _ ⟨rfl, rfl⟩)
          | (go_at_call 34; (with_reducible refine (cL2.out _ (hEl.out _ hS.below)).mono ?_); rintro _ _ ⟨rfl, rfl⟩)
          | (go_at_call 51; (with_reducible refine (pS.out _ (hDl.out _ hS.below) (hEl.out _ hS.below)).mono ?_); rintro _ w9 ⟨rfl, hb9⟩; have hS1 := hS.keepB hb9; clear hb9 hS; have hS := hS1; clear hS1)
          | (go_at_call 42; (with_reducible refine (rS.out _ (hDl.out _ hS.below) (hEl.out _ hS.below)).mono ?_); rintro _ w9 ⟨rfl, hb9⟩; have hS1 := hS.keepB hb9; clear hb9 hS; have hS := hS1; clear hS1)
          | (go_at_call 35; (with_reducible refine (rC.out _ (hDl.out _ hS.below)).mono ?_); rintro _ w9 ⟨rfl, hb9⟩; have hS1 := hS.keepB hb9; clear hb9 hS; have hS := hS1; clear hS1)
          | (go_at_call 36; (with_reducible refine (awake17_any _).mono ?_); rintro _ w9 ⟨rfl, hb9⟩; have hS1 := hS.keepB hb9; clear hb9 hS; have hS := hS1; clear hS1))
        go_ret
        exact ⟨rfl, hS.below⟩
end Go.Proofs.Ytplgpbbghhlbjaa
