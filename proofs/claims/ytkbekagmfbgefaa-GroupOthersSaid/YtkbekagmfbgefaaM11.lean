import Derived.ChangeSlices
import Derived.Test.YtkbekagmfbgefaaM10
set_option linter.unusedVariables false
set_option linter.unusedSimpArgs false
set_option maxRecDepth 100000
section
namespace Go.Ofp
structure OkK (ks : List Key) : Prop where
  chk : chkK ks = true
  len : ks.length ≤ 200
  mem : ∀ k ∈ ks, k.2.length ≤ 2000
theorem OkK.up {gs : List Gr} (h : OkK (keys gs)) : Ids.Up (nos gs) := by
  rw [nos_keys]
  exact ((chkK_iff _).1 h.chk).1
theorem OkK.no {gs : List Gr} (h : OkK (keys gs)) : ∀ g ∈ gs, 0 ≤ g.no ∧ g.no < 16 := fun g hg => ((chkK_iff _).1 h.chk).2.1 g.key (List.mem_map_of_mem hg)
theorem OkK.rise {gs : List Gr} (h : OkK (keys gs)) : ∀ g ∈ gs, Ids.Rise g.mem := fun g hg => ((chkK_iff _).1 h.chk).2.2 g.key (List.mem_map_of_mem hg)
theorem OkK.um {gs : List Gr} (h : OkK (keys gs)) : ∀ g ∈ gs, Ids.Up g.mem := fun g hg => (h.rise g hg).1
theorem OkK.mm {gs : List Gr} (h : OkK (keys gs)) : ∀ g ∈ gs, g.mem.length ≤ 10000 := fun g hg => Nat.le_trans (h.mem g.key (List.mem_map_of_mem hg)) (by omega)
theorem OkK.nn {gs : List Gr} (h : OkK (keys gs)) : gs.length ≤ 200 := by have := h.len; simpa [keys] using this
end Go.Ofp
namespace Go.Proofs.Ytkbekagmfbgefaa
open Go.RowKit Go.Ofp
set_option maxHeartbeats 4000000
theorem small_of {ks : List Key} (h : bigK ks = false) : ks.length ≤ 40 ∧ ∀ k ∈ ks, k.2.length ≤ 100 := by
  unfold bigK at h
  rw [Bool.or_eq_false_iff] at h
  refine ⟨by have := of_decide_eq_false h.1; omega, fun k hk => ?_⟩
  have := List.any_eq_false.1 h.2 k hk
  simp only [decide_eq_true_eq] at this
  omega
theorem okK_of {ks : List Key} (h : bigK ks = false) (hc : chkK ks = true) : OkK ks := by
  obtain ⟨h1, h2⟩ := small_of h
  exact ⟨hc, by omega, fun k hk => Nat.le_trans (h2 k hk) (by omega)⟩
theorem of_ok {a : Option Addr} {gs : List Gr} {n c : Nat} {w : World} (id : Int) (hD : Deep w a n c gs) (h : OkK (keys gs)) :
    Calls Try.prog 10 #[.slice a n c, .int .i64 id] w fun e w' => e = .returned (.int .u32 (ofK (keys gs) id : Nat)) ∧ Below w.heap.size w w' :=
  gof_any a gs n c id w hD (by have := hD.len; have := h.nn; omega) h.mm h.no h.um
theorem join_ok {a : Option Addr} {gs : List Gr} {n c : Nat} {w : World} (g id : Int) (hD : Deep w a n c gs) (h : OkK (keys gs)) :
    Calls Try.prog 13 #[.slice a n c, .int .i64 g, .int .i64 id] w (GsOut (joinK (keys gs) g id) w) :=
  join_any a gs n c g id w hD (by have := hD.len; have := h.nn; omega) h.mm h.up h.um
theorem quit_ok {a : Option Addr} {gs : List Gr} {n c : Nat} {w : World} (g id : Int) (hD : Deep w a n c gs) (h : OkK (keys gs)) :
    Calls Try.prog 14 #[.slice a n c, .int .i64 g, .int .i64 id] w (GsOut (quitK (keys gs) g id) w) :=
  quit_any a gs n c g id w hD (by have := hD.len; have := h.nn; omega) h.mm h.up h.um
theorem awake17_any (w : World) : Calls Try.prog 8 #[] w fun e w' => e = .returned (.bool true) ∧ Below w.heap.size w w' := by
  have hS := St.start w
  have k1 : openK (keys []) 3 = (0, [(3, [])]) := by decide +kernel
  have k2 : joinK [(3, [])] 3 5 = (0, [(3, [5])]) := by decide +kernel
  have k3 : joinK [(3, [5])] 3 5 = (7, []) := by decide +kernel
  have k4 : ofK [(3, [5])] 5 = 8 := by decide +kernel
  have o1 : OkK [(3, [])] := ⟨by decide +kernel, by decide, by decide⟩
  have o2 : OkK [(3, [5])] := ⟨by decide +kernel, by decide, by decide⟩
  have cO := open_any none [] 0 0 3 w (deep_nil w) (by omega) (by simp) (by simp [nos, Ids.Up])
  rw [k1] at cO
  have cJ1 : ∀ (a : Option Addr) (gs : List Gr) (n c : Nat) (W : World), keys gs = [(3, [])] → Deep W a n c gs → Calls Try.prog 13 #[.slice a n c, .int .i64 3, .int .i64 5] W (GsOut (0, [(3, [5])]) W) := by
    intro a gs n c W hk hD
    have := join_ok 3 5 hD (by rw [hk]; exact o1)
    rwa [hk, k2] at this
  have cJ2 : ∀ (a : Option Addr) (gs : List Gr) (n c : Nat) (W : World), keys gs = [(3, [5])] → Deep W a n c gs → Calls Try.prog 13 #[.slice a n c, .int .i64 3, .int .i64 5] W (GsOut (7, []) W) := by
    intro a gs n c W hk hD
    have := join_ok 3 5 hD (by rw [hk]; exact o2)
    rwa [hk, k3] at this
  have cF : ∀ (a : Option Addr) (gs : List Gr) (n c : Nat) (W : World), keys gs = [(3, [5])] → Deep W a n c gs → Calls Try.prog 10 #[.slice a n c, .int .i64 5] W fun e w' => e = .returned (.int .u32 8) ∧ Below W.heap.size W w' := by
    intro a gs n c W hk hD
    have := of_ok 5 hD (by rw [hk]; exact o2)
    rw [hk, k4] at this
    exact this
  clear k1 k2 k3 k4 o1 o2
  replace cO := Lib.hid cO
  replace cJ1 := Lib.hid cJ1
  replace cJ2 := Lib.hid cJ2
  replace cF := Lib.hid cF
  go_enter Try.func8, Try.ntmps8
  go_wp2_with (first
    | (go_at_call 18; (with_reducible refine cO.out.mono ?_); rintro _ w3 ⟨a3, c3, gs3, hk3, rfl, hd3, hb3⟩; replace hk3 := Lib.hid hk3; have hS1 := hS.keepB hb3; clear hb3 hS; have hS := hS1; clear hS1)
    | (go_at_call 13; (refine (cJ1.out a3 gs3 _ _ _ hk3.out hd3).mono ?_); clear cJ1; rintro _ w4 ⟨a4, c4, gs4, hk4, rfl, hd4, hb4⟩; replace hk4 := Lib.hid hk4; have hS1 := hS.keepB hb4; clear hb4 hS; have hS := hS1; clear hS1)
    | (go_at_call 13; (refine (cJ2.out a4 gs4 _ _ _ hk4.out hd4).mono ?_); clear cJ2; rintro _ w5 ⟨a5, c5, gs5, hk5, rfl, hd5, hb5⟩; replace hk5 := Lib.hid hk5; replace hd4 := hd4.below hb5; have hS1 := hS.keepB hb5; clear hb5 hS; have hS := hS1; clear hS1)
    | (go_at_call 10; (refine (cF.out a4 gs4 _ _ _ hk4.out hd4).mono ?_); rintro _ w6 ⟨rfl, hb6⟩; have hS1 := hS.keepB hb6; clear hb6 hS; have hS := hS1; clear hS1))
  go_ret
  exact ⟨rfl, hS.below⟩
theorem does_main (a : Option Addr) (gs : List Gr) (n cap : Nat) (g id : Int) (w : World) (hD : Deep w a n cap gs) (hbig : bigK (keys gs) = false) (hchk : chkK (keys gs) = true) :
    Calls Try.prog 4 #[.slice a n cap, .int .i64 g, .int .i64 id] w fun e w' => e = .returned (.bool true) ∧ Below w.heap.size w w' := by
  have hS := St.start w
  have hok := okK_of hbig hchk
  have hn1 : n ≤ 200 := by have := hD.len; have := hok.nn; omega
  have cL := fun W (h : Deep W a n cap gs) => large_any a gs n cap W h
  have pC := fun W (h : Deep W a n cap gs) => gcheck_any a gs n cap W h (by omega) hok.mm
  have rC := fun W (h : Deep W a n cap gs) => rgcheck_any a gs n cap W h (by omega)
  have pO := fun W (h : Deep W a n cap gs) => open_any a gs n cap g W h (by omega) hok.mm hok.up
  have rO := fun W (h : Deep W a n cap gs) => ropen_any a gs n cap g W h (by omega) hok.up
  have pK := fun W (h : Deep W a n cap gs) => close_any a gs n cap g W h (by omega) hok.mm hok.up
  have rK := fun W (h : Deep W a n cap gs) => rclose_any a gs n cap g W h (by omega) hok.up
  have pJ := fun W (h : Deep W a n cap gs) => join_any a gs n cap g id W h (by omega) hok.mm hok.up hok.um
  have rJ := fun W (h : Deep W a n cap gs) => rjoin_any a gs n cap g id W h (by omega) hok.mm hok.up
  have pQ := fun W (h : Deep W a n cap gs) => quit_any a gs n cap g id W h (by omega) hok.mm hok.up hok.um
  have rQ := fun W (h : Deep W a n cap gs) => rquit_any a gs n cap g id W h (by omega) hok.mm hok.up
  have cS : ∀ (a b : Option Addr) (gs hs : List Gr) (n k c1 c2 : Nat) (W : World), keys gs = keys hs → Deep W a n c1 gs → Deep W b k c2 hs → Calls Try.prog 15 #[.slice a n c1, .slice b k c2] W fun e w' => e = .returned (.bool true) ∧ Below W.heap.size W w' := by
    intro a b gs hs n k c1 c2 W hk h1 h2
    have := rgsame_any a b gs hs n k c1 c2 W h1 h2
    rwa [decide_eq_true hk] at this
  rw [hbig] at cL
  rw [hchk] at pC rC
  generalize openK (keys gs) g = q1 at pO rO
  generalize closeK (keys gs) g = q2 at pK rK
  generalize joinK (keys gs) g id = q3 at pJ rJ
  generalize quitK (keys gs) g id = q4 at pQ rQ
  obtain ⟨e1, l1⟩ := q1
  obtain ⟨e2, l2⟩ := q2
  obtain ⟨e3, l3⟩ := q3
  obtain ⟨e4, l4⟩ := q4
  have hDl := Lib.hid (fun W (h : Below w.heap.size w W) => hD.below h)
  replace cL := Lib.hid cL
  replace pC := Lib.hid pC
  replace rC := Lib.hid rC
  replace pO := Lib.hid pO
  replace rO := Lib.hid rO
  replace pK := Lib.hid pK
  replace rK := Lib.hid rK
  replace pJ := Lib.hid pJ
  replace rJ := Lib.hid rJ
  replace pQ := Lib.hid pQ
  replace rQ := Lib.hid rQ
  replace cS := Lib.hid cS
  clear hD hbig hchk hok
  go_enter Try.func4, Try.ntmps4
  go_wp2_with (first
    | (go_at_call 6; (with_reducible refine (cL.out _ (hDl.out _ hS.below)).mono ?_); rintro _ _ ⟨rfl, rfl⟩)
    | (go_at_call 17; (with_reducible refine (pC.out _ (hDl.out _ hS.below)).mono ?_); rintro _ w9 ⟨rfl, hb9⟩; have hS1 := hS.keepB hb9; clear hb9 hS; have hS := hS1; clear hS1)
    | (go_at_call 7; (with_reducible refine (rC.out _ (hDl.out _ hS.below)).mono ?_); rintro _ w9 ⟨rfl, hb9⟩; have hS1 := hS.keepB hb9; clear hb9 hS; have hS := hS1; clear hS1)
    | (go_at_call 18; (with_reducible refine (pO.out _ (hDl.out _ hS.below)).mono ?_); rintro _ w3 ⟨a3, c3, gs3, hk3, rfl, hd3, hb3⟩; replace hk3 := Lib.hid hk3; have hS1 := hS.keepB hb3; clear hb3 hS; have hS := hS1; clear hS1)
    | (go_at_call 19; (with_reducible refine (rO.out _ (hDl.out _ hS.below)).mono ?_); rintro _ w4 ⟨a4, c4, gs4, hk4, rfl, hd4, hb4⟩; replace hk4 := Lib.hid hk4; replace hd3 := hd3.below hb4; have hS1 := hS.keepB hb4; clear hb4 hS; have hS := hS1; clear hS1)
    | (go_at_call 20; (with_reducible refine (pK.out _ (hDl.out _ hS.below)).mono ?_); rintro _ w3 ⟨a3, c3, gs3, hk3, rfl, hd3, hb3⟩; replace hk3 := Lib.hid hk3; have hS1 := hS.keepB hb3; clear hb3 hS; have hS := hS1; clear hS1)
    | (go_at_call 21; (with_reducible refine (rK.out _ (hDl.out _ hS.below)).mono ?_); rintro _ w4 ⟨a4, c4, gs4, hk4, rfl, hd4, hb4⟩; replace hk4 := Lib.hid hk4; replace hd3 := hd3.below hb4; have hS1 := hS.keepB hb4; clear hb4 hS; have hS := hS1; clear hS1)
    | (go_at_call 13; (with_reducible refine (pJ.out _ (hDl.out _ hS.below)).mono ?_); rintro _ w3 ⟨a3, c3, gs3, hk3, rfl, hd3, hb3⟩; replace hk3 := Lib.hid hk3; have hS1 := hS.keepB hb3; clear hb3 hS; have hS := hS1; clear hS1)
    | (go_at_call 22; (with_reducible refine (rJ.out _ (hDl.out _ hS.below)).mono ?_); rintro _ w4 ⟨a4, c4, gs4, hk4, rfl, hd4, hb4⟩; replace hk4 := Lib.hid hk4; replace hd3 := hd3.below hb4; have hS1 := hS.keepB hb4; clear hb4 hS; have hS := hS1; clear hS1)
    | (go_at_call 14; (with_reducible refine (pQ.out _ (hDl.out _ hS.below)).mono ?_); rintro _ w3 ⟨a3, c3, gs3, hk3, rfl, hd3, hb3⟩; replace hk3 := Lib.hid hk3; have hS1 := hS.keepB hb3; clear hb3 hS; have hS := hS1; clear hS1)
    | (go_at_call 23; (with_reducible refine (rQ.out _ (hDl.out _ hS.below)).mono ?_); rintro _ w4 ⟨a4, c4, gs4, hk4, rfl, hd4, hb4⟩; replace hk4 := Lib.hid hk4; replace hd3 := hd3.below hb4; have hS1 := hS.keepB hb4; clear hb4 hS; have hS := hS1; clear hS1)
    | (go_at_call 15; (refine (cS.out _ _ _ _ _ _ _ _ _ (hk3.out.trans hk4.out.symm) hd3 hd4).mono ?_); rintro _ w9 ⟨rfl, hb9⟩; have hS1 := hS.keepB hb9; clear hb9 hS; have hS := hS1; clear hS1; clear hd3 hd4 hk3 hk4)
    | (go_at_call 8; (with_reducible refine (awake17_any _).mono ?_); rintro _ w9 ⟨rfl, hb9⟩; have hS1 := hS.keepB hb9; clear hb9 hS; have hS := hS1; clear hS1))
  go_ret
  exact ⟨rfl, hS.below⟩
theorem does_any (a : Option Addr) (gs : List Gr) (n cap : Nat) (g id : Int) (w : World) (hD : Deep w a n cap gs) :
    Calls Try.prog 4 #[.slice a n cap, .int .i64 g, .int .i64 id] w fun e w' => e = .returned (.bool true) ∧ Below w.heap.size w w' := by
  have cL := fun W (h : Deep W a n cap gs) => large_any a gs n cap W h
  cases hbig : bigK (keys gs) with
  | true =>
    have hS := St.start w
    have hDl := Lib.hid (fun W (h : Below w.heap.size w W) => hD.below h)
    rw [hbig] at cL
    replace cL := Lib.hid cL
    clear hD hbig
    go_enter Try.func4, Try.ntmps4
    go_wp2_with (first
      | (go_at_call 6; (with_reducible refine (cL.out _ (hDl.out _ hS.below)).mono ?_); rintro _ _ ⟨rfl, rfl⟩)
      | (go_at_call 8; (with_reducible refine (awake17_any _).mono ?_); rintro _ w9 ⟨rfl, hb9⟩; have hS1 := hS.keepB hb9; clear hb9 hS; have hS := hS1; clear hS1))
    go_ret
    exact ⟨rfl, hS.below⟩
  | false =>
    cases hchk : chkK (keys gs) with
    | true => exact does_main a gs n cap g id w hD hbig hchk
    | false =>
      have hS := St.start w
      obtain ⟨hs1, hs2⟩ := small_of hbig
      have hn1 : n ≤ 200 := by have := hD.len; simp only [keys, List.length_map] at hs1; omega
      have hmm : ∀ x ∈ gs, x.mem.length ≤ 10000 := fun x hx => Nat.le_trans (hs2 x.key (List.mem_map_of_mem hx)) (by omega)
      have pC := fun W (h : Deep W a n cap gs) => gcheck_any a gs n cap W h (by omega) hmm
      have rC := fun W (h : Deep W a n cap gs) => rgcheck_any a gs n cap W h (by omega)
      rw [hbig] at cL
      rw [hchk] at pC rC
      have hDl := Lib.hid (fun W (h : Below w.heap.size w W) => hD.below h)
      replace cL := Lib.hid cL
      replace pC := Lib.hid pC
      replace rC := Lib.hid rC
      clear hD hbig hchk hs1 hs2 hmm
      go_enter Try.func4, Try.ntmps4
      go_wp2_with (first
        | (go_at_call 6; (with_reducible refine (cL.out _ (hDl.out _ hS.below)).mono ?_); rintro _ _ ⟨rfl, rfl⟩)
        | (go_at_call 17; (with_reducible refine (pC.out _ (hDl.out _ hS.below)).mono ?_); rintro _ w9 ⟨rfl, hb9⟩; have hS1 := hS.keepB hb9; clear hb9 hS; have hS := hS1; clear hS1)
        | (go_at_call 7; (with_reducible refine (rC.out _ (hDl.out _ hS.below)).mono ?_); rintro _ w9 ⟨rfl, hb9⟩; have hS1 := hS.keepB hb9; clear hb9 hS; have hS := hS1; clear hS1)
        | (go_at_call 8; (with_reducible refine (awake17_any _).mono ?_); rintro _ w9 ⟨rfl, hb9⟩; have hS1 := hS.keepB hb9; clear hb9 hS; have hS := hS1; clear hS1))
      go_ret
      exact ⟨rfl, hS.below⟩
theorem tells_main (a b : Option Addr) (gs hs : List Gr) (n k cap cap2 : Nat) (id : Int) (w : World) (hD : Deep w a n cap gs) (hE : Deep w b k cap2 hs) (hbig : bigK (keys gs) = false) (hbig2 : bigK (keys hs) = false) (hchk : chkK (keys gs) = true) :
    Calls Try.prog 5 #[.slice a n cap, .int .i64 id, .slice b k cap2] w fun e w' => e = .returned (.bool true) ∧ Below w.heap.size w w' := by
  have hS := St.start w
  have hok := okK_of hbig hchk
  have hn1 : n ≤ 200 := by have := hD.len; have := hok.nn; omega
  have cL := fun W (h : Deep W a n cap gs) => large_any a gs n cap W h
  have cL2 := fun W (h : Deep W b k cap2 hs) => large_any b hs k cap2 W h
  have pS := fun W (h1 : Deep W a n cap gs) (h2 : Deep W b k cap2 hs) => same_any a b gs hs n k cap cap2 W h1 h2
  have rS := fun W (h1 : Deep W a n cap gs) (h2 : Deep W b k cap2 hs) => rgsame_any a b gs hs n k cap cap2 W h1 h2
  have hDl := Lib.hid (fun W (h : Below w.heap.size w W) => hD.below h)
  have hEl := Lib.hid (fun W (h : Below w.heap.size w W) => hE.below h)
  generalize decide (keys gs = keys hs) = sm at pS rS
  have hbb : (sm != sm) = false := by cases sm <;> rfl
  have rC := fun W (h : Deep W a n cap gs) => rgcheck_any a gs n cap W h (by omega)
  have pM := fun g W (h : Deep W a n cap gs) => members_any a gs n cap g W h (by omega) hok.mm hok.up
  have rM := fun g W (h : Deep W a n cap gs) => rmembers_any a gs n cap g W h (by omega) hok.up
  have pF := fun W (h : Deep W a n cap gs) => gof_any a gs n cap id W h (by omega) hok.mm hok.no hok.um
  have rF := fun W (h : Deep W a n cap gs) => rgof_any a gs n cap id W h (by omega) hok.no
  have pV := fun W (h : Deep W a n cap gs) => leave_any a gs n cap id W h (by omega) hok.mm hok.um
  have rV := fun W (h : Deep W a n cap gs) => rleave_any a gs n cap id W h (by omega) hok.mm
  have hml : ∀ g, (membersK (keys gs) g).length ≤ 2000 := by
    intro g
    unfold membersK memAt
    split
    · rw [List.getD_eq_getElem?_getD]
      cases e : (keys gs)[Ids.place (knos (keys gs)) g]? with
      | none => simp
      | some x => exact hok.mem x (List.mem_of_getElem? e)
    · simp
  have cI : ∀ (g : Int) (a b : Option Addr) (c d : Nat) (W : World), Sl W a ((membersK (keys gs) g).map vi) → Sl W b ((membersK (keys gs) g).map vi) → Calls Try.prog 25 #[.slice a (membersK (keys gs) g).length c, .slice b (membersK (keys gs) g).length d] W fun e w' => e = .returned (.bool true) ∧ Below W.heap.size W w' := by
    intro g a b c d W h3 h4
    have := ints_any a b (membersK (keys gs) g) (membersK (keys gs) g) _ _ c d W h3 h4 rfl rfl (by have := hml g; unfold maxLen; omega) (by have := hml g; unfold maxLen; omega)
    rwa [decide_eq_true rfl] at this
  have cS : ∀ (a b : Option Addr) (gs hs : List Gr) (n k c1 c2 : Nat) (W : World), keys gs = keys hs → Deep W a n c1 gs → Deep W b k c2 hs → Calls Try.prog 15 #[.slice a n c1, .slice b k c2] W fun e w' => e = .returned (.bool true) ∧ Below W.heap.size W w' := by
    intro a b gs hs n k c1 c2 W hk h1 h2
    have := rgsame_any a b gs hs n k c1 c2 W h1 h2
    rwa [decide_eq_true hk] at this
  rw [hbig] at cL
  rw [hbig2] at cL2
  rw [hchk] at rC
  generalize ofK (keys gs) id = fo at pF rF
  generalize leaveK (keys gs) id = lv at pV rV
  replace cL := Lib.hid cL
  replace cL2 := Lib.hid cL2
  replace pS := Lib.hid pS
  replace rS := Lib.hid rS
  replace rC := Lib.hid rC
  replace pM := Lib.hid pM
  replace rM := Lib.hid rM
  replace pF := Lib.hid pF
  replace rF := Lib.hid rF
  replace pV := Lib.hid pV
  replace rV := Lib.hid rV
  replace cI := Lib.hid cI
  replace cS := Lib.hid cS
  replace hml := Lib.hid hml
  clear hD hE hbig hbig2 hchk hok
  go_enter Try.func5, Try.ntmps5
  go_wp2_with (first
    | (go_at_call 6; (with_reducible refine (cL.out _ (hDl.out _ hS.below)).mono ?_); rintro _ _ ⟨rfl, rfl⟩)
    | (go_at_call 6; (with_reducible refine (cL2.out _ (hEl.out _ hS.below)).mono ?_); rintro _ _ ⟨rfl, rfl⟩)
    | (go_at_call 24; (with_reducible refine (pS.out _ (hDl.out _ hS.below) (hEl.out _ hS.below)).mono ?_); rintro _ w9 ⟨rfl, hb9⟩; have hS1 := hS.keepB hb9; clear hb9 hS; have hS := hS1; clear hS1)
    | (go_at_call 15; (with_reducible refine (rS.out _ (hDl.out _ hS.below) (hEl.out _ hS.below)).mono ?_); rintro _ w9 ⟨rfl, hb9⟩; have hS1 := hS.keepB hb9; clear hb9 hS; have hS := hS1; clear hS1)
    | (go_at_call 7; (with_reducible refine (rC.out _ (hDl.out _ hS.below)).mono ?_); rintro _ w9 ⟨rfl, hb9⟩; have hS1 := hS.keepB hb9; clear hb9 hS; have hS := hS1; clear hS1))
  go_loopg [7] 18 (fun gk vx wr => ∃ j : Int, -1 ≤ j ∧ j ≤ 17 ∧ gk = (17 - j).toNat ∧ vx = .int .i64 j ∧ St w [] [] wr)
  case atStart => exact ⟨-1, by omega, by omega, rfl, rfl, hS⟩
  case round =>
    clear hS
    obtain ⟨j, hj1, hj2, rfl, rfl, hS⟩ := hrel
    by_cases hj : j ≤ 16
    · go_wp2_with (first
        | (go_at_call 12; (with_reducible refine (pM.out _ _ (hDl.out _ hS.below)).mono ?_); rintro _ w3 ⟨a3, c3, rfl, h31, h32, hb3⟩; have hS1 := hS.made hb3; clear hS hb3; have hS := hS1; clear hS1)
        | (go_at_call 26; (with_reducible refine (rM.out _ _ (hDl.out _ hS.below)).mono ?_); rintro _ _ ⟨⟨a4, c4, rfl, hs4⟩, rfl⟩)
        | (go_at_call 25; (with_reducible refine (cI.out _ _ _ _ _ _ (hS.rowsl 0 rfl) hs4).mono ?_); rintro _ w9 ⟨rfl, hb9⟩; have hS1 := hS.keepB hb9; clear hb9 hS; have hS := hS1; clear hS1))
      go_roundg ((17 - (j + 1)).toNat)
      case measure => omega
      case rel => exact ⟨j + 1, by omega, by omega, rfl, by go_num, hS.empty⟩
    · have hj3 : decide (j ≤ 16) = false := decide_eq_false hj
      clear hj
      have hbf : (fo == fo) = true := by simp
      go_wp2_with (first
        | (go_at_call 10; (with_reducible refine (pF.out _ (hDl.out _ hS.below)).mono ?_); rintro _ w9 ⟨rfl, hb9⟩; have hS1 := hS.keepB hb9; clear hb9 hS; have hS := hS1; clear hS1)
        | (go_at_call 27; (with_reducible refine (rF.out _ (hDl.out _ hS.below)).mono ?_); rintro _ _ ⟨rfl, rfl⟩)
        | (go_at_call 28; (with_reducible refine (pV.out _ (hDl.out _ hS.below)).mono ?_); rintro _ w3 ⟨a3, c3, gs3, hk3, rfl, hd3, hb3⟩; replace hk3 := Lib.hid hk3; have hS1 := hS.keepB hb3; clear hb3 hS; have hS := hS1; clear hS1)
        | (go_at_call 29; (with_reducible refine (rV.out _ (hDl.out _ hS.below)).mono ?_); rintro _ w4 ⟨a4, c4, gs4, hk4, rfl, hd4, hb4⟩; replace hk4 := Lib.hid hk4; replace hd3 := hd3.below hb4; have hS1 := hS.keepB hb4; clear hb4 hS; have hS := hS1; clear hS1)
        | (go_at_call 15; (refine (cS.out _ _ _ _ _ _ _ _ _ (hk3.out.trans hk4.out.symm) hd3 hd4).mono ?_); rintro _ w9 ⟨rfl, hb9⟩; have hS1 := hS.keepB hb9; clear hb9 hS; have hS := hS1; clear hS1; clear hd3 hd4 hk3 hk4)
        | (go_at_call 8; (with_reducible refine (awake17_any _).mono ?_); rintro _ w9 ⟨rfl, hb9⟩; have hS1 := hS.keepB hb9; clear hb9 hS; have hS := hS1; clear hS1))
      go_ret
      exact ⟨rfl, hS.below⟩
theorem tells_any (a b : Option Addr) (gs hs : List Gr) (n k cap cap2 : Nat) (id : Int) (w : World) (hD : Deep w a n cap gs) (hE : Deep w b k cap2 hs) :
    Calls Try.prog 5 #[.slice a n cap, .int .i64 id, .slice b k cap2] w fun e w' => e = .returned (.bool true) ∧ Below w.heap.size w w' := by
  have hS := St.start w
  cases hbig : bigK (keys gs) with
  | true =>
    have cL := fun W (h : Deep W a n cap gs) => large_any a gs n cap W h
    have cL2 := fun W (h : Deep W b k cap2 hs) => large_any b hs k cap2 W h
    have pS := fun W (h1 : Deep W a n cap gs) (h2 : Deep W b k cap2 hs) => same_any a b gs hs n k cap cap2 W h1 h2
    have rS := fun W (h1 : Deep W a n cap gs) (h2 : Deep W b k cap2 hs) => rgsame_any a b gs hs n k cap cap2 W h1 h2
    have hDl := Lib.hid (fun W (h : Below w.heap.size w W) => hD.below h)
    have hEl := Lib.hid (fun W (h : Below w.heap.size w W) => hE.below h)
    generalize decide (keys gs = keys hs) = sm at pS rS
    have hbb : (sm != sm) = false := by cases sm <;> rfl
    rw [hbig] at cL
    replace cL := Lib.hid cL
    clear hD hE hbig pS rS cL2
    go_enter Try.func5, Try.ntmps5
    go_wp2_with (first
      | (go_at_call 6; (with_reducible refine (cL.out _ (hDl.out _ hS.below)).mono ?_); rintro _ _ ⟨rfl, rfl⟩)
      | (go_at_call 8; (with_reducible refine (awake17_any _).mono ?_); rintro _ w9 ⟨rfl, hb9⟩; have hS1 := hS.keepB hb9; clear hb9 hS; have hS := hS1; clear hS1))
    go_ret
    exact ⟨rfl, hS.below⟩
  | false =>
    cases hbig2 : bigK (keys hs) with
    | true =>
      have cL := fun W (h : Deep W a n cap gs) => large_any a gs n cap W h
      have cL2 := fun W (h : Deep W b k cap2 hs) => large_any b hs k cap2 W h
      have pS := fun W (h1 : Deep W a n cap gs) (h2 : Deep W b k cap2 hs) => same_any a b gs hs n k cap cap2 W h1 h2
      have rS := fun W (h1 : Deep W a n cap gs) (h2 : Deep W b k cap2 hs) => rgsame_any a b gs hs n k cap cap2 W h1 h2
      have hDl := Lib.hid (fun W (h : Below w.heap.size w W) => hD.below h)
      have hEl := Lib.hid (fun W (h : Below w.heap.size w W) => hE.below h)
      generalize decide (keys gs = keys hs) = sm at pS rS
      have hbb : (sm != sm) = false := by cases sm <;> rfl
      rw [hbig] at cL
      rw [hbig2] at cL2
      replace cL := Lib.hid cL
      replace cL2 := Lib.hid cL2
      clear hD hE hbig hbig2 pS rS
      go_enter Try.func5, Try.ntmps5
      go_wp2_with (first
        | (go_at_call 6; (with_reducible refine (cL.out _ (hDl.out _ hS.below)).mono ?_); rintro _ _ ⟨rfl, rfl⟩)
        | (go_at_call 6; (with_reducible refine (cL2.out _ (hEl.out _ hS.below)).mono ?_); rintro _ _ ⟨rfl, rfl⟩)
        | (go_at_call 8; (with_reducible refine (awake17_any _).mono ?_); rintro _ w9 ⟨rfl, hb9⟩; have hS1 := hS.keepB hb9; clear hb9 hS; have hS := hS1; clear hS1))
      go_ret
      exact ⟨rfl, hS.below⟩
    | false =>
      cases hchk : chkK (keys gs) with
      | true => exact tells_main a b gs hs n k cap cap2 id w hD hE hbig hbig2 hchk
      | false =>
        obtain ⟨hs1, hs2⟩ := small_of hbig
        have hn1 : n ≤ 200 := by have := hD.len; simp only [keys, List.length_map] at hs1; omega
        have rC := fun W (h : Deep W a n cap gs) => rgcheck_any a gs n cap W h (by omega)
        have cL := fun W (h : Deep W a n cap gs) => large_any a gs n cap W h
        have cL2 := fun W (h : Deep W b k cap2 hs) => large_any b hs k cap2 W h
        have pS := fun W (h1 : Deep W a n cap gs) (h2 : Deep W b k cap2 hs) => same_any a b gs hs n k cap cap2 W h1 h2
        have rS := fun W (h1 : Deep W a n cap gs) (h2 : Deep W b k cap2 hs) => rgsame_any a b gs hs n k cap cap2 W h1 h2
        have hDl := Lib.hid (fun W (h : Below w.heap.size w W) => hD.below h)
        have hEl := Lib.hid (fun W (h : Below w.heap.size w W) => hE.below h)
        generalize decide (keys gs = keys hs) = sm at pS rS
        have hbb : (sm != sm) = false := by cases sm <;> rfl
        rw [hbig] at cL
        rw [hbig2] at cL2
        rw [hchk] at rC
        replace cL := Lib.hid cL
        replace cL2 := Lib.hid cL2
        replace pS := Lib.hid pS
        replace rS := Lib.hid rS
        replace rC := Lib.hid rC
        clear hD hE hbig hbig2 hchk hs1 hs2
        go_enter Try.func5, Try.ntmps5
        go_wp2_with (first
          | (go_at_call 6; (with_reducible refine (cL.out _ (hDl.out _ hS.below)).mono ?_); rintro _ _ ⟨rfl, rfl⟩)
          | (go_at_call 6; (with_reducible refine (cL2.out _ (hEl.out _ hS.below)).mono ?_); rintro _ _ ⟨rfl, rfl⟩)
          | (go_at_call 24; (with_reducible refine (pS.out _ (hDl.out _ hS.below) (hEl.out _ hS.below)).mono ?_); rintro _ w9 ⟨rfl, hb9⟩; have hS1 := hS.keepB hb9; clear hb9 hS; have hS := hS1; clear hS1)
          | (go_at_call 15; (with_reducible refine (rS.out _ (hDl.out _ hS.below) (hEl.out _ hS.below)).mono ?_); rintro _ w9 ⟨rfl, hb9⟩; have hS1 := hS.keepB hb9; clear hb9 hS; have hS := hS1; clear hS1)
          | (go_at_call 7; (with_reducible refine (rC.out _ (hDl.out _ hS.below)).mono ?_); rintro _ w9 ⟨rfl, hb9⟩; have hS1 := hS.keepB hb9; clear hb9 hS; have hS := hS1; clear hS1)
          | (go_at_call 8; (with_reducible refine (awake17_any _).mono ?_); rintro _ w9 ⟨rfl, hb9⟩; have hS1 := hS.keepB hb9; clear hb9 hS; have hS := hS1; clear hS1))
        go_ret
        exact ⟨rfl, hS.below⟩
end Go.Proofs.Ytkbekagmfbgefaa
end
section
namespace Go.Proofs.Ytkbekagmfbgefaa
open Go.RowKit Go.Ofp
set_option maxHeartbeats 4000000
theorem row_ints {w : World} {a : Option Addr} {len cap : Nat} {zs : List Int} (h : (a = none ∧ len = 0 ∧ cap = 0 ∧ zs = []) ∨
    ∃ x, a = some x ∧ len ≤ cap ∧ cap ≤ maxLen ∧ zs.length = cap ∧ (∀ i, i < zs.length → w.cell? (x.add i) = some (.int .i64 (zs.getD i 0))) ∧ ∀ n ∈ zs, (Lit.int .i64 n).wf = true) :
    ∃ l : List Int, l.length = len ∧ Sl w a (l.map vi) ∧ len ≤ cap ∧ cap ≤ maxLen ∧ ∀ x ∈ l, -9223372036854775808 ≤ x ∧ x ≤ 9223372036854775807 := by
  rcases h with ⟨rfl, rfl, rfl, rfl⟩ | ⟨x, rfl, h1, h2, h3, h4, h5⟩
  · exact ⟨[], rfl, Sl.nil _ _, Nat.le_refl _, Nat.zero_le _, by simp⟩
  · refine ⟨zs.take len, by rw [List.length_take]; omega, ?_, h1, h2, fun z hz => wf_i64 (h5 z (List.mem_of_mem_take hz))⟩
    intro i hi
    have hi' : i < len := by simp at hi; omega
    have hc := h4 i (by omega)
    obtain ⟨b, off, spot⟩ := x
    have hs : spot = none := by
      have := h4 0 (by omega)
      simpa [Addr.add] using World.cell?_spot this
    subst hs
    refine ⟨b, off, rfl, ?_⟩
    rw [Addr.add_lit] at hc
    rw [hc]
    simp [vi, List.getElem?_eq_getElem (show i < zs.length by omega)]
end Go.Proofs.Ytkbekagmfbgefaa
end
section
namespace Go.Proofs.Ytkbekagmfbgefaa
open Go.RowKit Go.Ofp Go.WideShapes
section
variable {H : Type} {enc : TypeId × Value → H}
theorem read_g {w : World} {cs : List Value} (h : ∃ fuel x, DataW.trod enc Try.prog w 0 (fun _ => true) true fuel 31 cs = some x) : ∃ g : Gr, cs = g.row ∧ Mem w g := by
  obtain ⟨fuel, x, h⟩ := h
  obtain ⟨hl, hf⟩ := field_read Try.underlying31 h
  have hc : Try.prog.cellsOf 31 = 2 := by kernel_rfl
  have hc1 : Try.prog.cellsOf 29 = 1 := by kernel_rfl
  rw [hc] at hl
  obtain ⟨n0, y0, h0⟩ := hf 0 _ rfl
  obtain ⟨n1, y1, h1⟩ := hf 1 _ rfl
  obtain ⟨z0, e0, w0⟩ := field_int Try.underlying3 (by kernel_rfl) (by rw [hl]; decide) h0
  have h1' : DataW.trod enc Try.prog w 0 (fun _ => true) true n1 29 ((cs.drop 1).take (Try.prog.cellsOf 29)) = some y1 := h1
  rw [hc1] at h1'
  match cs, hl with
  | [c0, c1], _ =>
    simp at e0 h1'
    subst e0
    obtain ⟨d1, p1⟩ := y1
    rcases Go.ChangeShapes.open_ints Try.underlying29 Try.underlying3 (by kernel_rfl) h1' with ⟨hcs, _⟩ | ⟨x, l, c, zs, hcs, _, hl', hm, hz, _, hcell, hwz⟩
    · simp only [List.cons.injEq, and_true] at hcs
      subst hcs
      exact ⟨⟨z0, none, 0, []⟩, rfl, ⟨Sl.nil _ _, Nat.le_refl _, Nat.zero_le _, fun _ => rfl⟩⟩
    · simp only [List.cons.injEq, and_true] at hcs
      subst hcs
      obtain ⟨m, hml, hms, h3, h4, -⟩ := row_ints (w := w) (a := some x) (len := l) (cap := c) (zs := zs) (.inr ⟨x, rfl, hl', hm, by simpa using hz, hcell, hwz⟩)
      subst hml
      exact ⟨⟨z0, some x, c, m⟩, rfl, ⟨hms, h3, h4, fun e => by cases e⟩⟩
theorem gs_of {w : World} {rows : List (List Value)} (h : ∀ cs ∈ rows, ∃ g : Gr, cs = g.row ∧ Mem w g) : ∃ gs : List Gr, rows = gs.map Gr.row ∧ ∀ g ∈ gs, Mem w g := by
  induction rows with
  | nil => exact ⟨[], rfl, by simp⟩
  | cons c cs ih =>
    obtain ⟨p, rfl, hp⟩ := h c (by simp)
    obtain ⟨ps, rfl, hps⟩ := ih (fun x hx => h x (by simp [hx]))
    refine ⟨p :: ps, rfl, ?_⟩
    intro q hq
    rcases List.mem_cons.1 hq with rfl | hq
    · exact hp
    · exact hps q hq
theorem open_gs {r : Reach} {b0 : Nat} {v : Value} {d : DataW H} {ms : List MemPlace} {w : World}
    (ho : Value.okWide Try.prog w r b0 22 v) (ht : DataW.Trod enc Try.prog w 0 (fun _ => true) true 22 v d ms) :
    ∃ a n cap gs, v = .slice a n cap ∧ Deep w a n cap gs := by
  have hc : Try.prog.cellsOf 31 = 2 := by kernel_rfl
  have hnil : ∀ n c, v = .slice none n c → c = 0 := by
    intro n c e
    subst e
    obtain ⟨fuel, hf⟩ := ht
    rcases DataW.trod_slice Try.underlying22 hf with ⟨hc, _⟩ | ⟨ad, len, c', elems, rest, m, _, hc, _⟩
    · simp only [Value.cells, List.cons.injEq, Value.slice.injEq, and_true] at hc
      exact hc.2.2
    · simp only [Value.cells, List.cons.injEq, Value.slice.injEq, and_true] at hc
      cases hc.1
  obtain ⟨b, n, cb, rfl, hn, hm, rows, hrl, hrw, hrd⟩ := open_rows Try.underlying22 ho ht (by rw [hc]; decide)
  obtain ⟨qs, rfl, hqs⟩ := gs_of fun cs h => read_g (hrd cs h)
  rw [List.length_map] at hrl
  refine ⟨b, n, cb, qs, rfl, ⟨hrw.sl, hrl, hn, hm, fun e => ?_, hqs⟩⟩
  subst e
  exact hnil _ _ rfl
end
end Go.Proofs.Ytkbekagmfbgefaa
end
section
namespace Go.Ofp
open Go.RowKit
theorem ofFrom_append (id : Int) (A B : List Key) : ∀ s, ofFrom id s (A ++ B) = ofFrom id (ofFrom id s A) B := by
  induction A with
  | nil => intro s; rfl
  | cons k A ih => intro s; simp only [List.cons_append, ofFrom]; exact ih _
theorem ofFrom_or (id : Int) (B : List Key) (x : Nat) : ∀ s, ofFrom id (s ||| x) B = ofFrom id s B ||| x := by
  induction B with
  | nil => intro s; rfl
  | cons k B ih =>
    intro s
    simp only [ofFrom]
    cases Ids.has k.2 id with
    | false => exact ih s
    | true =>
      simp only [cond_true]
      rw [Nat.or_assoc, Nat.or_comm x, ← Nat.or_assoc, ih]
theorem ofFrom_bit (id : Int) (B : List Key) (q : Nat) : ∀ s, (ofFrom id s B).testBit q = (s.testBit q || B.any fun k => decide (k.1.toNat = q) && Ids.has k.2 id) := by
  induction B with
  | nil => intro s; simp [ofFrom]
  | cons k B ih =>
    intro s
    simp only [ofFrom, List.any_cons, ih]
    cases Ids.has k.2 id with
    | false => simp
    | true => simp [Nat.testBit_or, Nat.testBit_two_pow, Bool.or_assoc]
section
variable {ks : List Key} (h : chkK ks = true)
include h
theorem key_at (i : Nat) (hi : i < ks.length) : Ids.place (knos ks) ks[i].1 = i ∧ Ids.has (knos ks) ks[i].1 = true :=
  place_get (knos ks) ks[i].1 ((chkK_iff _).1 h).1 i (by simpa [knos] using hi) (by simp [knos])
theorem members_at (i : Nat) (hi : i < ks.length) : membersK ks ks[i].1 = ks[i].2 := by
  obtain ⟨h1, h2⟩ := key_at h i hi
  unfold membersK memAt
  rw [h2, if_pos rfl, h1, List.getD_eq_getElem?_getD, List.getElem?_eq_getElem hi]
  rfl
theorem of_bit (id : Int) (i : Nat) (hi : i < ks.length) : (ofK ks id).testBit ks[i].1.toNat = Ids.has ks[i].2 id := by
  obtain ⟨hu, hno, -⟩ := (chkK_iff _).1 h
  unfold ofK
  rw [ofFrom_bit, Nat.zero_testBit, Bool.false_or]
  cases e : Ids.has ks[i].2 id with
  | true =>
    rw [List.any_eq_true]
    exact ⟨ks[i], List.getElem_mem hi, by simp [e]⟩
  | false =>
    rw [List.any_eq_false]
    intro k hk
    obtain ⟨j, hj, rfl⟩ := List.getElem_of_mem hk
    by_cases e2 : ks[j].1.toNat = ks[i].1.toNat
    · have h1 := hno _ (List.getElem_mem hi)
      have h2 := hno _ (List.getElem_mem hj)
      have e3 : ks[j].1 = ks[i].1 := by omega
      have hij : j = i := by
        have a1 := (key_at h i hi).1
        have a2 := (key_at h j hj).1
        rw [e3] at a2
        omega
      subst hij
      simp [e]
    · simp [e2]
end
theorem join_done {ks : List Key} {g id : Int} (h : OkK ks) (hl : ks.length ≤ 100) (hm : ∀ k ∈ ks, k.2.length ≤ 100) (hj : (joinK ks g id).1 = 0) :
    0 ≤ g ∧ g < 16 ∧ OkK (joinK ks g id).2 ∧ quitK (joinK ks g id).2 g id = (0, ks) ∧ (∀ x, x ≠ id → ofK (joinK ks g id).2 x = ofK ks x) ∧ ofK (joinK ks g id).2 id = ofK ks id ||| 2 ^ g.toNat := by
  unfold joinK at hj ⊢
  by_cases hbad : g < 0 ∨ 16 ≤ g ∨ id < 1 ∨ 1073741824 ≤ id
  · rw [if_pos hbad] at hj; cases hj
  rw [if_neg hbad] at hj ⊢
  cases hhas : Ids.has (knos ks) g with
  | false => rw [hhas] at hj; cases hj
  | true =>
    rw [hhas, if_pos rfl] at hj
    rw [if_pos rfl]
    cases hmem : Ids.has (memAt ks g) id with
    | true => rw [hmem] at hj; cases hj
    | false =>
      rw [if_neg (by simp)]
      obtain ⟨hu, hno, hri⟩ := (chkK_iff _).1 h.chk
      have hp := Ids.has_lt (knos ks) g hu hhas
      have hpk : Ids.place (knos ks) g < ks.length := by simpa [knos] using hp
      have hg : ks[Ids.place (knos ks) g].1 = g := by
        have := Ids.has_place (knos ks) g hu
        rw [hhas, dif_pos hp] at this
        have := of_decide_eq_true this.symm
        simpa [knos] using this
      have hmA : memAt ks g = ks[Ids.place (knos ks) g].2 := by
        unfold memAt
        rw [List.getD_eq_getElem?_getD, List.getElem?_eq_getElem hpk]
        rfl
      generalize Ids.place (knos ks) g = p at hp hpk hg hmA ⊢
      have hrm := hri _ (List.getElem_mem hpk)
      rw [hmA] at hmem ⊢
      have hkp : ks[p] = (g, ks[p].2) := Prod.ext hg rfl
      have hml := hm _ (List.getElem_mem hpk)
      generalize ks[p].2 = m at hrm hmem hkp hml hmA ⊢
      have hsplit : ks = ks.take p ++ (g, m) :: ks.drop (p + 1) := by
        rw [← hkp, ← List.drop_eq_getElem_cons hpk, List.take_append_drop]
      have hset : ks.set p (g, Ids.put m id) = ks.take p ++ (g, Ids.put m id) :: ks.drop (p + 1) := by
        rw [List.set_eq_take_append_cons_drop, if_pos hpk]
      have hnid : id ∉ m := fun e => by rw [(Ids.has_iff _ _).2 e] at hmem; cases hmem
      have hkn : knos (ks.set p (g, Ids.put m id)) = knos ks := by
        unfold knos
        rw [List.map_set]
        apply List.ext_getElem (by simp)
        intro j h1 h2
        rw [List.getElem_set]
        split
        · rename_i e; subst e; simp [hg]
        · rfl
      have hpl : Ids.place (knos ks) g = p := by
        have := (key_at h.chk p hpk).1
        rw [hg] at this
        exact this
      have hin : id ∈ Ids.put m id := (Ids.mem_put m id id hrm.1 (by omega) (by omega)).2 (.inl rfl)
      refine ⟨by omega, by omega, ⟨?_, by simpa using Nat.le_trans hl (by omega), ?_⟩, ?_, ?_, ?_⟩
      · rw [chkK_iff, hkn]
        refine ⟨hu, fun k hk => ?_, fun k hk => ?_⟩
        · rcases List.mem_or_eq_of_mem_set hk with hk | rfl
          · exact hno k hk
          · exact ⟨by omega, by omega⟩
        · rcases List.mem_or_eq_of_mem_set hk with hk | rfl
          · exact hri k hk
          · exact Ids.rise_put m id hrm
      · intro k hk
        rcases List.mem_or_eq_of_mem_set hk with hk | rfl
        · exact Nat.le_trans (hm k hk) (by omega)
        · have := Ids.put_length m id
          show (Ids.put m id).length ≤ 2000
          omega
      · unfold quitK
        rw [if_neg hbad, hkn, hhas, if_pos rfl]
        have hmA2 : memAt (ks.set p (g, Ids.put m id)) g = Ids.put m id := by
          unfold memAt
          rw [hkn, hpl, List.getD_eq_getElem?_getD, List.getElem?_set_self hpk]
          rfl
        rw [hmA2, (Ids.has_iff _ _).2 hin, if_pos rfl, hpl, Ids.drop_put m id hrm hnid, List.set_set]
        congr 1
        rw [← hkp]
        exact List.set_getElem_self hpk
      · intro x hx
        have e : Ids.has (Ids.put m id) x = Ids.has m x := by
          rw [Bool.eq_iff_iff, Ids.has_iff, Ids.has_iff, Ids.mem_put m id x hrm.1 (by omega) (by omega)]
          constructor
          · rintro (h | h)
            · exact absurd h hx
            · exact h
          · exact .inr
        rw [hset]
        conv => rhs; rw [hsplit]
        unfold ofK
        rw [ofFrom_append, ofFrom_append, ofFrom_cons, ofFrom_cons, e]
      · rw [hset]
        conv => rhs; rw [hsplit]
        unfold ofK
        rw [ofFrom_append, ofFrom_append, ofFrom_cons, ofFrom_cons, (Ids.has_iff _ _).2 hin, hmem, cond_true, cond_false, ofFrom_or]
theorem join_bad {ks : List Key} {g id : Int} (h : (joinK ks g id).1 ≠ 0) : (joinK ks g id).2 = [] := by
  unfold joinK at h ⊢
  split
  · rfl
  · rename_i h1
    rw [if_neg h1] at h
    split
    · rename_i h2
      rw [if_pos h2] at h
      split
      · rfl
      · rename_i h3
        rw [if_neg h3] at h
        exact absurd rfl h
    · rfl
end Go.Ofp
end
