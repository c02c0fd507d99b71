import Derived.Test.YtneolmnpebiifaaGreatDoorM7
set_option linter.unusedVariables false
set_option linter.unusedSimpArgs false
set_option maxRecDepth 100000
section
namespace Go.Ofp
def chkKF : Int → List Key → Bool
 | _, [] => true
 | last, k :: ks => decide (last < k.1) && (decide (k.1 < 16) && (Ids.chk k.2 && chkKF k.1 ks))
theorem chkKF_cons (last no : Int) (mem : List Int) (ks : List Key) : chkKF last ((no, mem) :: ks) = (decide (last < no) && (decide (no < 16) && (Ids.chk mem && chkKF no ks))) := rfl
def chkK (ks : List Key) : Bool := chkKF (-1) ks
def ofFrom (id : Int) : Nat → List Key → Nat
 | s, [] => s
 | s, k :: ks => ofFrom id (cond (Ids.has k.2 id) (s ||| 2 ^ k.1.toNat) s) ks
theorem ofFrom_cons (id : Int) (s : Nat) (no : Int) (mem : List Int) (ks : List Key) : ofFrom id s ((no, mem) :: ks) = ofFrom id (cond (Ids.has mem id) (s ||| 2 ^ no.toNat) s) ks := rfl
def ofK (ks : List Key) (id : Int) : Nat := ofFrom id 0 ks
def membersK (ks : List Key) (g : Int) : List Int := if Ids.has (knos ks) g then memAt ks g else []
theorem chkKF_iff (ks : List Key) : ∀ last : Int, chkKF last ks = true ↔ Ids.Up (knos ks) ∧ (∀ k ∈ ks, last < k.1 ∧ k.1 < 16) ∧ ∀ k ∈ ks, Ids.Rise k.2 := by
 induction ks with
 | nil => intro last; simp [chkKF, knos, Ids.Up]
 | cons x l ih =>
  intro last
  simp only [chkKF, Bool.and_eq_true, decide_eq_true_eq, ih x.1, Ids.Up, knos, List.map_cons, List.pairwise_cons, List.mem_cons, forall_eq_or_imp, List.mem_map, forall_exists_index, and_imp, forall_apply_eq_imp_iff₂, Ids.chk_iff]
  constructor
  · rintro ⟨h1, h2, h3, h4, h5, h6⟩
    exact ⟨⟨fun y hy => (h5 y hy).1, h4⟩, ⟨⟨h1, h2⟩, fun y hy => ⟨by have := (h5 y hy).1; omega, (h5 y hy).2⟩⟩, h3, h6⟩
  · rintro ⟨⟨h1, h2⟩, ⟨⟨h3, h4⟩, h5⟩, h6, h7⟩
    exact ⟨h3, h4, h6, h2, fun y hy => ⟨h1 y hy, (h5 y hy).2⟩, h7⟩
theorem chkK_iff (ks : List Key) : chkK ks = true ↔ Ids.Up (knos ks) ∧ (∀ k ∈ ks, 0 ≤ k.1 ∧ k.1 < 16) ∧ ∀ k ∈ ks, Ids.Rise k.2 := by
 unfold chkK
 rw [chkKF_iff]
 constructor
 · rintro ⟨h1, h2, h3⟩; exact ⟨h1, fun k hk => ⟨by have := h2 k hk; omega, (h2 k hk).2⟩, h3⟩
 · rintro ⟨h1, h2, h3⟩; exact ⟨h1, fun k hk => ⟨by have := h2 k hk; omega, (h2 k hk).2⟩, h3⟩
end Go.Ofp
namespace Go.Proofs.YtneolmnpebiifaaGreatDoor
open Go.RowKit Go.Ofp
set_option maxHeartbeats 4000000
theorem gkeys_drop_cons {gs : List Gr} {j : Nat} (h : j < gs.length) : (keys gs).drop j = gs[j].key :: (keys gs).drop (j + 1) := by
 unfold keys
 rw [List.drop_eq_getElem_cons (by simpa using h)]
 simp
theorem gcheck_any (a : Option Addr) (gs : List Gr) (n cap : Nat) (w : World) (hD : Deep w a n cap gs) (hm : n ≤ 100000) (hmm : ∀ g ∈ gs, g.mem.length ≤ 10000) :
 Calls Tryz.prog 56 #[.slice a n cap] w fun e w' => e = .returned (.bool (chkK (keys gs))) ∧ Below w.heap.size w w' := by
 have hS := St.start w
 have ez := elem_g
 have hlen := Lib.hid hD.len
 have hget := Lib.hid hD.get
 have hM := Lib.hid (fun j (hj : j < gs.length) => hD.mem gs[j] (List.getElem_mem hj))
 have hml := Lib.hid (fun j (hj : j < gs.length) => hmm gs[j] (List.getElem_mem hj))
 clear hD hmm
 go_enter Tryz.func56, Tryz.ntmps56
 go_wp2_with fail
 go_loopg [3, 8] n (fun gk vl vx wr => ∃ (j : Nat) (y : Int), j + gk = n ∧ vx = .int .i64 j ∧ vl = .int .i64 y ∧ Hid (chkK (keys gs) = chkKF y ((keys gs).drop j)) ∧ St w [] [] wr)
 case atStart => exact ⟨0, -1, Nat.zero_add _, rfl, rfl, Lib.hid rfl, hS⟩
 case round =>
  clear hS
  obtain ⟨j, y, hj, rfl, rfl, hr, hS⟩ := hrel
  by_cases hlt : j < n
  · have hjg : j < gs.length := by rw [hlen.out]; exact hlt
    obtain ⟨b, off, rfl, c0, c1⟩ := hget.out j hjg
    have hMj := hM.out j hjg
    have hmlj := hml.out j hjg
    have hr2 := hr.out
    rw [gkeys_drop_cons hjg, Gr.key, chkKF_cons] at hr2
    generalize gs[j] = x at c0 c1 hMj hr2 hmlj
    have cC := fun W h => check_any x.a x.mem x.mem.length x.c W h rfl (by unfold maxLen; omega)
    replace c0 := hS.old c0 (by simp)
    replace c1 := hS.old c1 (by simp)
    have hslx := Lib.hid (fun W (h : St w [] [] W) => h.sl hMj.sl)
    obtain ⟨xn, xa, xc, xm⟩ := x
    simp only at *
    generalize hml3 : xm.length = m3 at *
    clear hml3 hMj
    replace cC := Lib.hid cC
    by_cases h1 : xn ≤ y
    · rw [decide_eq_false (by omega), Bool.false_and] at hr2
      replace hr2 := Lib.hid hr2
      go_wp2_with (first | ((with_reducible refine wpList_storerow_st 0 hS rfl rfl rfl rfl (by kernel_rfl) rfl rfl rfl rfl ?_); clear hS; intro w1 hS; try simp only [List.set_cons_zero, List.set_cons_succ, List.setIfInBounds_toArray, List.take_succ_cons, List.take_zero, List.drop_succ_cons, List.drop_zero, List.nil_append, List.cons_append, List.append_nil, List.drop_nil, List.take_nil, List.length_cons, List.length_nil, Nat.zero_add, Nat.add_zero, Nat.reduceAdd] at hS; have hcl := hS.cell 0 rfl) | (with_reducible refine al hS rfl rfl ?_; clear hS; intro g1 w1 hS) | (with_reducible refine ld 0 hS rfl rfl rfl rfl rfl ?_))
      go_ret
      exact ⟨by rw [hr2.out]; rfl, hS.below⟩
    · have h1' : y < xn := by omega
      have d1 : decide (xn ≤ y) = false := decide_eq_false h1
      by_cases h2 : 16 ≤ xn
      · rw [decide_eq_true h1', decide_eq_false (p := xn < 16) (by omega)] at hr2
        replace hr2 := Lib.hid hr2
        clear h1
        go_wp2_with (first | ((with_reducible refine wpList_storerow_st 0 hS rfl rfl rfl rfl (by kernel_rfl) rfl rfl rfl rfl ?_); clear hS; intro w1 hS; try simp only [List.set_cons_zero, List.set_cons_succ, List.setIfInBounds_toArray, List.take_succ_cons, List.take_zero, List.drop_succ_cons, List.drop_zero, List.nil_append, List.cons_append, List.append_nil, List.drop_nil, List.take_nil, List.length_cons, List.length_nil, Nat.zero_add, Nat.add_zero, Nat.reduceAdd] at hS; have hcl := hS.cell 0 rfl) | (with_reducible refine al hS rfl rfl ?_; clear hS; intro g1 w1 hS) | (with_reducible refine ld 0 hS rfl rfl rfl rfl rfl ?_))
        go_ret
        exact ⟨by rw [hr2.out]; rfl, hS.below⟩
      · have h2' : xn < 16 := by omega
        have d2 : decide (16 ≤ xn) = false := decide_eq_false h2
        rw [decide_eq_true h1', decide_eq_true h2', Bool.true_and, Bool.true_and] at hr2
        clear h1 h2
        generalize Ids.chk xm = cx at cC hr2
        cases cx with
        | false =>
         replace hr2 := Lib.hid hr2
         go_wp2_with (first | ((with_reducible refine wpList_storerow_st 0 hS rfl rfl rfl rfl (by kernel_rfl) rfl rfl rfl rfl ?_); clear hS; intro w1 hS; try simp only [List.set_cons_zero, List.set_cons_succ, List.setIfInBounds_toArray, List.take_succ_cons, List.take_zero, List.drop_succ_cons, List.drop_zero, List.nil_append, List.cons_append, List.append_nil, List.drop_nil, List.take_nil, List.length_cons, List.length_nil, Nat.zero_add, Nat.add_zero, Nat.reduceAdd] at hS; have hcl := hS.cell 0 rfl) | (with_reducible refine al hS rfl rfl ?_; clear hS; intro g1 w1 hS) | (with_reducible refine ld 0 hS rfl rfl rfl rfl rfl ?_) | (go_at_call 99; (with_reducible refine (cC.out _ (hslx.out _ hS.empty)).mono ?_); rintro _ _ ⟨rfl, rfl⟩))
         go_ret
         exact ⟨by rw [hr2.out]; rfl, hS.below⟩
        | true =>
         replace hr2 := Lib.hid hr2
         go_wp2_with (first | ((with_reducible refine wpList_storerow_st 0 hS rfl rfl rfl rfl (by kernel_rfl) rfl rfl rfl rfl ?_); clear hS; intro w1 hS; try simp only [List.set_cons_zero, List.set_cons_succ, List.setIfInBounds_toArray, List.take_succ_cons, List.take_zero, List.drop_succ_cons, List.drop_zero, List.nil_append, List.cons_append, List.append_nil, List.drop_nil, List.take_nil, List.length_cons, List.length_nil, Nat.zero_add, Nat.add_zero, Nat.reduceAdd] at hS; have hcl := hS.cell 0 rfl) | (with_reducible refine al hS rfl rfl ?_; clear hS; intro g1 w1 hS) | (with_reducible refine ld 0 hS rfl rfl rfl rfl rfl ?_) | (go_at_call 99; (with_reducible refine (cC.out _ (hslx.out _ hS.empty)).mono ?_); rintro _ _ ⟨rfl, rfl⟩))
         go_roundg (n - (j + 1))
         case measure => omega
         case rel => exact ⟨j + 1, xn, by omega, by go_num, rfl, Lib.hid (by rw [hr2.out, Bool.true_and]), hS.drop⟩
  · obtain rfl : j = n := by omega
    have hr2 := hr.out
    rw [List.drop_of_length_le (by simp [keys, hlen.out])] at hr2
    replace hr2 := Lib.hid hr2
    go_wp2_with fail
    go_ret
    exact ⟨by rw [hr2.out]; rfl, hS.below⟩
theorem gof_any (a : Option Addr) (gs : List Gr) (n cap : Nat) (id : Int) (w : World) (hD : Deep w a n cap gs) (hm : n ≤ 100000) (hmm : ∀ g ∈ gs, g.mem.length ≤ 10000) (hv : ∀ g ∈ gs, 0 ≤ g.no ∧ g.no < 16) (hum : ∀ g ∈ gs, Ids.Up g.mem) :
 Calls Tryz.prog 51 #[.slice a n cap, .int .i64 id] w fun e w' => e = .returned (.int .u32 (ofK (keys gs) id : Nat)) ∧ Below w.heap.size w w' := by
 have hS := St.start w
 have ez := elem_g
 have hlen := Lib.hid hD.len
 have hget := Lib.hid hD.get
 have hM := Lib.hid (fun j (hj : j < gs.length) => hD.mem gs[j] (List.getElem_mem hj))
 have hml := Lib.hid (fun j (hj : j < gs.length) => hmm gs[j] (List.getElem_mem hj))
 have hvv := Lib.hid (fun j (hj : j < gs.length) => hv gs[j] (List.getElem_mem hj))
 have huu := Lib.hid (fun j (hj : j < gs.length) => hum gs[j] (List.getElem_mem hj))
 clear hD hmm hv hum
 go_enter Tryz.func51, Tryz.ntmps51
 go_wp2_with fail
 go_loopg [5, 10] n (fun gk vl vx wr => ∃ j s : Nat, j + gk = n ∧ vx = .int .i64 j ∧ vl = .int .u32 s ∧ s < 4294967296 ∧ Hid (ofK (keys gs) id = ofFrom id s ((keys gs).drop j)) ∧ St w [] [] wr)
 case atStart => exact ⟨0, 0, Nat.zero_add _, rfl, rfl, by omega, Lib.hid rfl, hS⟩
 case round =>
  clear hS
  obtain ⟨j, s, hj, rfl, rfl, hs32, hr, hS⟩ := hrel
  by_cases hlt : j < n
  · have hjg : j < gs.length := by rw [hlen.out]; exact hlt
    obtain ⟨b, off, rfl, c0, c1⟩ := hget.out j hjg
    have hMj := hM.out j hjg
    have hmlj := hml.out j hjg
    have hvj := hvv.out j hjg
    have huj := huu.out j hjg
    have hr2 := hr.out
    rw [gkeys_drop_cons hjg, Gr.key, ofFrom_cons] at hr2
    generalize gs[j] = x at c0 c1 hMj hr2 hmlj hvj huj
    have cH := fun W h => has_any x.a x.mem x.mem.length x.c id W h rfl (by omega) huj
    replace c0 := hS.old c0 (by simp)
    replace c1 := hS.old c1 (by simp)
    have hslx := Lib.hid (fun W (h : St w [] [] W) => h.sl hMj.sl)
    obtain ⟨xn, xa, xc, xm⟩ := x
    simp only at *
    obtain ⟨q, rfl⟩ := Int.eq_ofNat_of_zero_le hvj.1
    have hq : q < 32 := by omega
    rw [Int.toNat_natCast] at hr2
    have cW := Lib.hid (fun W : World => with_any s q W hq hs32)
    have hor := or_lt s q hs32 hq
    generalize hml3 : xm.length = m3 at *
    clear hml3 hMj hvj huj
    generalize Ids.has xm id = cx at cH hr2
    generalize s ||| 2 ^ q = s2 at *
    replace cH := Lib.hid cH
    cases cx with
    | false =>
     replace hr2 := Lib.hid hr2
     go_wp2_with (first | ((with_reducible refine wpList_storerow_st 0 hS rfl rfl rfl rfl (by kernel_rfl) rfl rfl rfl rfl ?_); clear hS; intro w1 hS; try simp only [List.set_cons_zero, List.set_cons_succ, List.setIfInBounds_toArray, List.take_succ_cons, List.take_zero, List.drop_succ_cons, List.drop_zero, List.nil_append, List.cons_append, List.append_nil, List.drop_nil, List.take_nil, List.length_cons, List.length_nil, Nat.zero_add, Nat.add_zero, Nat.reduceAdd] at hS; have hcl := hS.cell 0 rfl) | (with_reducible refine al hS rfl rfl ?_; clear hS; intro g1 w1 hS) | (with_reducible refine ld 0 hS rfl rfl rfl rfl rfl ?_) | (go_at_call 92; (with_reducible refine (cH.out _ (hslx.out _ hS.empty)).mono ?_); rintro _ _ ⟨rfl, rfl⟩))
     go_roundg (n - (j + 1))
     case measure => omega
     case rel => exact ⟨j + 1, s, by omega, by go_num, rfl, hs32, Lib.hid (by rw [hr2.out]; rfl), hS.drop⟩
    | true =>
     replace hr2 := Lib.hid hr2
     go_wp2_with (first | ((with_reducible refine wpList_storerow_st 0 hS rfl rfl rfl rfl (by kernel_rfl) rfl rfl rfl rfl ?_); clear hS; intro w1 hS; try simp only [List.set_cons_zero, List.set_cons_succ, List.setIfInBounds_toArray, List.take_succ_cons, List.take_zero, List.drop_succ_cons, List.drop_zero, List.nil_append, List.cons_append, List.append_nil, List.drop_nil, List.take_nil, List.length_cons, List.length_nil, Nat.zero_add, Nat.add_zero, Nat.reduceAdd] at hS; have hcl := hS.cell 0 rfl) | (with_reducible refine al hS rfl rfl ?_; clear hS; intro g1 w1 hS) | (with_reducible refine ld 0 hS rfl rfl rfl rfl rfl ?_) | (go_at_call 92; (with_reducible refine (cH.out _ (hslx.out _ hS.empty)).mono ?_); rintro _ _ ⟨rfl, rfl⟩) | (go_at_call 93; (with_reducible refine (cW.out _).mono ?_); rintro _ _ ⟨rfl, rfl⟩))
     go_roundg (n - (j + 1))
     case measure => omega
     case rel => exact ⟨j + 1, s2, by omega, by go_num, rfl, hor, Lib.hid (by rw [hr2.out]; rfl), hS.drop⟩
  · obtain rfl : j = n := by omega
    have hr2 := hr.out
    rw [List.drop_of_length_le (by simp [keys, hlen.out])] at hr2
    replace hr2 := Lib.hid hr2
    go_wp2_with fail
    go_ret
    exact ⟨by rw [hr2.out]; rfl, hS.below⟩
theorem equal_any (a b : Option Addr) (l m : List Int) (n k cap cap2 : Nat) (w : World) (hs : Sl w a (l.map vi)) (ht : Sl w b (m.map vi)) (hn : l.length = n) (hk : m.length = k) (hm : n ≤ maxLen) (hm2 : k ≤ maxLen) :
 Calls Tryz.prog 107 #[.slice a n cap, .slice b k cap2] w fun e w' => e = .returned (.bool (decide (l = m))) ∧ Below w.heap.size w w' := by
 unfold maxLen at hm hm2
 have hS := St.start w
 by_cases hlen : n = k
 · subst hlen
   replace hn := Lib.hid hn
   replace hk := Lib.hid hk
   replace hs := Lib.hid hs
   replace ht := Lib.hid ht
   go_enter Tryz.func107, Tryz.ntmps107
   go_wp2
   go_loopg [13] n (fun gk vi wr => ∃ j : Nat, j + gk = n ∧ vi = .int .i64 j ∧ Hid (l.take j = m.take j) ∧ St w [] [] wr)
   case atStart => exact ⟨0, Nat.zero_add _, rfl, Lib.hid (by simp), hS⟩
   case round =>
    clear hS
    obtain ⟨j, hj, rfl, hr, hS⟩ := hrel
    by_cases hlt : j < n
    · obtain ⟨b1, o1, rfl, c1⟩ := sl_int hs.out j (by rw [hn.out]; exact hlt)
      obtain ⟨b2, o2, rfl, c2⟩ := sl_int ht.out j (by rw [hk.out]; exact hlt)
      have t1 := Lib.hid (take_snoc_i l j (by rw [hn.out]; exact hlt))
      have t2 := Lib.hid (take_snoc_i m j (by rw [hk.out]; exact hlt))
      have t3 := Lib.hid (show l = m → l[j]'(by rw [hn.out]; exact hlt) = m[j]'(by rw [hk.out]; exact hlt) by intro e; subst e; rfl)
      generalize l[j]'(by rw [hn.out]; exact hlt) = x at c1 t1 t3
      generalize m[j]'(by rw [hk.out]; exact hlt) = y at c2 t2 t3
      have k1 := hS.kold0 c1
      have k2 := hS.kold0 c2
      clear c1 c2
      by_cases hx : x = y
      · subst hx
        go_wp2_with fail
        refine mixs_begin (by kernel_rfl) hS ?_
        clear hS
        intro w2 hS
        refine tk 0 ?_
        refine tk 1 ?_
        refine tk 2 ?_
        refine tk 3 ?_
        refine tk 4 ?_
        refine tk 5 ?_
        refine tk 6 ?_
        refine tk 7 ?_
        refine tk 8 ?_
        refine wpAnyH_done (by kernel_rfl) ?_ _
        clear k1 k2
        go_wp2_with fail
        go_roundg (n - (j + 1))
        case measure => omega
        case rel => exact ⟨j + 1, by omega, by go_num, Lib.hid (by rw [t1.out, t2.out, hr.out]), hS⟩
      · have hxb : (x != y) = true := by simpa using hx
        replace hx := Lib.hid hx
        go_wp2_with fail
        refine mixs_begin (by kernel_rfl) hS ?_
        clear hS
        intro w2 hS
        refine tk 0 ?_
        refine tk 1 ?_
        refine tk 2 ?_
        refine tk 3 ?_
        refine tk 4 ?_
        refine tk 5 ?_
        refine tk 6 ?_
        refine tk 7 ?_
        refine tk 8 ?_
        refine wpAnyH_done (by kernel_rfl) ?_ _
        clear k1 k2
        go_wp2_with fail
        go_ret
        have : decide (l = m) = false := by rw [decide_eq_false_iff_not]; intro e; exact hx.out (t3.out e)
        exact ⟨by rw [this]; rfl, hS.below⟩
    · obtain rfl : j = n := by omega
      go_wp2_with fail
      go_ret
      have e1 := hr.out
      rw [List.take_of_length_le (by rw [hn.out]; exact Nat.le_refl _), List.take_of_length_le (by rw [hk.out]; exact Nat.le_refl _)] at e1
      exact ⟨by rw [decide_eq_true e1]; rfl, hS.below⟩
 · have e : decide (l = m) = false := by rw [decide_eq_false_iff_not]; intro e; subst e; omega
   have hb : ((n : Int) != (k : Int)) = true := by simp; omega
   rw [e]
   clear hlen hn hk e
   go_enter Tryz.func107, Tryz.ntmps107
   go_wp2_with fail
   go_ret
   exact ⟨rfl, hS.below⟩
end Go.Proofs.YtneolmnpebiifaaGreatDoor
end
section
namespace Go.Ofp
def leaveK (ks : List Key) (id : Int) : List Key := ks.map fun k => (k.1, Ids.drop k.2 id)
end Go.Ofp
namespace Go.Proofs.YtneolmnpebiifaaGreatDoor
open Go.RowKit Go.Ofp
set_option maxHeartbeats 4000000
theorem members_any (a : Option Addr) (gs : List Gr) (n cap : Nat) (g : Int) (w : World) (hD : Deep w a n cap gs) (hm : n ≤ 1000) (hmm : ∀ g ∈ gs, g.mem.length ≤ 10000) (hu : Ids.Up (nos gs)) :
 Calls Tryz.prog 77 #[.slice a n cap, .int .i64 g] w (IntsRet (membersK (keys gs) g) w) := by
 have hS := St.start w
 have cF := fun W (h : Deep W a n cap gs) => find_any a gs n cap g W h (by omega) hu
 have hnl : (nos gs).length = n := by rw [nos, List.length_map, hD.len]
 have hlen := hD.len
 have hlt := Ids.has_lt (nos gs) g hu
 rw [hnl] at hlt
 unfold membersK memAt
 rw [← nos_keys]
 generalize Ids.has (nos gs) g = hb at cF hlt ⊢
 generalize Ids.place (nos gs) g = p at cF hlt ⊢
 replace hD := Lib.hid hD
 replace cF := Lib.hid cF
 clear hu
 cases hb with
 | false =>
  clear hlen hlt hnl
  go_enter Tryz.func77, Tryz.ntmps77
  go_wp2_with (go_at_call 118; (with_reducible refine (cF.out _ hD.out).mono ?_); rintro _ w3 ⟨rfl, hb3⟩; have hS1 := hS.keepB hb3; clear hb3 hS; have hS := hS1; clear hS1)
  go_ret
  exact intsRet_mk (hS.nilrow 3 1) rfl rfl
 | true =>
  have hpn := hlt rfl
  have hpg : p < gs.length := by omega
  obtain ⟨b, off, rfl, c0, c1⟩ := hD.out.get p hpg
  have hgM := hD.out.mem gs[p] (List.getElem_mem hpg)
  have hgl := hmm gs[p] (List.getElem_mem hpg)
  have hmem : ((keys gs).getD p (0, [])).2 = gs[p].mem := by
   unfold keys
   simp [List.getD_eq_getElem?_getD, hpg, Gr.key]
  rw [if_pos rfl, hmem]
  generalize gs[p] = gp0 at c0 c1 hgM hgl
  have cC := Lib.hid (fun W h => clone_any gp0.a gp0.mem gp0.mem.length gp0.c W h rfl (by omega) hgM.nz)
  have hsl := Lib.hid (fun W (h : St w [] [] W) => h.sl hgM.sl)
  replace c1 := Lib.hid c1
  have hcc := Lib.hid (fun W (h : St w [] [] W) => h.old c1.out (by simp))
  clear c0 hlt hnl hmem hgM hlen
  go_enter Tryz.func77, Tryz.ntmps77
  go_wp2_with (first | (go_at_call 118; (with_reducible refine (cF.out _ hD.out).mono ?_); rintro _ w3 ⟨rfl, hb3⟩; have hS1 := hS.keepB hb3; clear hb3 hS; have hS := hS1; clear hS1; have hcell := hcc.out _ hS) | (go_at_call 37; (with_reducible refine (cC.out _ (hsl.out _ hS)).mono ?_); rintro _ w4 ⟨a5, c5, rfl, h51, h52, hb4⟩; clear hcell; have hS1 := hS.made hb4; clear hS hb4; have hS := hS1; clear hS1))
  go_ret
  exact ⟨_, _, rfl, h51, h52, hS⟩
theorem gsm1_any (x y : Gr) (w : World) (hx : Mem w x) (hy : Mem w y) :
 Calls Tryz.prog 106 #[.agg #[.int .i64 x.no, .slice x.a x.mem.length x.c], .agg #[.int .i64 y.no, .slice y.a y.mem.length y.c]] w fun e w' => e = .returned (.bool (decide (x.key = y.key))) ∧ Below w.heap.size w w' := by
 have hS := St.start w
 have hxm := hx.le; have hxc := hx.cm; have hym := hy.le; have hyc := hy.cm
 have cE := fun W h1 h2 => equal_any x.a y.a x.mem y.mem _ _ x.c y.c W h1 h2 rfl rfl (by omega) (by omega)
 have hsx := Lib.hid (fun W (h : St w [] [] W) => h.sl hx.sl)
 have hsy := Lib.hid (fun W (h : St w [] [] W) => h.sl hy.sl)
 clear hx hy hxm hxc hym hyc
 have e : decide (x.key = y.key) = (decide (x.no = y.no) && decide (x.mem = y.mem)) := by
  rw [Bool.eq_iff_iff]
  simp [Gr.key]
 rw [e]
 clear e
 obtain ⟨xn, xa, xc, xm⟩ := x
 obtain ⟨yn, ya, yc, ym⟩ := y
 simp only at *
 by_cases h1 : xn = yn
 · subst h1
   rw [decide_eq_true rfl, Bool.true_and]
   generalize decide (xm = ym) = q at cE ⊢
   generalize xm.length = l1 at cE ⊢
   generalize ym.length = l2 at cE ⊢
   replace cE := Lib.hid cE
   go_enter Tryz.func106, Tryz.ntmps106
   go_wp2_with (first | ((with_reducible refine wpList_box_st hS rfl rfl rfl ?_); clear hS; intro g1 w1 hS; (try clear hcl); have hcl := hS.cell 0 rfl; (try (have hcl2 := hS.cell 1 rfl))) | (go_at_call 107; (with_reducible refine (cE.out _ (hsx.out _ hS.empty) (hsy.out _ hS.empty)).mono ?_); rintro _ w3 ⟨rfl, hb3⟩; have hS1 := hS.keepB hb3; clear hb3 hS; have hS := hS1; clear hS1))
   go_ret
   exact ⟨rfl, hS.below⟩
 · rw [decide_eq_false h1, Bool.false_and]
   have hb : (xn == yn) = false := by rw [beq_eq_false_iff_ne]; exact h1
   generalize xm.length = l1 at cE ⊢
   generalize ym.length = l2 at cE ⊢
   clear cE
   replace h1 := Lib.hid h1
   go_enter Tryz.func106, Tryz.ntmps106
   go_wp2_with (((with_reducible refine wpList_box_st hS rfl rfl rfl ?_); clear hS; intro g1 w1 hS; (try clear hcl); have hcl := hS.cell 0 rfl; (try (have hcl2 := hS.cell 1 rfl))))
   go_ret
   exact ⟨rfl, hS.below⟩
theorem gsame_any (a b : Option Addr) (gs hs : List Gr) (n k cap cap2 : Nat) (w : World) (hD : Deep w a n cap gs) (hE : Deep w b k cap2 hs) :
 Calls Tryz.prog 105 #[.slice a n cap, .slice b k cap2, .func (.func 106) #[] #[]] w fun e w' => e = .returned (.bool (decide (keys gs = keys hs))) ∧ Below w.heap.size w w' := by
 have hS := St.start w
 have hm : n ≤ 9223372036854775807 := by have := hD.le; have := hD.cm; unfold maxLen at this; omega
 have hm2 : k ≤ 9223372036854775807 := by have := hE.le; have := hE.cm; unfold maxLen at this; omega
 by_cases hlen : n = k
 · subst hlen
   have ez := elem_g
   have hl1 := Lib.hid hD.len
   have hl2 := Lib.hid hE.len
   replace hD := Lib.hid hD
   replace hE := Lib.hid hE
   go_enter Tryz.func105, Tryz.ntmps105
   go_wp2_with fail
   go_loopg [17] n (fun gk vi wr => ∃ j : Nat, j + gk = n ∧ vi = .int .i64 j ∧ Hid ((keys gs).take j = (keys hs).take j) ∧ St w [] [] wr)
   case atStart => exact ⟨0, Nat.zero_add _, rfl, Lib.hid (by simp), hS⟩
   case round =>
    clear hS
    obtain ⟨j, hj, rfl, hr, hS⟩ := hrel
    by_cases hlt : j < n
    · have hj1 : j < gs.length := by rw [hl1.out]; exact hlt
      have hj2 : j < hs.length := by rw [hl2.out]; exact hlt
      obtain ⟨b1, o1, rfl, c0, c1⟩ := hD.out.get j hj1
      obtain ⟨b2, o2, rfl, d0, d1⟩ := hE.out.get j hj2
      have hMx := hD.out.mem gs[j] (List.getElem_mem hj1)
      have hMy := hE.out.mem hs[j] (List.getElem_mem hj2)
      have t1 : (keys gs).take (j + 1) = (keys gs).take j ++ [gs[j].key] := by rw [List.take_succ_eq_append_getElem (by simpa [keys] using hj1)]; simp [keys]
      have t2 : (keys hs).take (j + 1) = (keys hs).take j ++ [hs[j].key] := by rw [List.take_succ_eq_append_getElem (by simpa [keys] using hj2)]; simp [keys]
      have t3 : keys gs = keys hs → gs[j].key = hs[j].key := by
       intro e
       have := congrArg (fun l => l[j]?) e
       simpa [keys, hj1, hj2] using this
      generalize gs[j] = x at *
      generalize hs[j] = y at *
      have hMx2 := Lib.hid (fun W (h : St w [] [] W) => hMx.below h.below)
      have hMy2 := Lib.hid (fun W (h : St w [] [] W) => hMy.below h.below)
      replace c0 := hS.old c0 (by simp)
      replace c1 := hS.old c1 (by simp)
      replace d0 := Lib.hid d0
      replace d1 := Lib.hid d1
      have cS := fun W h1 h2 => gsm1_any x y W h1 h2
      clear hMx hMy
      replace t1 := Lib.hid t1
      replace t2 := Lib.hid t2
      replace t3 := Lib.hid t3
      by_cases hx : x.key = y.key
      · rw [decide_eq_true hx] at cS
        replace cS := Lib.hid cS
        replace hx := Lib.hid hx
        go_wp2_with (first | ((with_reducible refine wpList_storerow_st 0 hS rfl rfl rfl rfl (by kernel_rfl) rfl rfl rfl rfl ?_); clear hS; intro w1 hS; try simp only [List.set_cons_zero, List.set_cons_succ, List.setIfInBounds_toArray, List.take_succ_cons, List.take_zero, List.drop_succ_cons, List.drop_zero, List.nil_append, List.cons_append, List.append_nil, List.drop_nil, List.take_nil, List.length_cons, List.length_nil, Nat.zero_add, Nat.add_zero, Nat.reduceAdd] at hS; (try clear c0 c1); have c0 := hS.old d0.out (by simp); have c1 := hS.old d1.out (by simp)) | (with_reducible refine al hS rfl rfl ?_; clear hS; intro g1 w1 hS) | (with_reducible refine lda 0 hS rfl rfl rfl rfl ?_) | (with_reducible refine lda 1 hS rfl rfl rfl rfl ?_) | (go_at_call 106; (with_reducible refine (cS.out _ (hMx2.out _ hS.empty) (hMy2.out _ hS.empty)).mono ?_); rintro _ w3 ⟨rfl, hb3⟩; have hS1 := hS.keepB hb3; clear hb3 hS; have hS := hS1; clear hS1))
        go_roundg (n - (j + 1))
        case measure => omega
        case rel => exact ⟨j + 1, by omega, by go_num, Lib.hid (by rw [t1.out, t2.out, hr.out, hx.out]), hS.empty⟩
      · rw [decide_eq_false hx] at cS
        replace cS := Lib.hid cS
        replace hx := Lib.hid hx
        go_wp2_with (first | ((with_reducible refine wpList_storerow_st 0 hS rfl rfl rfl rfl (by kernel_rfl) rfl rfl rfl rfl ?_); clear hS; intro w1 hS; try simp only [List.set_cons_zero, List.set_cons_succ, List.setIfInBounds_toArray, List.take_succ_cons, List.take_zero, List.drop_succ_cons, List.drop_zero, List.nil_append, List.cons_append, List.append_nil, List.drop_nil, List.take_nil, List.length_cons, List.length_nil, Nat.zero_add, Nat.add_zero, Nat.reduceAdd] at hS; (try clear c0 c1); have c0 := hS.old d0.out (by simp); have c1 := hS.old d1.out (by simp)) | (with_reducible refine al hS rfl rfl ?_; clear hS; intro g1 w1 hS) | (with_reducible refine lda 0 hS rfl rfl rfl rfl ?_) | (with_reducible refine lda 1 hS rfl rfl rfl rfl ?_) | (go_at_call 106; (with_reducible refine (cS.out _ (hMx2.out _ hS.empty) (hMy2.out _ hS.empty)).mono ?_); rintro _ w3 ⟨rfl, hb3⟩; have hS1 := hS.keepB hb3; clear hb3 hS; have hS := hS1; clear hS1))
        go_ret
        have : decide (keys gs = keys hs) = false := by rw [decide_eq_false_iff_not]; intro e; exact hx.out (t3.out e)
        exact ⟨by rw [this]; rfl, hS.below⟩
    · obtain rfl : j = n := by omega
      go_wp2_with fail
      go_ret
      have e1 := hr.out
      rw [List.take_of_length_le (by simp [keys, hl1.out]), List.take_of_length_le (by simp [keys, hl2.out])] at e1
      exact ⟨by rw [decide_eq_true e1]; rfl, hS.below⟩
 · have e : decide (keys gs = keys hs) = false := by
    rw [decide_eq_false_iff_not]; intro e
    have := congrArg List.length e
    simp only [keys, List.length_map] at this
    rw [hD.len, hE.len] at this
    exact hlen this
   have hb : ((n : Int) != (k : Int)) = true := by simp; omega
   rw [e]
   clear hlen hD hE e
   go_enter Tryz.func105, Tryz.ntmps105
   go_wp2_with fail
   go_ret
   exact ⟨rfl, hS.below⟩
theorem same_any (a b : Option Addr) (gs hs : List Gr) (n k cap cap2 : Nat) (w : World) (hD : Deep w a n cap gs) (hE : Deep w b k cap2 hs) :
 Calls Tryz.prog 64 #[.slice a n cap, .slice b k cap2] w fun e w' => e = .returned (.bool (decide (keys gs = keys hs))) ∧ Below w.heap.size w w' := by
 have cS := Lib.hid (gsame_any a b gs hs n k cap cap2 w hD hE)
 clear hD hE
 go_enter Tryz.func64, Tryz.ntmps64
 go_wp2_with (go_at_call 105; (with_reducible refine cS.out.mono ?_); rintro _ w3 ⟨rfl, hb3⟩)
 go_ret
 exact ⟨rfl, hb3⟩
end Go.Proofs.YtneolmnpebiifaaGreatDoor
end
section
namespace Go.Ofp
open Go.RowKit
theorem Sl.old {w0 w : World} {F : List Nat} {L : List Ch} {a : Option Addr} {xs : List Value} (hs : Sl w0 a xs) (h : St w0 F L w) (hap : 0 < xs.length → ∀ b o, a = some ⟨b, o, none⟩ → b ∉ F) : Sl w a xs := by
 intro i hi
 obtain ⟨b, off, e, hc⟩ := hs i hi
 exact ⟨b, off, e, h.old hc (hap (by omega) b off e)⟩
theorem feet_append (A B : List Ch) : feet (A ++ B) = feet A ++ feet B := by simp [feet]
theorem feet_off {A B : List Ch} {b : Nat} (h : b ∉ feet (A ++ B)) : b ∉ feet A ∧ b ∉ feet B := by
 rw [feet_append] at h
 exact ⟨fun k => h (List.mem_append_left _ k), fun k => h (List.mem_append_right _ k)⟩
namespace St
variable {w0 w w' : World} {F : List Nat} {A B B' R L : List Ch} {c : Ch}
theorem rot (h : St w0 F (A ++ B) w) : St w0 F (B ++ A) w := by
 refine h.pick (fun i => if i < B.length then A.length + i else i - B.length) ?_ ?_
 · intro i d hd
   by_cases hi : i < B.length
   · rw [List.getElem?_append_left hi] at hd
     simp only [hi, if_true]
     rw [List.getElem?_append_right (by omega), Nat.add_sub_cancel_left]
     exact hd
   · rw [List.getElem?_append_right (by omega)] at hd
     simp only [hi, if_false]
     rw [List.getElem?_append_left (List.getElem?_eq_some_iff.1 hd).1]
     exact hd
 · intro i j hi hj hij
   simp only [List.length_append] at hi hj
   split <;> split <;> omega
theorem preM (h : St w0 F (A ++ (B ++ R)) w) : St w (feet B) B w := by
 have := h.rot
 rw [List.append_assoc] at this
 exact this.pre B (R ++ A) rfl
theorem callM (h : St w0 F (A ++ (B ++ R)) w) (k : St w (feet B) B' w') : St w0 F (A ++ (B' ++ R)) w' := by
 have h1 := h.rot
 rw [List.append_assoc] at h1
 have h2 := h1.call B (R ++ A) rfl k
 rw [← List.append_assoc] at h2
 exact h2.rot
theorem dropM (h : St w0 F (A ++ (B ++ R)) w) : St w0 F (A ++ R) w := by
 refine h.pick (fun i => if i < A.length then i else B.length + i) ?_ ?_
 · intro i d hd
   by_cases hi : i < A.length
   · rw [List.getElem?_append_left hi] at hd
     simp only [hi, if_true]
     rw [List.getElem?_append_left hi]
     exact hd
   · rw [List.getElem?_append_right (by omega)] at hd
     simp only [hi, if_false]
     rw [List.getElem?_append_right (by omega), List.getElem?_append_right (by omega), show B.length + i - A.length - B.length = i - A.length by omega]
     exact hd
 · intro i j hi hj hij
   split <;> split <;> omega
theorem back (h : St w0 F (A ++ R) w) : St w0 F R w := by
 have := dropM (A := []) (B := A) (R := R) h
 exact this
theorem fore (h : St w0 F (A ++ R) w) : St w0 F A w := by
 have := dropM (A := A) (B := R) (R := []) (by simpa using h)
 simpa using this
end St
end Go.Ofp
end
