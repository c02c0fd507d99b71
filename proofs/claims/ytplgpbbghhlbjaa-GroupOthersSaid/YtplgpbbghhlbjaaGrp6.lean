/- Groups: members, groups without a card, and which are alike. -/
import Derived.Test.YtplgpbbghhlbjaaGrp5
set_option linter.unusedSimpArgs false
set_option linter.unusedVariables false
namespace Go.Ofp
def leaveK (ks : List Key) (id : Int) : List Key := ks.map fun k => (k.1, Ids.drop k.2 id)
end Go.Ofp
namespace Go.Proofs.Ytplgpbbghhlbjaa
open Go.RowKit Go.Ofp
set_option linter.unusedVariables false
set_option maxRecDepth 100000
set_option maxHeartbeats 4000000

/-- Groups that a callee hands back. -/
def GsRet (ks : List Key) (w : World) (e : Ending) (w' : World) : Prop := ∃ a c gs', keys gs' = ks ∧ e = .returned (.slice a gs'.length c) ∧ Deep w' a gs'.length c gs' ∧ Below w.heap.size w w'

theorem members_any (a : Option Addr) (gs : List Gr) (n cap : Nat) (g : Int) (w : World) (hD : Deep w a n cap gs) (hm : n ≤ 1000) (hmm : ∀ g ∈ gs, g.mem.length ≤ 10000) (hu : Ids.Up (nos gs)) :
    Calls Try.prog 39 #[.slice a n cap, .int .i64 g] w (IntsRet (membersK (keys gs) g) w) := by
  have hS := St.start w
  have cF := fun W (h : Deep W a n cap gs) => find_any a gs n cap g W h (by omega) hu
  have hnl : (nos gs).length = n := by rw [nos, List.length_map, hD.len]
  have hlen := hD.len
  have hlt := Ids.has_lt (nos gs) g hu
  rw [hnl] at hlt
  unfold membersK memAt
  rw [← nos_keys]
  generalize Ids.has (nos gs) g = hb at cF hlt ⊢
  generalize Ids.place (nos gs) g = p at cF hlt ⊢
  replace hD := Lib.hid hD
  replace cF := Lib.hid cF
  clear hu
  cases hb with
  | false =>
    clear hlen hlt hnl
    go_enter Try.func39, Try.ntmps39
    go_wp2_with (go_at_call 69; (with_reducible refine (cF.out _ hD.out).mono ?_); rintro _ w3 ⟨rfl, hb3⟩; have hS1 := hS.keepB hb3; clear hb3 hS; have hS := hS1; clear hS1)
    go_ret
    exact intsRet_mk (hS.nilrow 3 1) rfl rfl
  | true =>
    have hpn := hlt rfl
    have hpg : p < gs.length := by omega
    obtain ⟨b, off, rfl, c0, c1⟩ := hD.out.get p hpg
    have hgM := hD.out.mem gs[p] (List.getElem_mem hpg)
    have hgl := hmm gs[p] (List.getElem_mem hpg)
    have hmem : ((keys gs).getD p (0, [])).2 = gs[p].mem := by
      unfold keys
      simp [List.getD_eq_getElem?_getD, hpg, Gr.key]
    rw [if_pos rfl, hmem]
    generalize gs[p] = gp0 at c0 c1 hgM hgl
    have cC := Lib.hid (fun W h => clone_any gp0.a gp0.mem gp0.mem.length gp0.c W h rfl (by omega) hgM.nz)
    have hsl := Lib.hid (fun W (h : St w [] [] W) => h.sl hgM.sl)
    replace c1 := Lib.hid c1
    have hcc := Lib.hid (fun W (h : St w [] [] W) => h.old c1.out (by simp))
    clear c0 hlt hnl hmem hgM hlen
    go_enter Try.func39, Try.ntmps39
    go_wp2_with (first
      | (go_at_call 69; (with_reducible refine (cF.out _ hD.out).mono ?_); rintro _ w3 ⟨rfl, hb3⟩; have hS1 := hS.keepB hb3; clear hb3 hS; have hS := hS1; clear hS1; have hcell := hcc.out _ hS)
      | (go_at_call 65; (with_reducible refine (cC.out _ (hsl.out _ hS)).mono ?_); rintro _ w4 ⟨a5, c5, rfl, h51, h52, hb4⟩; clear hcell; have hS1 := hS.made hb4; clear hS hb4; have hS := hS1; clear hS1))
    go_ret
    exact ⟨_, _, rfl, h51, h52, hS⟩

theorem same1_any (x y : Gr) (w : World) (hx : Mem w x) (hy : Mem w y) :
    Calls Try.prog 81 #[.agg #[.int .i64 x.no, .slice x.a x.mem.length x.c], .agg #[.int .i64 y.no, .slice y.a y.mem.length y.c]] w fun e w' => e = .returned (.bool (decide (x.key = y.key))) ∧ Below w.heap.size w w' := by
  have hS := St.start w
  have hxm := hx.le; have hxc := hx.cm; have hym := hy.le; have hyc := hy.cm
  have cE := fun W h1 h2 => equal_any x.a y.a x.mem y.mem _ _ x.c y.c W h1 h2 rfl rfl (by omega) (by omega)
  have hsx := Lib.hid (fun W (h : St w [] [] W) => h.sl hx.sl)
  have hsy := Lib.hid (fun W (h : St w [] [] W) => h.sl hy.sl)
  clear hx hy hxm hxc hym hyc
  have e : decide (x.key = y.key) = (decide (x.no = y.no) && decide (x.mem = y.mem)) := by
    rw [Bool.eq_iff_iff]
    simp [Gr.key]
  rw [e]
  clear e
  obtain ⟨xn, xa, xc, xm⟩ := x
  obtain ⟨yn, ya, yc, ym⟩ := y
  simp only at *
  by_cases h1 : xn = yn
  · subst h1
    rw [decide_eq_true rfl, Bool.true_and]
    generalize decide (xm = ym) = q at cE ⊢
    generalize xm.length = l1 at cE ⊢
    generalize ym.length = l2 at cE ⊢
    replace cE := Lib.hid cE
    go_enter Try.func81, Try.ntmps81
    go_wp2_with (first
      | ((with_reducible refine wpList_box_st hS rfl rfl rfl ?_); intro g1 w1 hS1; clear hS; have hS := hS1; clear hS1; (try clear hcl); have hcl := hS.cell 0 rfl; (try (have hcl2 := hS.cell 1 rfl)))
      | (go_at_call 82; (with_reducible refine (cE.out _ (hsx.out _ hS.empty) (hsy.out _ hS.empty)).mono ?_); rintro _ w3 ⟨rfl, hb3⟩; have hS1 := hS.keepB hb3; clear hb3 hS; have hS := hS1; clear hS1))
    go_ret
    exact ⟨rfl, hS.below⟩
  · rw [decide_eq_false h1, Bool.false_and]
    have hb : (xn == yn) = false := by rw [beq_eq_false_iff_ne]; exact h1
    generalize xm.length = l1 at cE ⊢
    generalize ym.length = l2 at cE ⊢
    clear cE
    replace h1 := Lib.hid h1
    go_enter Try.func81, Try.ntmps81
    go_wp2_with (first
      | ((with_reducible refine wpList_box_st hS rfl rfl rfl ?_); intro g1 w1 hS1; clear hS; have hS := hS1; clear hS1; (try clear hcl); have hcl := hS.cell 0 rfl; (try (have hcl2 := hS.cell 1 rfl))))
    go_ret
    exact ⟨rfl, hS.below⟩

theorem gsame_any (a b : Option Addr) (gs hs : List Gr) (n k cap cap2 : Nat) (w : World) (hD : Deep w a n cap gs) (hE : Deep w b k cap2 hs) :
    Calls Try.prog 80 #[.slice a n cap, .slice b k cap2, .func (.func 81) #[] #[]] w fun e w' => e = .returned (.bool (decide (keys gs = keys hs))) ∧ Below w.heap.size w w' := by
  have hS := St.start w
  have hm : n ≤ 9223372036854775807 := by have := hD.le; have := hD.cm; unfold maxLen at this; omega
  have hm2 : k ≤ 9223372036854775807 := by have := hE.le; have := hE.cm; unfold maxLen at this; omega
  by_cases hlen : n = k
  · subst hlen
    have ez := elem_g
    have hl1 := Lib.hid hD.len
    have hl2 := Lib.hid hE.len
    replace hD := Lib.hid hD
    replace hE := Lib.hid hE
    go_enter Try.func80, Try.ntmps80
    go_wp2_with fail
    go_loopg [17] n (fun gk vi wr => ∃ j : Nat, j + gk = n ∧ vi = .int .i64 j ∧ Hid ((keys gs).take j = (keys hs).take j) ∧ St w [] [] wr)
    case atStart => exact ⟨0, Nat.zero_add _, rfl, Lib.hid (by simp), hS⟩
    case round =>
      clear hS
      obtain ⟨j, hj, rfl, hr, hS⟩ := hrel
      by_cases hlt : j < n
      · have hj1 : j < gs.length := by rw [hl1.out]; exact hlt
        have hj2 : j < hs.length := by rw [hl2.out]; exact hlt
        obtain ⟨b1, o1, rfl, c0, c1⟩ := hD.out.get j hj1
        obtain ⟨b2, o2, rfl, d0, d1⟩ := hE.out.get j hj2
        have hMx := hD.out.mem gs[j] (List.getElem_mem hj1)
        have hMy := hE.out.mem hs[j] (List.getElem_mem hj2)
        have t1 : (keys gs).take (j + 1) = (keys gs).take j ++ [gs[j].key] := by rw [List.take_succ_eq_append_getElem (by simpa [keys] using hj1)]; simp [keys]
        have t2 : (keys hs).take (j + 1) = (keys hs).take j ++ [hs[j].key] := by rw [List.take_succ_eq_append_getElem (by simpa [keys] using hj2)]; simp [keys]
        have t3 : keys gs = keys hs → gs[j].key = hs[j].key := by
          intro e
          have := congrArg (fun l => l[j]?) e
          simpa [keys, hj1, hj2] using this
        generalize gs[j] = x at *
        generalize hs[j] = y at *
        have hMx2 := Lib.hid (fun W (h : St w [] [] W) => hMx.below h.below)
        have hMy2 := Lib.hid (fun W (h : St w [] [] W) => hMy.below h.below)
        replace c0 := hS.old c0 (by simp)
        replace c1 := hS.old c1 (by simp)
        replace d0 := Lib.hid d0
        replace d1 := Lib.hid d1
        have cS := fun W h1 h2 => same1_any x y W h1 h2
        clear hMx hMy
        replace t1 := Lib.hid t1
        replace t2 := Lib.hid t2
        replace t3 := Lib.hid t3
        by_cases hx : x.key = y.key
        · rw [decide_eq_true hx] at cS
          replace cS := Lib.hid cS
          replace hx := Lib.hid hx
          go_wp2_with (first
            | ((with_reducible refine wpList_storerow_st 0 hS rfl rfl rfl rfl (by kernel_rfl) rfl rfl rfl rfl ?_); intro w1 hS1; clear hS; have hS := hS1; clear hS1; try simp only [List.set_cons_zero, List.set_cons_succ, List.setIfInBounds_toArray, List.take_succ_cons, List.take_zero, List.drop_succ_cons, List.drop_zero, List.nil_append, List.cons_append, List.append_nil, List.drop_nil, List.take_nil, List.length_cons, List.length_nil, Nat.zero_add, Nat.add_zero, Nat.reduceAdd] at hS; (try clear c0 c1); have c0 := hS.old d0.out (by simp); have c1 := hS.old d1.out (by simp))
            | (with_reducible refine wpList_box_st hS rfl rfl rfl ?_; intro g1 w1 hS1; clear hS; replace hS := hS1; clear hS1) | (with_reducible refine wpList_box1_st hS rfl rfl rfl ?_; intro g1 w1 hS1; clear hS; replace hS := hS1; clear hS1) | (with_reducible refine wpList_alloc_st hS rfl rfl (by assumption) ?_; intro g1 w1 hS1; clear hS; replace hS := hS1; clear hS1) | (with_reducible refine wpList_alloc1_st hS rfl rfl (by assumption) rfl ?_; intro g1 w1 hS1; clear hS; replace hS := hS1; clear hS1) | ((with_reducible refine wpList_load_st 0 hS rfl rfl rfl rfl ?_ rfl ?_); focus (simp [scalarB, go_sem]; done)) | ((with_reducible refine wpList_loadall_st 0 hS rfl rfl rfl rfl ?_ (by kernel_rfl) ?_); focus (simp [rowB, go_sem]; done)) | ((with_reducible refine wpList_store_st 0 hS rfl rfl rfl rfl (by kernel_rfl) rfl rfl ?_); intro w1 hS1; clear hS; replace hS := hS1; clear hS1; try simp only [List.set_cons_zero, List.set_cons_succ, List.setIfInBounds_toArray, List.take_succ_cons, List.take_zero, List.drop_succ_cons, List.drop_zero, List.nil_append, List.cons_append, List.append_nil, List.drop_nil, List.take_nil, List.length_cons, List.length_nil, Nat.zero_add, Nat.add_zero, Nat.reduceAdd] at hS) | ((with_reducible refine wpList_storerow_st 0 hS rfl rfl rfl rfl (by kernel_rfl) rfl rfl rfl rfl ?_); intro w1 hS1; clear hS; replace hS := hS1; clear hS1; try simp only [List.set_cons_zero, List.set_cons_succ, List.setIfInBounds_toArray, List.take_succ_cons, List.take_zero, List.drop_succ_cons, List.drop_zero, List.nil_append, List.cons_append, List.append_nil, List.drop_nil, List.take_nil, List.length_cons, List.length_nil, Nat.zero_add, Nat.add_zero, Nat.reduceAdd] at hS) | ((with_reducible refine wpList_load_st 1 hS rfl rfl rfl rfl ?_ rfl ?_); focus (simp [scalarB, go_sem]; done)) | ((with_reducible refine wpList_loadall_st 1 hS rfl rfl rfl rfl ?_ (by kernel_rfl) ?_); focus (simp [rowB, go_sem]; done)) | ((with_reducible refine wpList_store_st 1 hS rfl rfl rfl rfl (by kernel_rfl) rfl rfl ?_); intro w1 hS1; clear hS; replace hS := hS1; clear hS1; try simp only [List.set_cons_zero, List.set_cons_succ, List.setIfInBounds_toArray, List.take_succ_cons, List.take_zero, List.drop_succ_cons, List.drop_zero, List.nil_append, List.cons_append, List.append_nil, List.drop_nil, List.take_nil, List.length_cons, List.length_nil, Nat.zero_add, Nat.add_zero, Nat.reduceAdd] at hS) | ((with_reducible refine wpList_storerow_st 1 hS rfl rfl rfl rfl (by kernel_rfl) rfl rfl rfl rfl ?_); intro w1 hS1; clear hS; replace hS := hS1; clear hS1; try simp only [List.set_cons_zero, List.set_cons_succ, List.setIfInBounds_toArray, List.take_succ_cons, List.take_zero, List.drop_succ_cons, List.drop_zero, List.nil_append, List.cons_append, List.append_nil, List.drop_nil, List.take_nil, List.length_cons, List.length_nil, Nat.zero_add, Nat.add_zero, Nat.reduceAdd] at hS)
            | (go_at_call 81; (with_reducible refine (cS.out _ (hMx2.out _ hS.empty) (hMy2.out _ hS.empty)).mono ?_); rintro _ w3 ⟨rfl, hb3⟩; have hS1 := hS.keepB hb3; clear hb3 hS; have hS := hS1; clear hS1))
          go_roundg (n - (j + 1))
          case measure => omega
          case rel => exact ⟨j + 1, by omega, by go_num, Lib.hid (by rw [t1.out, t2.out, hr.out, hx.out]), hS.empty⟩
        · rw [decide_eq_false hx] at cS
          replace cS := Lib.hid cS
          replace hx := Lib.hid hx
          go_wp2_with (first
            | ((with_reducible refine wpList_storerow_st 0 hS rfl rfl rfl rfl (by kernel_rfl) rfl rfl rfl rfl ?_); intro w1 hS1; clear hS; have hS := hS1; clear hS1; try simp only [List.set_cons_zero, List.set_cons_succ, List.setIfInBounds_toArray, List.take_succ_cons, List.take_zero, List.drop_succ_cons, List.drop_zero, List.nil_append, List.cons_append, List.append_nil, List.drop_nil, List.take_nil, List.length_cons, List.length_nil, Nat.zero_add, Nat.add_zero, Nat.reduceAdd] at hS; (try clear c0 c1); have c0 := hS.old d0.out (by simp); have c1 := hS.old d1.out (by simp))
            | (with_reducible refine wpList_box_st hS rfl rfl rfl ?_; intro g1 w1 hS1; clear hS; replace hS := hS1; clear hS1) | (with_reducible refine wpList_box1_st hS rfl rfl rfl ?_; intro g1 w1 hS1; clear hS; replace hS := hS1; clear hS1) | (with_reducible refine wpList_alloc_st hS rfl rfl (by assumption) ?_; intro g1 w1 hS1; clear hS; replace hS := hS1; clear hS1) | (with_reducible refine wpList_alloc1_st hS rfl rfl (by assumption) rfl ?_; intro g1 w1 hS1; clear hS; replace hS := hS1; clear hS1) | ((with_reducible refine wpList_load_st 0 hS rfl rfl rfl rfl ?_ rfl ?_); focus (simp [scalarB, go_sem]; done)) | ((with_reducible refine wpList_loadall_st 0 hS rfl rfl rfl rfl ?_ (by kernel_rfl) ?_); focus (simp [rowB, go_sem]; done)) | ((with_reducible refine wpList_store_st 0 hS rfl rfl rfl rfl (by kernel_rfl) rfl rfl ?_); intro w1 hS1; clear hS; replace hS := hS1; clear hS1; try simp only [List.set_cons_zero, List.set_cons_succ, List.setIfInBounds_toArray, List.take_succ_cons, List.take_zero, List.drop_succ_cons, List.drop_zero, List.nil_append, List.cons_append, List.append_nil, List.drop_nil, List.take_nil, List.length_cons, List.length_nil, Nat.zero_add, Nat.add_zero, Nat.reduceAdd] at hS) | ((with_reducible refine wpList_storerow_st 0 hS rfl rfl rfl rfl (by kernel_rfl) rfl rfl rfl rfl ?_); intro w1 hS1; clear hS; replace hS := hS1; clear hS1; try simp only [List.set_cons_zero, List.set_cons_succ, List.setIfInBounds_toArray, List.take_succ_cons, List.take_zero, List.drop_succ_cons, List.drop_zero, List.nil_append, List.cons_append, List.append_nil, List.drop_nil, List.take_nil, List.length_cons, List.length_nil, Nat.zero_add, Nat.add_zero, Nat.reduceAdd] at hS) | ((with_reducible refine wpList_load_st 1 hS rfl rfl rfl rfl ?_ rfl ?_); focus (simp [scalarB, go_sem]; done)) | ((with_reducible refine wpList_loadall_st 1 hS rfl rfl rfl rfl ?_ (by kernel_rfl) ?_); focus (simp [rowB, go_sem]; done)) | ((with_reducible refine wpList_store_st 1 hS rfl rfl rfl rfl (by kernel_rfl) rfl rfl ?_); intro w1 hS1; clear hS; replace hS := hS1; clear hS1; try simp only [List.set_cons_zero, List.set_cons_succ, List.setIfInBounds_toArray, List.take_succ_cons, List.take_zero, List.drop_succ_cons, List.drop_zero, List.nil_append, List.cons_append, List.append_nil, List.drop_nil, List.take_nil, List.length_cons, List.length_nil, Nat.zero_add, Nat.add_zero, Nat.reduceAdd] at hS) | ((with_reducible refine wpList_storerow_st 1 hS rfl rfl rfl rfl (by kernel_rfl) rfl rfl rfl rfl ?_); intro w1 hS1; clear hS; replace hS := hS1; clear hS1; try simp only [List.set_cons_zero, List.set_cons_succ, List.setIfInBounds_toArray, List.take_succ_cons, List.take_zero, List.drop_succ_cons, List.drop_zero, List.nil_append, List.cons_append, List.append_nil, List.drop_nil, List.take_nil, List.length_cons, List.length_nil, Nat.zero_add, Nat.add_zero, Nat.reduceAdd] at hS)
            | (go_at_call 81; (with_reducible refine (cS.out _ (hMx2.out _ hS.empty) (hMy2.out _ hS.empty)).mono ?_); rintro _ w3 ⟨rfl, hb3⟩; have hS1 := hS.keepB hb3; clear hb3 hS; have hS := hS1; clear hS1))
          go_ret
          have : decide (keys gs = keys hs) = false := by rw [decide_eq_false_iff_not]; intro e; exact hx.out (t3.out e)
          exact ⟨by rw [this]; rfl, hS.below⟩
      · obtain rfl : j = n := by omega
        go_wp2_with fail
        go_ret
        have e1 := hr.out
        rw [List.take_of_length_le (by simp [keys, hl1.out]), List.take_of_length_le (by simp [keys, hl2.out])] at e1
        exact ⟨by rw [decide_eq_true e1]; rfl, hS.below⟩
  · have e : decide (keys gs = keys hs) = false := by
      rw [decide_eq_false_iff_not]; intro e
      have := congrArg List.length e
      simp only [keys, List.length_map] at this
      rw [hD.len, hE.len] at this
      exact hlen this
    have hb : ((n : Int) != (k : Int)) = true := by simp; omega
    rw [e]
    clear hlen hD hE e
    go_enter Try.func80, Try.ntmps80
    go_wp2_with fail
    go_ret
    exact ⟨rfl, hS.below⟩

theorem same_any (a b : Option Addr) (gs hs : List Gr) (n k cap cap2 : Nat) (w : World) (hD : Deep w a n cap gs) (hE : Deep w b k cap2 hs) :
    Calls Try.prog 51 #[.slice a n cap, .slice b k cap2] w fun e w' => e = .returned (.bool (decide (keys gs = keys hs))) ∧ Below w.heap.size w w' := by
  have cS := Lib.hid (gsame_any a b gs hs n k cap cap2 w hD hE)
  clear hD hE
  go_enter Try.func51, Try.ntmps51
  go_wp2_with (go_at_call 80; (with_reducible refine cS.out.mono ?_); rintro _ w3 ⟨rfl, hb3⟩)
  go_ret
  exact ⟨rfl, hb3⟩

theorem leave_any (a : Option Addr) (gs : List Gr) (n cap : Nat) (id : Int) (w : World) (hD : Deep w a n cap gs) (hm : n ≤ 1000) (hmm : ∀ g ∈ gs, g.mem.length ≤ 10000) (hum : ∀ g ∈ gs, Ids.Up g.mem) :
    Calls Try.prog 54 #[.slice a n cap, .int .i64 id] w (GsRet (leaveK (keys gs) id) w) := by
  have cC := gclone_any a gs n cap w hD (by omega)
  have hS := St.start w
  by_cases hz : n = 0
  · have hgs : gs = [] := List.length_eq_zero_iff.1 (hD.len.trans hz)
    subst hgs
    subst hz
    replace cC := Lib.hid cC
    clear hD
    go_enter Try.func54, Try.ntmps54
    go_wp2_with (go_at_call 83; (with_reducible refine cC.out.mono ?_); rintro _ w3 ⟨a3, c3, rfl, hb3⟩)
    go_loopg [11] 0 (fun gk vx wr => vx = .int .i64 0 ∧ wr = w3)
    case atStart => exact ⟨rfl, rfl⟩
    case round =>
      obtain ⟨rfl, rfl⟩ := hrel
      go_wp2_with fail
      go_ret
      exact ⟨a3, c3, [], rfl, rfl, deep_of hb3 rfl rfl (by simp), hb3.below⟩
  · have hlen := Lib.hid hD.len
    have hD' := Lib.hid hD
    replace cC := Lib.hid cC
    clear hD
    go_enter Try.func54, Try.ntmps54
    go_wp2_with (go_at_call 83; (with_reducible refine cC.out.mono ?_); rintro _ w3 ⟨a3, c3, rfl, hb3⟩; have hS1 := hS.made hb3; clear hS hb3; have hS := hS1; clear hS1; obtain ⟨g3, c4, e3, -⟩ := hS.rowat 0 rfl (by omega); cases e3)
    obtain ⟨cur, q1, q2, q3, q4, hS2⟩ := hS.rowblk
    clear hS
    have hc63 : c3 ≤ 9223372036854775807 := by unfold maxLen at q4; omega
    go_loopg [11] n (fun gk vx wr => ∃ (j : Nat) (cur : Array Value) (new : List Gr), j + gk = n ∧ vx = .int .i64 j ∧ Hid (new.length = j ∧ cur.size = c3 * 2 ∧ cur.toList.take (n * 2) = grows (new ++ gs.drop j) ∧ keys new = leaveK (keys (gs.take j)) id) ∧ St w [] (Ch.blk g3 58 cur :: new.reverse.map gp) wr)
    case atStart => exact ⟨0, cur, [], Nat.zero_add _, rfl, Lib.hid ⟨rfl, q1, by simpa using q2, by simp [keys, leaveK]⟩, hS2⟩
    case round =>
      clear hS2 q1 q2
      obtain ⟨j, cur, new, hj, rfl, hr, hS⟩ := hrel
      by_cases hlt : j < n
      · obtain ⟨r1, r2, r3, r4⟩ := hr.out
        have hjl : j < gs.length := by rw [hlen.out]; exact hlt
        have hd := List.drop_eq_getElem_cons (l := gs) (i := j) hjl
        have hM := hD'.out.mem gs[j] (List.getElem_mem hjl)
        have hml := hmm gs[j] (List.getElem_mem hjl)
        have hMu := hum gs[j] (List.getElem_mem hjl)
        have htk : gs.take (j + 1) = gs.take j ++ [gs[j]] := by rw [List.take_succ_eq_append_getElem hjl]
        rw [hd] at r3
        generalize gs[j] = gj at hd hM hml hMu htk r3
        have hcur1 : cur[j * 2 + 1]? = some (.slice gj.a gj.mem.length gj.c) := by
          have h1 : (cur.toList.take (n * 2))[j * 2 + 1]? = some (.slice gj.a gj.mem.length gj.c) := by rw [r3, ← r1]; exact grows_get1 new _ gj
          rw [List.getElem?_take] at h1
          rw [if_pos (by omega)] at h1
          simpa using h1
        have hcell := (hS.cell 0 rfl (j * 2 + 1)).trans hcur1
        have cI := Lib.hid (drop_any gj.a gj.mem _ gj.c id wr (hS.sl hM.sl) rfl (by omega) hM.nz hMu)
        have hble : Nat.ble (j * 2 + 1 + 1) cur.size = true := by rw [Nat.ble_eq, r2]; omega
        have hnew : ∀ (a5 : Option Addr) (c5 : Nat), (new ++ [(⟨gj.no, a5, c5, Ids.drop gj.mem id⟩ : Gr)]).length = j + 1 ∧ (cur.setIfInBounds (j * 2 + 1) (.slice a5 (Ids.drop gj.mem id).length c5)).size = c3 * 2 ∧ (cur.setIfInBounds (j * 2 + 1) (.slice a5 (Ids.drop gj.mem id).length c5)).toList.take (n * 2) = grows (new ++ [(⟨gj.no, a5, c5, Ids.drop gj.mem id⟩ : Gr)] ++ gs.drop (j + 1)) ∧ keys (new ++ [(⟨gj.no, a5, c5, Ids.drop gj.mem id⟩ : Gr)]) = leaveK (keys (gs.take (j + 1))) id := by
          intro a5 c5
          refine ⟨by simp [r1], by simp [r2], ?_, ?_⟩
          · rw [Array.toList_setIfInBounds, List.take_set, r3, ← r1, grows_set_mem]
            simp
          · rw [htk]
            unfold keys leaveK at r4 ⊢
            rw [List.map_append, List.map_append, List.map_append, r4]
            rfl
        replace hnew := Lib.hid hnew
        clear hcur1 r1 r2 r3 r4 hd htk hM hml hr
        go_wp2_with (first
          | (go_at_call 23; (with_reducible refine cI.out.mono ?_); rintro _ w5 ⟨a5, c5, rfl, h51, h52, hb5⟩; have hS1 := hS.made hb5; clear hS hb5; have hS := hS1; clear hS1)
          | ((with_reducible refine wpList_store_st 1 hS rfl rfl rfl rfl (by kernel_rfl) rfl hble ?_); intro w6 hS1; clear hS; have hS := hS1; clear hS1))
        go_roundg (n - (j + 1))
        case measure => omega
        case rel =>
          refine ⟨j + 1, _, _, by omega, by go_num, Lib.hid (hnew.out a5 c5), ?_⟩
          rw [List.reverse_append]
          exact St.swap hS
      · obtain rfl : j = n := by omega
        go_wp2_with fail
        go_ret
        obtain ⟨r1, r2, r3, r4⟩ := hr.out
        rw [List.drop_of_length_le (by rw [hlen.out]; exact Nat.le_refl _), List.append_nil] at r3
        rw [List.take_of_length_le (by rw [hlen.out]; exact Nat.le_refl _)] at r4
        have hr2 := hS.blkrow2 2 (n := j) (c := c3) r2 q3 q4 r3
        have hl' : new.length = j := r1
        have hd := deep_of (gs := new) hr2 rfl hl' (by
          intro x hx
          left
          exact List.mem_map.2 ⟨x, by simpa using hx, rfl⟩)
        exact ⟨_, c3, new, r4, by rw [hl']; rfl, by rw [hl']; exact hd, hS.below⟩
end Go.Proofs.Ytplgpbbghhlbjaa
