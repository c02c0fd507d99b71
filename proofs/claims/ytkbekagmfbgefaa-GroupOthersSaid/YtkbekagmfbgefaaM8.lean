import Derived.Test.YtkbekagmfbgefaaM7
set_option linter.unusedVariables false
set_option linter.unusedSimpArgs false
set_option maxRecDepth 100000
section
namespace Go.Ofp
def leaveK (ks : List Key) (id : Int) : List Key := ks.map fun k => (k.1, Ids.drop k.2 id)
end Go.Ofp
namespace Go.Proofs.Ytkbekagmfbgefaa
open Go.RowKit Go.Ofp
set_option maxHeartbeats 4000000
def GsRet (ks : List Key) (w : World) (e : Ending) (w' : World) : Prop := ∃ a c gs', keys gs' = ks ∧ e = .returned (.slice a gs'.length c) ∧ Deep w' a gs'.length c gs' ∧ Below w.heap.size w w'
theorem members_any (a : Option Addr) (gs : List Gr) (n cap : Nat) (g : Int) (w : World) (hD : Deep w a n cap gs) (hm : n ≤ 1000) (hmm : ∀ g ∈ gs, g.mem.length ≤ 10000) (hu : Ids.Up (nos gs)) :
    Calls Try.prog 12 #[.slice a n cap, .int .i64 g] w (IntsRet (membersK (keys gs) g) w) := by
  have hS := St.start w
  have cF := fun W (h : Deep W a n cap gs) => find_any a gs n cap g W h (by omega) hu
  have hnl : (nos gs).length = n := by rw [nos, List.length_map, hD.len]
  have hlen := hD.len
  have hlt := Ids.has_lt (nos gs) g hu
  rw [hnl] at hlt
  unfold membersK memAt
  rw [← nos_keys]
  generalize Ids.has (nos gs) g = hb at cF hlt ⊢
  generalize Ids.place (nos gs) g = p at cF hlt ⊢
  replace hD := Lib.hid hD
  replace cF := Lib.hid cF
  clear hu
  cases hb with
  | false =>
    clear hlen hlt hnl
    go_enter Try.func12, Try.ntmps12
    go_wp2_with (go_at_call 33; (with_reducible refine (cF.out _ hD.out).mono ?_); rintro _ w3 ⟨rfl, hb3⟩; have hS1 := hS.keepB hb3; clear hb3 hS; have hS := hS1; clear hS1)
    go_ret
    exact intsRet_mk (hS.nilrow 3 1) rfl rfl
  | true =>
    have hpn := hlt rfl
    have hpg : p < gs.length := by omega
    obtain ⟨b, off, rfl, c0, c1⟩ := hD.out.get p hpg
    have hgM := hD.out.mem gs[p] (List.getElem_mem hpg)
    have hgl := hmm gs[p] (List.getElem_mem hpg)
    have hmem : ((keys gs).getD p (0, [])).2 = gs[p].mem := by
      unfold keys
      simp [List.getD_eq_getElem?_getD, hpg, Gr.key]
    rw [if_pos rfl, hmem]
    generalize gs[p] = gp0 at c0 c1 hgM hgl
    have cC := Lib.hid (fun W h => clone_any gp0.a gp0.mem gp0.mem.length gp0.c W h rfl (by omega) hgM.nz)
    have hsl := Lib.hid (fun W (h : St w [] [] W) => h.sl hgM.sl)
    replace c1 := Lib.hid c1
    have hcc := Lib.hid (fun W (h : St w [] [] W) => h.old c1.out (by simp))
    clear c0 hlt hnl hmem hgM hlen
    go_enter Try.func12, Try.ntmps12
    go_wp2_with (first
      | (go_at_call 33; (with_reducible refine (cF.out _ hD.out).mono ?_); rintro _ w3 ⟨rfl, hb3⟩; have hS1 := hS.keepB hb3; clear hb3 hS; have hS := hS1; clear hS1; have hcell := hcc.out _ hS)
      | (go_at_call 34; (with_reducible refine (cC.out _ (hsl.out _ hS)).mono ?_); rintro _ w4 ⟨a5, c5, rfl, h51, h52, hb4⟩; clear hcell; have hS1 := hS.made hb4; clear hS hb4; have hS := hS1; clear hS1))
    go_ret
    exact ⟨_, _, rfl, h51, h52, hS⟩
theorem gsm1_any (x y : Gr) (w : World) (hx : Mem w x) (hy : Mem w y) :
    Calls Try.prog 51 #[.agg #[.int .i64 x.no, .slice x.a x.mem.length x.c], .agg #[.int .i64 y.no, .slice y.a y.mem.length y.c]] w fun e w' => e = .returned (.bool (decide (x.key = y.key))) ∧ Below w.heap.size w w' := by
  have hS := St.start w
  have hxm := hx.le; have hxc := hx.cm; have hym := hy.le; have hyc := hy.cm
  have cE := fun W h1 h2 => equal_any x.a y.a x.mem y.mem _ _ x.c y.c W h1 h2 rfl rfl (by omega) (by omega)
  have hsx := Lib.hid (fun W (h : St w [] [] W) => h.sl hx.sl)
  have hsy := Lib.hid (fun W (h : St w [] [] W) => h.sl hy.sl)
  clear hx hy hxm hxc hym hyc
  have e : decide (x.key = y.key) = (decide (x.no = y.no) && decide (x.mem = y.mem)) := by
    rw [Bool.eq_iff_iff]
    simp [Gr.key]
  rw [e]
  clear e
  obtain ⟨xn, xa, xc, xm⟩ := x
  obtain ⟨yn, ya, yc, ym⟩ := y
  simp only at *
  by_cases h1 : xn = yn
  · subst h1
    rw [decide_eq_true rfl, Bool.true_and]
    generalize decide (xm = ym) = q at cE ⊢
    generalize xm.length = l1 at cE ⊢
    generalize ym.length = l2 at cE ⊢
    replace cE := Lib.hid cE
    go_enter Try.func51, Try.ntmps51
    go_wp2_with (first
      | ((with_reducible refine wpList_box_st hS rfl rfl rfl ?_); intro g1 w1 hS1; clear hS; have hS := hS1; clear hS1; (try clear hcl); have hcl := hS.cell 0 rfl; (try (have hcl2 := hS.cell 1 rfl)))
      | (go_at_call 52; (with_reducible refine (cE.out _ (hsx.out _ hS.empty) (hsy.out _ hS.empty)).mono ?_); rintro _ w3 ⟨rfl, hb3⟩; have hS1 := hS.keepB hb3; clear hb3 hS; have hS := hS1; clear hS1))
    go_ret
    exact ⟨rfl, hS.below⟩
  · rw [decide_eq_false h1, Bool.false_and]
    have hb : (xn == yn) = false := by rw [beq_eq_false_iff_ne]; exact h1
    generalize xm.length = l1 at cE ⊢
    generalize ym.length = l2 at cE ⊢
    clear cE
    replace h1 := Lib.hid h1
    go_enter Try.func51, Try.ntmps51
    go_wp2_with (first
      | ((with_reducible refine wpList_box_st hS rfl rfl rfl ?_); intro g1 w1 hS1; clear hS; have hS := hS1; clear hS1; (try clear hcl); have hcl := hS.cell 0 rfl; (try (have hcl2 := hS.cell 1 rfl))))
    go_ret
    exact ⟨rfl, hS.below⟩
theorem gsame_any (a b : Option Addr) (gs hs : List Gr) (n k cap cap2 : Nat) (w : World) (hD : Deep w a n cap gs) (hE : Deep w b k cap2 hs) :
    Calls Try.prog 50 #[.slice a n cap, .slice b k cap2, .func (.func 51) #[] #[]] w fun e w' => e = .returned (.bool (decide (keys gs = keys hs))) ∧ Below w.heap.size w w' := by
  have hS := St.start w
  have hm : n ≤ 9223372036854775807 := by have := hD.le; have := hD.cm; unfold maxLen at this; omega
  have hm2 : k ≤ 9223372036854775807 := by have := hE.le; have := hE.cm; unfold maxLen at this; omega
  by_cases hlen : n = k
  · subst hlen
    have ez := elem_g
    have hl1 := Lib.hid hD.len
    have hl2 := Lib.hid hE.len
    replace hD := Lib.hid hD
    replace hE := Lib.hid hE
    go_enter Try.func50, Try.ntmps50
    go_wp2_with fail
    go_loopg [17] n (fun gk vi wr => ∃ j : Nat, j + gk = n ∧ vi = .int .i64 j ∧ Hid ((keys gs).take j = (keys hs).take j) ∧ St w [] [] wr)
    case atStart => exact ⟨0, Nat.zero_add _, rfl, Lib.hid (by simp), hS⟩
    case round =>
      clear hS
      obtain ⟨j, hj, rfl, hr, hS⟩ := hrel
      by_cases hlt : j < n
      · have hj1 : j < gs.length := by rw [hl1.out]; exact hlt
        have hj2 : j < hs.length := by rw [hl2.out]; exact hlt
        obtain ⟨b1, o1, rfl, c0, c1⟩ := hD.out.get j hj1
        obtain ⟨b2, o2, rfl, d0, d1⟩ := hE.out.get j hj2
        have hMx := hD.out.mem gs[j] (List.getElem_mem hj1)
        have hMy := hE.out.mem hs[j] (List.getElem_mem hj2)
        have t1 : (keys gs).take (j + 1) = (keys gs).take j ++ [gs[j].key] := by rw [List.take_succ_eq_append_getElem (by simpa [keys] using hj1)]; simp [keys]
        have t2 : (keys hs).take (j + 1) = (keys hs).take j ++ [hs[j].key] := by rw [List.take_succ_eq_append_getElem (by simpa [keys] using hj2)]; simp [keys]
        have t3 : keys gs = keys hs → gs[j].key = hs[j].key := by
          intro e
          have := congrArg (fun l => l[j]?) e
          simpa [keys, hj1, hj2] using this
        generalize gs[j] = x at *
        generalize hs[j] = y at *
        have hMx2 := Lib.hid (fun W (h : St w [] [] W) => hMx.below h.below)
        have hMy2 := Lib.hid (fun W (h : St w [] [] W) => hMy.below h.below)
        replace c0 := hS.old c0 (by simp)
        replace c1 := hS.old c1 (by simp)
        replace d0 := Lib.hid d0
        replace d1 := Lib.hid d1
        have cS := fun W h1 h2 => gsm1_any x y W h1 h2
        clear hMx hMy
        replace t1 := Lib.hid t1
        replace t2 := Lib.hid t2
        replace t3 := Lib.hid t3
        by_cases hx : x.key = y.key
        · rw [decide_eq_true hx] at cS
          replace cS := Lib.hid cS
          replace hx := Lib.hid hx
          go_wp2_with (first
            | ((with_reducible refine wpList_storerow_st 0 hS rfl rfl rfl rfl (by kernel_rfl) rfl rfl rfl rfl ?_); intro w1 hS1; clear hS; have hS := hS1; clear hS1; try simp only [List.set_cons_zero, List.set_cons_succ, List.setIfInBounds_toArray, List.take_succ_cons, List.take_zero, List.drop_succ_cons, List.drop_zero, List.nil_append, List.cons_append, List.append_nil, List.drop_nil, List.take_nil, List.length_cons, List.length_nil, Nat.zero_add, Nat.add_zero, Nat.reduceAdd] at hS; (try clear c0 c1); have c0 := hS.old d0.out (by simp); have c1 := hS.old d1.out (by simp))
            | (with_reducible refine wpList_box_st hS rfl rfl rfl ?_; clear hS; intro g1 w1 hS) | (with_reducible refine wpList_box1_st hS rfl rfl rfl ?_; clear hS; intro g1 w1 hS) | (with_reducible refine al hS rfl rfl ?_; clear hS; intro g1 w1 hS) | (with_reducible refine wpList_alloc1_st hS rfl rfl (by assumption) rfl ?_; clear hS; intro g1 w1 hS) | (with_reducible refine ld 0 hS rfl rfl rfl rfl rfl ?_) | (with_reducible refine lda 0 hS rfl rfl rfl rfl ?_) | (with_reducible refine sto 0 hS rfl rfl rfl rfl rfl rfl ?_; clear hS; intro w1 hS) | (with_reducible refine stor 0 hS rfl rfl rfl rfl rfl rfl rfl rfl ?_; clear hS; intro w1 hS) | (with_reducible refine ld 1 hS rfl rfl rfl rfl rfl ?_) | (with_reducible refine lda 1 hS rfl rfl rfl rfl ?_) | (with_reducible refine sto 1 hS rfl rfl rfl rfl rfl rfl ?_; clear hS; intro w1 hS) | (with_reducible refine stor 1 hS rfl rfl rfl rfl rfl rfl rfl rfl ?_; clear hS; intro w1 hS)
            | (go_at_call 51; (with_reducible refine (cS.out _ (hMx2.out _ hS.empty) (hMy2.out _ hS.empty)).mono ?_); rintro _ w3 ⟨rfl, hb3⟩; have hS1 := hS.keepB hb3; clear hb3 hS; have hS := hS1; clear hS1))
          go_roundg (n - (j + 1))
          case measure => omega
          case rel => exact ⟨j + 1, by omega, by go_num, Lib.hid (by rw [t1.out, t2.out, hr.out, hx.out]), hS.empty⟩
        · rw [decide_eq_false hx] at cS
          replace cS := Lib.hid cS
          replace hx := Lib.hid hx
          go_wp2_with (first
            | ((with_reducible refine wpList_storerow_st 0 hS rfl rfl rfl rfl (by kernel_rfl) rfl rfl rfl rfl ?_); intro w1 hS1; clear hS; have hS := hS1; clear hS1; try simp only [List.set_cons_zero, List.set_cons_succ, List.setIfInBounds_toArray, List.take_succ_cons, List.take_zero, List.drop_succ_cons, List.drop_zero, List.nil_append, List.cons_append, List.append_nil, List.drop_nil, List.take_nil, List.length_cons, List.length_nil, Nat.zero_add, Nat.add_zero, Nat.reduceAdd] at hS; (try clear c0 c1); have c0 := hS.old d0.out (by simp); have c1 := hS.old d1.out (by simp))
            | (with_reducible refine wpList_box_st hS rfl rfl rfl ?_; clear hS; intro g1 w1 hS) | (with_reducible refine wpList_box1_st hS rfl rfl rfl ?_; clear hS; intro g1 w1 hS) | (with_reducible refine al hS rfl rfl ?_; clear hS; intro g1 w1 hS) | (with_reducible refine wpList_alloc1_st hS rfl rfl (by assumption) rfl ?_; clear hS; intro g1 w1 hS) | (with_reducible refine ld 0 hS rfl rfl rfl rfl rfl ?_) | (with_reducible refine lda 0 hS rfl rfl rfl rfl ?_) | (with_reducible refine sto 0 hS rfl rfl rfl rfl rfl rfl ?_; clear hS; intro w1 hS) | (with_reducible refine stor 0 hS rfl rfl rfl rfl rfl rfl rfl rfl ?_; clear hS; intro w1 hS) | (with_reducible refine ld 1 hS rfl rfl rfl rfl rfl ?_) | (with_reducible refine lda 1 hS rfl rfl rfl rfl ?_) | (with_reducible refine sto 1 hS rfl rfl rfl rfl rfl rfl ?_; clear hS; intro w1 hS) | (with_reducible refine stor 1 hS rfl rfl rfl rfl rfl rfl rfl rfl ?_; clear hS; intro w1 hS)
            | (go_at_call 51; (with_reducible refine (cS.out _ (hMx2.out _ hS.empty) (hMy2.out _ hS.empty)).mono ?_); rintro _ w3 ⟨rfl, hb3⟩; have hS1 := hS.keepB hb3; clear hb3 hS; have hS := hS1; clear hS1))
          go_ret
          have : decide (keys gs = keys hs) = false := by rw [decide_eq_false_iff_not]; intro e; exact hx.out (t3.out e)
          exact ⟨by rw [this]; rfl, hS.below⟩
      · obtain rfl : j = n := by omega
        go_wp2_with fail
        go_ret
        have e1 := hr.out
        rw [List.take_of_length_le (by simp [keys, hl1.out]), List.take_of_length_le (by simp [keys, hl2.out])] at e1
        exact ⟨by rw [decide_eq_true e1]; rfl, hS.below⟩
  · have e : decide (keys gs = keys hs) = false := by
      rw [decide_eq_false_iff_not]; intro e
      have := congrArg List.length e
      simp only [keys, List.length_map] at this
      rw [hD.len, hE.len] at this
      exact hlen this
    have hb : ((n : Int) != (k : Int)) = true := by simp; omega
    rw [e]
    clear hlen hD hE e
    go_enter Try.func50, Try.ntmps50
    go_wp2_with fail
    go_ret
    exact ⟨rfl, hS.below⟩
theorem same_any (a b : Option Addr) (gs hs : List Gr) (n k cap cap2 : Nat) (w : World) (hD : Deep w a n cap gs) (hE : Deep w b k cap2 hs) :
    Calls Try.prog 24 #[.slice a n cap, .slice b k cap2] w fun e w' => e = .returned (.bool (decide (keys gs = keys hs))) ∧ Below w.heap.size w w' := by
  have cS := Lib.hid (gsame_any a b gs hs n k cap cap2 w hD hE)
  clear hD hE
  go_enter Try.func24, Try.ntmps24
  go_wp2_with (go_at_call 50; (with_reducible refine cS.out.mono ?_); rintro _ w3 ⟨rfl, hb3⟩)
  go_ret
  exact ⟨rfl, hb3⟩
theorem leave_any (a : Option Addr) (gs : List Gr) (n cap : Nat) (id : Int) (w : World) (hD : Deep w a n cap gs) (hm : n ≤ 1000) (hmm : ∀ g ∈ gs, g.mem.length ≤ 10000) (hum : ∀ g ∈ gs, Ids.Up g.mem) :
    Calls Try.prog 28 #[.slice a n cap, .int .i64 id] w (GsRet (leaveK (keys gs) id) w) := by
  have cC := gclone_any a gs n cap w hD (by omega)
  have hS := St.start w
  by_cases hz : n = 0
  · have hgs : gs = [] := List.length_eq_zero_iff.1 (hD.len.trans hz)
    subst hgs
    subst hz
    replace cC := Lib.hid cC
    clear hD
    go_enter Try.func28, Try.ntmps28
    go_wp2_with (go_at_call 53; (with_reducible refine cC.out.mono ?_); rintro _ w3 ⟨a3, c3, rfl, hb3⟩)
    go_loopg [11] 0 (fun gk vx wr => vx = .int .i64 0 ∧ wr = w3)
    case atStart => exact ⟨rfl, rfl⟩
    case round =>
      obtain ⟨rfl, rfl⟩ := hrel
      go_wp2_with fail
      go_ret
      exact ⟨a3, c3, [], rfl, rfl, deep_of hb3 rfl rfl (by simp), hb3.below⟩
  · have hlen := Lib.hid hD.len
    have hD' := Lib.hid hD
    replace cC := Lib.hid cC
    clear hD
    go_enter Try.func28, Try.ntmps28
    go_wp2_with (go_at_call 53; (with_reducible refine cC.out.mono ?_); rintro _ w3 ⟨a3, c3, rfl, hb3⟩; have hS1 := hS.made hb3; clear hS hb3; have hS := hS1; clear hS1; obtain ⟨g3, c4, e3, -⟩ := hS.rowat 0 rfl (by omega); cases e3)
    obtain ⟨cur, q1, q2, q3, q4, hS2⟩ := hS.rowblk
    clear hS
    have hc63 : c3 ≤ 9223372036854775807 := by unfold maxLen at q4; omega
    go_loopg [11] n (fun gk vx wr => ∃ (j : Nat) (cur : Array Value) (new : List Gr), j + gk = n ∧ vx = .int .i64 j ∧ Hid (new.length = j ∧ cur.size = c3 * 2 ∧ cur.toList.take (n * 2) = grows (new ++ gs.drop j) ∧ keys new = leaveK (keys (gs.take j)) id) ∧ St w [] (Ch.blk g3 31 cur :: new.reverse.map gp) wr)
    case atStart => exact ⟨0, cur, [], Nat.zero_add _, rfl, Lib.hid ⟨rfl, q1, by simpa using q2, by simp [keys, leaveK]⟩, hS2⟩
    case round =>
      clear hS2 q1 q2
      obtain ⟨j, cur, new, hj, rfl, hr, hS⟩ := hrel
      by_cases hlt : j < n
      · obtain ⟨r1, r2, r3, r4⟩ := hr.out
        have hjl : j < gs.length := by rw [hlen.out]; exact hlt
        have hd := List.drop_eq_getElem_cons (l := gs) (i := j) hjl
        have hM := hD'.out.mem gs[j] (List.getElem_mem hjl)
        have hml := hmm gs[j] (List.getElem_mem hjl)
        have hMu := hum gs[j] (List.getElem_mem hjl)
        have htk : gs.take (j + 1) = gs.take j ++ [gs[j]] := by rw [List.take_succ_eq_append_getElem hjl]
        rw [hd] at r3
        generalize gs[j] = gj at hd hM hml hMu htk r3
        have hcur1 : cur[j * 2 + 1]? = some (.slice gj.a gj.mem.length gj.c) := by
          have h1 : (cur.toList.take (n * 2))[j * 2 + 1]? = some (.slice gj.a gj.mem.length gj.c) := by rw [r3, ← r1]; exact grows_get1 new _ gj
          rw [List.getElem?_take] at h1
          rw [if_pos (by omega)] at h1
          simpa using h1
        have hcell := (hS.cell 0 rfl (j * 2 + 1)).trans hcur1
        have cI := Lib.hid (drop_any gj.a gj.mem _ gj.c id wr (hS.sl hM.sl) rfl (by omega) hM.nz hMu)
        have hble : Nat.ble (j * 2 + 1 + 1) cur.size = true := by rw [Nat.ble_eq, r2]; omega
        have hnew : ∀ (a5 : Option Addr) (c5 : Nat), (new ++ [(⟨gj.no, a5, c5, Ids.drop gj.mem id⟩ : Gr)]).length = j + 1 ∧ (cur.setIfInBounds (j * 2 + 1) (.slice a5 (Ids.drop gj.mem id).length c5)).size = c3 * 2 ∧ (cur.setIfInBounds (j * 2 + 1) (.slice a5 (Ids.drop gj.mem id).length c5)).toList.take (n * 2) = grows (new ++ [(⟨gj.no, a5, c5, Ids.drop gj.mem id⟩ : Gr)] ++ gs.drop (j + 1)) ∧ keys (new ++ [(⟨gj.no, a5, c5, Ids.drop gj.mem id⟩ : Gr)]) = leaveK (keys (gs.take (j + 1))) id := by
          intro a5 c5
          refine ⟨by simp [r1], by simp [r2], ?_, ?_⟩
          · rw [Array.toList_setIfInBounds, List.take_set, r3, ← r1, grows_set_mem]
            simp
          · rw [htk]
            unfold keys leaveK at r4 ⊢
            rw [List.map_append, List.map_append, List.map_append, r4]
            rfl
        replace hnew := Lib.hid hnew
        clear hcur1 r1 r2 r3 r4 hd htk hM hml hr
        go_wp2_with (first
          | (go_at_call 39; (with_reducible refine cI.out.mono ?_); rintro _ w5 ⟨a5, c5, rfl, h51, h52, hb5⟩; have hS1 := hS.made hb5; clear hS hb5; have hS := hS1; clear hS1)
          | ((with_reducible refine wpList_store_st 1 hS rfl rfl rfl rfl (by kernel_rfl) rfl hble ?_); intro w6 hS1; clear hS; have hS := hS1; clear hS1))
        go_roundg (n - (j + 1))
        case measure => omega
        case rel =>
          refine ⟨j + 1, _, _, by omega, by go_num, Lib.hid (hnew.out a5 c5), ?_⟩
          rw [List.reverse_append]
          exact St.swap hS
      · obtain rfl : j = n := by omega
        go_wp2_with fail
        go_ret
        obtain ⟨r1, r2, r3, r4⟩ := hr.out
        rw [List.drop_of_length_le (by rw [hlen.out]; exact Nat.le_refl _), List.append_nil] at r3
        rw [List.take_of_length_le (by rw [hlen.out]; exact Nat.le_refl _)] at r4
        have hr2 := hS.blkrow2 2 (n := j) (c := c3) r2 q3 q4 r3
        have hl' : new.length = j := r1
        have hd := deep_of (gs := new) hr2 rfl hl' (by
          intro x hx
          left
          exact List.mem_map.2 ⟨x, by simpa using hx, rfl⟩)
        exact ⟨_, c3, new, r4, by rw [hl']; rfl, by rw [hl']; exact hd, hS.below⟩
end Go.Proofs.Ytkbekagmfbgefaa
end
section
namespace Go.Ofp
theorem place_get (l : List Int) (g : Int) (h : Ids.Up l) (j : Nat) (hj : j < l.length) (e : l[j] = g) : Ids.place l g = j ∧ Ids.has l g = true := by
  refine ⟨?_, (Ids.has_iff _ _).2 (e ▸ List.getElem_mem hj)⟩
  have h1 := Ids.lt_place l g h j hj
  have h2 : ¬ j < Ids.place l g := by rw [← h1]; omega
  rcases Nat.eq_zero_or_pos j with rfl | hp
  · omega
  · have h3 := (List.pairwise_iff_getElem.1 h) (j - 1) j (by omega) hj (by omega)
    have h4 := (Ids.lt_place l g h (j - 1) (by omega)).1 (by omega)
    omega
def lastNo (ks : List Key) : Int := (knos ks).getLastD (-1)
theorem chkKF_snoc (ks : List Key) (no : Int) (mem : List Int) : ∀ last : Int, chkKF last (ks ++ [(no, mem)]) = (chkKF last ks && (decide ((knos ks).getLastD last < no) && (decide (no < 16) && Ids.chk mem))) := by
  induction ks with
  | nil => intro last; simp [chkKF, knos]
  | cons y l ih =>
    intro last
    simp only [List.cons_append, chkKF, ih, knos, List.map_cons, List.getLastD_cons, Bool.and_assoc]
    rfl
theorem chkK_snoc (ks : List Key) (no : Int) (mem : List Int) : chkK (ks ++ [(no, mem)]) = (chkK ks && (decide (lastNo ks < no) && (decide (no < 16) && Ids.chk mem))) := chkKF_snoc ks no mem (-1)
theorem chkK_take (ks : List Key) (k : Nat) (h : chkK ks = true) : chkK (ks.take k) = true := by
  rw [chkK_iff] at h ⊢
  refine ⟨?_, fun x hx => h.2.1 x (List.mem_of_mem_take hx), fun x hx => h.2.2 x (List.mem_of_mem_take hx)⟩
  unfold knos
  rw [List.map_take]
  exact h.1.sublist (List.take_sublist _ _)
theorem lastNo_take (ks : List Key) (i : Nat) (h : i < ks.length) : lastNo (ks.take (i + 1)) = (ks[i]).1 := by
  unfold lastNo knos
  rw [List.take_succ_eq_append_getElem h, List.map_append, List.getLastD_eq_getLast?, List.map_cons, List.map_nil, List.getLast?_concat]
  rfl
theorem lastNo_ge (ks : List Key) (h : chkK ks = true) : -1 ≤ lastNo ks := by
  rw [chkK_iff] at h
  unfold lastNo
  by_cases hl : knos ks = []
  · rw [hl]; simp
  · rw [List.getLastD_eq_getLast?, List.getLast?_eq_some_getLast hl]
    have hm := List.getLast_mem hl
    obtain ⟨k, hk, e⟩ := List.mem_map.1 hm
    have := (h.2.1 k hk).1
    simp only [Option.getD_some, ← e]
    omega
end Go.Ofp
namespace Go.Proofs.Ytkbekagmfbgefaa
open Go.RowKit Go.Ofp
set_option maxHeartbeats 4000000
def plR : Bool → Nat → Int
  | true, p => p
  | false, _ => -1
theorem rgplace_any (a : Option Addr) (gs : List Gr) (n cap : Nat) (g : Int) (w : World) (hD : Deep w a n cap gs) (hm : n ≤ 100000) (hu : Ids.Up (nos gs)) :
    Calls Try.prog 44 #[.slice a n cap, .int .i64 g] w fun e w' => e = .returned (.int .i64 (plR (Ids.has (nos gs) g) (Ids.place (nos gs) g))) ∧ w = w' := by
  have hlen := Lib.hid hD.len
  have hget := Lib.hid hD.get
  have hpg := Lib.hid (fun j (hj : j < gs.length) (e : gs[j].no = g) => place_get (nos gs) g hu j (by simpa [nos] using hj) (by simpa [nos] using e))
  have hno := Lib.hid (fun (h : ∀ j (hj : j < gs.length), gs[j].no ≠ g) => show Ids.has (nos gs) g = false by
    cases e : Ids.has (nos gs) g with
    | false => rfl
    | true =>
      rw [Ids.has_iff] at e
      obtain ⟨x, hx, e2⟩ := List.mem_map.1 e
      obtain ⟨j, hj, rfl⟩ := List.getElem_of_mem hx
      exact absurd e2 (h j hj))
  clear hD hu
  go_enter Try.func44, Try.ntmps44
  go_wp2_with fail
  go_loopg [5] n (fun gk vx wr => ∃ j : Nat, j + gk = n ∧ vx = .int .i64 j ∧ Hid (∀ i (hi : i < gs.length), i < j → gs[i].no ≠ g) ∧ w = wr)
  case atStart => exact ⟨0, Nat.zero_add _, rfl, Lib.hid (by intro i hi h; omega), rfl⟩
  case round =>
    obtain ⟨j, hj, rfl, hr, rfl⟩ := hrel
    by_cases hlt : j < n
    · have hjg : j < gs.length := by rw [hlen.out]; exact hlt
      obtain ⟨b, off, rfl, c0, -⟩ := hget.out j hjg
      have hp := hpg.out j hjg
      have hstep : gs[j].no ≠ g → ∀ i (hi : i < gs.length), i < j + 1 → gs[i].no ≠ g := by
        intro h i hi hij
        by_cases e : i = j
        · subst e; exact h
        · exact hr.out i hi (by omega)
      generalize gs[j].no = x at c0 hp hstep
      by_cases hx : x = g
      · obtain ⟨h1, h2⟩ := hp hx
        have e : (plR (Ids.has (nos gs) g) (Ids.place (nos gs) g)) = (j : Int) := by rw [h2, h1]; rfl
        replace e := Lib.hid e
        clear hp hstep h1 h2
        subst hx
        go_wp2_with fail
        go_ret
        exact ⟨by rw [e.out]; rfl, rfl⟩
      · have hxb : (x == g) = false := by rw [beq_eq_false_iff_ne]; exact hx
        replace hstep := Lib.hid (hstep hx)
        clear hp
        replace hx := Lib.hid hx
        go_wp2_with fail
        go_roundg (n - (j + 1))
        case measure => omega
        case rel => exact ⟨j + 1, by omega, by go_num, hstep, rfl⟩
    · obtain rfl : j = n := by omega
      have h2 := hno.out (fun i hi => hr.out i hi (by rw [← hlen.out]; exact hi))
      have e := Lib.hid (show (plR (Ids.has (nos gs) g) (Ids.place (nos gs) g)) = -1 by rw [h2]; rfl)
      clear h2
      go_wp2_with fail
      go_ret
      exact ⟨by rw [e.out]; rfl, rfl⟩
def findR (has : Bool) (p : Nat) (g id : Int) : Int × Int := if g < 0 ∨ 16 ≤ g ∨ id < 1 ∨ 1073741824 ≤ id then (0, 1) else if has then ((p : Int), 0) else (0, 6)
theorem rfind_any (a : Option Addr) (gs : List Gr) (n cap : Nat) (g id : Int) (w : World) (hD : Deep w a n cap gs) (hm : n ≤ 100000) (hu : Ids.Up (nos gs)) :
    Calls Try.prog 46 #[.slice a n cap, .int .i64 g, .int .i64 id] w fun e w' => e = .returned (.tuple #[.int .i64 (findR (Ids.has (nos gs) g) (Ids.place (nos gs) g) g id).1, .int .i64 (findR (Ids.has (nos gs) g) (Ids.place (nos gs) g) g id).2]) ∧ w = w' := by
  have cP := rgplace_any a gs n cap g w hD hm hu
  have hpl := place_le (nos gs) g
  generalize Ids.has (nos gs) g = hb at cP ⊢
  generalize Ids.place (nos gs) g = p at cP hpl ⊢
  unfold findR
  clear hD hu hpl
  by_cases hbad : g < 0 ∨ 16 ≤ g ∨ id < 1 ∨ 1073741824 ≤ id
  · rw [if_pos hbad]
    have key : g < 0 ∨ (decide (g < 0) = false ∧ 16 ≤ g) ∨ (decide (g < 0) = false ∧ decide (16 ≤ g) = false ∧ id < 1) ∨ (decide (g < 0) = false ∧ decide (16 ≤ g) = false ∧ decide (id < 1) = false ∧ 1073741824 ≤ id) := by
      by_cases k1 : g < 0
      · exact .inl k1
      · by_cases k2 : 16 ≤ g
        · exact .inr (.inl ⟨decide_eq_false k1, k2⟩)
        · by_cases k3 : id < 1
          · exact .inr (.inr (.inl ⟨decide_eq_false k1, decide_eq_false k2, k3⟩))
          · exact .inr (.inr (.inr ⟨decide_eq_false k1, decide_eq_false k2, decide_eq_false k3, by omega⟩))
    clear hbad cP
    rcases key with k1 | ⟨k1, k2⟩ | ⟨k1, k2, k3⟩ | ⟨k1, k2, k3, k4⟩
    all_goals
      go_enter Try.func46, Try.ntmps46
      go_wp2_with fail
      go_ret2
      exact ⟨rfl, rfl⟩
  · rw [if_neg hbad]
    have d1 : decide (g < 0) = false := decide_eq_false (by omega)
    have d2 : decide (16 ≤ g) = false := decide_eq_false (by omega)
    have d3 : decide (id < 1) = false := decide_eq_false (by omega)
    have d4 : decide (1073741824 ≤ id) = false := decide_eq_false (by omega)
    clear hbad
    cases hb with
    | true =>
      rw [show plR true p = (p : Int) from rfl] at cP
      replace cP := Lib.hid cP
      have h0 : (0 : Int) ≤ (p : Int) := by omega
      go_enter Try.func46, Try.ntmps46
      go_wp2_with (go_at_call 44; (with_reducible refine cP.out.mono ?_); rintro _ _ ⟨rfl, rfl⟩)
      go_ret2
      exact ⟨rfl, rfl⟩
    | false =>
      rw [show plR false p = -1 from rfl] at cP
      replace cP := Lib.hid cP
      go_enter Try.func46, Try.ntmps46
      go_wp2_with (go_at_call 44; (with_reducible refine cP.out.mono ?_); rintro _ _ ⟨rfl, rfl⟩)
      go_ret2
      exact ⟨rfl, rfl⟩
theorem rmembers_any (a : Option Addr) (gs : List Gr) (n cap : Nat) (g : Int) (w : World) (hD : Deep w a n cap gs) (hm : n ≤ 100000) (hu : Ids.Up (nos gs)) :
    Calls Try.prog 26 #[.slice a n cap, .int .i64 g] w fun e w' => (∃ A C, e = .returned (.slice A (membersK (keys gs) g).length C) ∧ Sl w A ((membersK (keys gs) g).map vi)) ∧ w = w' := by
  have cP := rgplace_any a gs n cap g w hD hm hu
  have hlt := Ids.has_lt (nos gs) g hu
  unfold membersK memAt
  rw [← nos_keys]
  generalize Ids.has (nos gs) g = hb at cP hlt ⊢
  generalize Ids.place (nos gs) g = p at cP hlt ⊢
  cases hb with
  | false =>
    rw [if_neg (by simp)]
    rw [show plR false p = -1 from rfl] at cP
    replace cP := Lib.hid cP
    clear hD hu hlt
    go_enter Try.func26, Try.ntmps26
    go_wp2_with (go_at_call 44; (with_reducible refine cP.out.mono ?_); rintro _ _ ⟨rfl, rfl⟩)
    go_ret
    exact ⟨⟨none, 0, rfl, Sl.nil _ _⟩, rfl⟩
  | true =>
    rw [if_pos rfl]
    rw [show plR true p = (p : Int) from rfl] at cP
    have hpn := hlt rfl
    have hpg : p < gs.length := by simpa [nos] using hpn
    obtain ⟨b, off, rfl, c0, c1⟩ := hD.get p hpg
    have hgM := hD.mem gs[p] (List.getElem_mem hpg)
    have hln := hD.len
    have hmem : ((keys gs).getD p (0, [])).2 = gs[p].mem := by
      unfold keys
      simp [List.getD_eq_getElem?_getD, hpg, Gr.key]
    rw [hmem]
    generalize gs[p] = gp0 at c0 c1 hgM
    have hpn2 : p < n := by omega
    have h0 : (0 : Int) ≤ (p : Int) := by omega
    replace cP := Lib.hid cP
    replace hgM := Lib.hid hgM
    clear hD hu hlt hpn hpg hmem c0 hln
    go_enter Try.func26, Try.ntmps26
    go_wp2_with (go_at_call 44; (with_reducible refine cP.out.mono ?_); rintro _ _ ⟨rfl, rfl⟩)
    go_ret
    exact ⟨⟨_, _, rfl, hgM.out.sl⟩, rfl⟩
theorem rgof_any (a : Option Addr) (gs : List Gr) (n cap : Nat) (id : Int) (w : World) (hD : Deep w a n cap gs) (hm : n ≤ 100000) (hv : ∀ g ∈ gs, 0 ≤ g.no ∧ g.no < 16) :
    Calls Try.prog 27 #[.slice a n cap, .int .i64 id] w fun e w' => e = .returned (.int .u32 (ofK (keys gs) id : Nat)) ∧ w = w' := by
  have hlen := Lib.hid hD.len
  have hget := Lib.hid hD.get
  have hM := Lib.hid (fun j (hj : j < gs.length) => hD.mem gs[j] (List.getElem_mem hj))
  have hvv := Lib.hid (fun j (hj : j < gs.length) => hv gs[j] (List.getElem_mem hj))
  clear hD hv
  go_enter Try.func27, Try.ntmps27
  go_wp2_with fail
  go_loopg [5, 6] n (fun gk vl vx wr => ∃ j s : Nat, j + gk = n ∧ vx = .int .i64 j ∧ vl = .int .u32 s ∧ s < 4294967296 ∧ Hid (ofK (keys gs) id = ofFrom id s ((keys gs).drop j)) ∧ w = wr)
  case atStart => exact ⟨0, 0, Nat.zero_add _, rfl, rfl, by omega, Lib.hid rfl, rfl⟩
  case round =>
    obtain ⟨j, s, hj, rfl, rfl, hs32, hr, rfl⟩ := hrel
    by_cases hlt : j < n
    · have hjg : j < gs.length := by rw [hlen.out]; exact hlt
      obtain ⟨b, off, rfl, c0, c1⟩ := hget.out j hjg
      have hMj := hM.out j hjg
      have hvj := hvv.out j hjg
      have hr2 := hr.out
      rw [gkeys_drop_cons hjg, Gr.key, ofFrom_cons] at hr2
      generalize gs[j] = x at c0 c1 hMj hr2 hvj
      have cH := rhas_any x.a x.mem x.mem.length x.c id w hMj.sl rfl (Nat.le_trans hMj.le hMj.cm)
      obtain ⟨xn, xa, xc, xm⟩ := x
      simp only at *
      obtain ⟨q, rfl⟩ := Int.eq_ofNat_of_zero_le hvj.1
      have hq : q < 32 := by omega
      rw [Int.toNat_natCast] at hr2
      have cW := Lib.hid (fun W : World => rwith_any s q W hq hs32)
      have hor := or_lt s q hs32 hq
      generalize hml3 : xm.length = m3 at *
      clear hml3 hMj hvj
      generalize Ids.has xm id = cx at cH hr2
      generalize s ||| 2 ^ q = s2 at *
      replace cH := Lib.hid cH
      cases cx with
      | false =>
        replace hr2 := Lib.hid hr2
        go_wp2_with (go_at_call 11; (with_reducible refine cH.out.mono ?_); rintro _ _ ⟨rfl, rfl⟩)
        go_roundg (n - (j + 1))
        case measure => omega
        case rel => exact ⟨j + 1, s, by omega, by go_num, rfl, hs32, Lib.hid (by rw [hr2.out]; rfl), rfl⟩
      | true =>
        replace hr2 := Lib.hid hr2
        go_wp2_with (first | (go_at_call 11; (with_reducible refine cH.out.mono ?_); rintro _ _ ⟨rfl, rfl⟩) | (go_at_call 16; (with_reducible refine (cW.out _).mono ?_); rintro _ _ ⟨rfl, rfl⟩))
        go_roundg (n - (j + 1))
        case measure => omega
        case rel => exact ⟨j + 1, s2, by omega, by go_num, rfl, hor, Lib.hid (by rw [hr2.out]; rfl), rfl⟩
    · obtain rfl : j = n := by omega
      have hr2 := hr.out
      rw [List.drop_of_length_le (by simp [keys, hlen.out])] at hr2
      replace hr2 := Lib.hid hr2
      go_wp2_with fail
      go_ret
      exact ⟨by rw [hr2.out]; rfl, rfl⟩
def bigK (ks : List Key) : Bool := decide (40 < ks.length) || ks.any fun k => decide (100 < k.2.length)
theorem large_any (a : Option Addr) (gs : List Gr) (n cap : Nat) (w : World) (hD : Deep w a n cap gs) :
    Calls Try.prog 6 #[.slice a n cap] w fun e w' => e = .returned (.bool (bigK (keys gs))) ∧ w = w' := by
  have hlen := hD.len
  have hkl : (keys gs).length = n := by simp [keys, hlen]
  have hnm : n ≤ 9223372036854775807 := by have := hD.le; have := hD.cm; unfold maxLen at this; omega
  unfold bigK
  rw [hkl]
  by_cases hbig : 40 < n
  · rw [decide_eq_true hbig, Bool.true_or]
    clear hD hlen hkl
    go_enter Try.func6, Try.ntmps6
    go_wp2_with fail
    go_ret
    exact ⟨rfl, rfl⟩
  · rw [decide_eq_false hbig, Bool.false_or]
    have hb2 : n ≤ 40 := by omega
    have hget := Lib.hid hD.get
    have hM := Lib.hid (fun j (hj : j < gs.length) => hD.mem gs[j] (List.getElem_mem hj))
    replace hlen := Lib.hid hlen
    clear hD hbig hkl
    go_enter Try.func6, Try.ntmps6
    go_wp2_with fail
    go_loopg [3] n (fun gk vx wr => ∃ j : Nat, j + gk = n ∧ vx = .int .i64 j ∧ Hid ((keys gs).any (fun k => decide (100 < k.2.length)) = ((keys gs).drop j).any (fun k => decide (100 < k.2.length))) ∧ w = wr)
    case atStart => exact ⟨0, Nat.zero_add _, rfl, Lib.hid rfl, rfl⟩
    case round =>
      obtain ⟨j, hj, rfl, hr, rfl⟩ := hrel
      by_cases hlt : j < n
      · have hjg : j < gs.length := by rw [hlen.out]; exact hlt
        obtain ⟨b, off, rfl, c0, c1⟩ := hget.out j hjg
        have hMj := hM.out j hjg
        have hr2 := hr.out
        rw [gkeys_drop_cons hjg, List.any_cons] at hr2
        have hml : gs[j].mem.length ≤ 9223372036854775807 := by have := hMj.le; have := hMj.cm; unfold maxLen at this; omega
        have hkey : (gs[j].key).2.length = gs[j].mem.length := rfl
        rw [hkey] at hr2
        generalize gs[j] = x at c0 c1 hMj hr2 hml
        obtain ⟨xn, xa, xc, xm⟩ := x
        simp only at c0 c1 hr2 hml
        generalize xm.length = m3 at c1 hr2 hml
        clear hMj hkey
        by_cases h1 : 100 < m3
        · rw [decide_eq_true h1, Bool.true_or] at hr2
          replace hr2 := Lib.hid hr2
          go_wp2_with fail
          go_ret
          exact ⟨by rw [hr2.out]; rfl, rfl⟩
        · rw [decide_eq_false h1, Bool.false_or] at hr2
          replace hr2 := Lib.hid hr2
          have h2 : m3 ≤ 100 := by omega
          clear h1
          go_wp2_with fail
          go_roundg (n - (j + 1))
          case measure => omega
          case rel => exact ⟨j + 1, by omega, by go_num, hr2, rfl⟩
      · obtain rfl : j = n := by omega
        have hr2 := hr.out
        rw [List.drop_of_length_le (by simp [keys, hlen.out])] at hr2
        replace hr2 := Lib.hid hr2
        go_wp2_with fail
        go_ret
        exact ⟨by rw [hr2.out]; rfl, rfl⟩
theorem rgsame_any (a b : Option Addr) (gs hs : List Gr) (n k cap cap2 : Nat) (w : World) (hD : Deep w a n cap gs) (hE : Deep w b k cap2 hs) :
    Calls Try.prog 15 #[.slice a n cap, .slice b k cap2] w fun e w' => e = .returned (.bool (decide (keys gs = keys hs))) ∧ Below w.heap.size w w' := by
  have hS := St.start w
  have hm : n ≤ 9223372036854775807 := by have := hD.le; have := hD.cm; unfold maxLen at this; omega
  have hm2 : k ≤ 9223372036854775807 := by have := hE.le; have := hE.cm; unfold maxLen at this; omega
  by_cases hlen : n = k
  · subst hlen
    have hl1 := Lib.hid hD.len
    have hl2 := Lib.hid hE.len
    replace hD := Lib.hid hD
    replace hE := Lib.hid hE
    go_enter Try.func15, Try.ntmps15
    go_wp2_with fail
    go_loopg [5] n (fun gk vi wr => ∃ j : Nat, j + gk = n ∧ vi = .int .i64 j ∧ Hid ((keys gs).take j = (keys hs).take j) ∧ St w [] [] wr)
    case atStart => exact ⟨0, Nat.zero_add _, rfl, Lib.hid (by simp), hS⟩
    case round =>
      clear hS
      obtain ⟨j, hj, rfl, hr, hS⟩ := hrel
      by_cases hlt : j < n
      · have hj1 : j < gs.length := by rw [hl1.out]; exact hlt
        have hj2 : j < hs.length := by rw [hl2.out]; exact hlt
        obtain ⟨b1, o1, rfl, c0, c1⟩ := hD.out.get j hj1
        obtain ⟨b2, o2, rfl, d0, d1⟩ := hE.out.get j hj2
        have hMx := hD.out.mem gs[j] (List.getElem_mem hj1)
        have hMy := hE.out.mem hs[j] (List.getElem_mem hj2)
        have t1 : (keys gs).take (j + 1) = (keys gs).take j ++ [gs[j].key] := by rw [List.take_succ_eq_append_getElem (by simpa [keys] using hj1)]; simp [keys]
        have t2 : (keys hs).take (j + 1) = (keys hs).take j ++ [hs[j].key] := by rw [List.take_succ_eq_append_getElem (by simpa [keys] using hj2)]; simp [keys]
        have t3 : keys gs = keys hs → gs[j].key = hs[j].key := by
          intro e
          have := congrArg (fun l => l[j]?) e
          simpa [keys, hj1, hj2] using this
        generalize gs[j] = x at *
        generalize hs[j] = y at *
        have hsx := Lib.hid (fun W (h : St w [] [] W) => h.sl hMx.sl)
        have hsy := Lib.hid (fun W (h : St w [] [] W) => h.sl hMy.sl)
        have cI := fun W h1 h2 => ints_any x.a y.a x.mem y.mem _ _ x.c y.c W h1 h2 rfl rfl (Nat.le_trans hMx.le hMx.cm) (Nat.le_trans hMy.le hMy.cm)
        have k0 := hS.kold0 c0
        have k1 := hS.kold0 c1
        have k2 := hS.kold0 d0
        have k3 := hS.kold0 d1
        clear c0 c1 d0 d1 hMx hMy
        obtain ⟨xn, xa, xc, xm⟩ := x
        obtain ⟨yn, ya, yc, ym⟩ := y
        simp only [Gr.key] at *
        replace t1 := Lib.hid t1
        replace t2 := Lib.hid t2
        have t4 := Lib.hid (fun e => (Prod.mk.injEq _ _ _ _).mp (t3 e))
        clear t3
        generalize xm.length = l1 at *
        generalize ym.length = l2 at *
        by_cases h1 : xn = yn
        · subst h1
          by_cases h2 : xm = ym
          · subst h2
            rw [decide_eq_true rfl] at cI
            replace cI := Lib.hid cI
            have hbb : (xn != xn) = false := by simp
            go_wp2_with fail
            refine mixs_begin (by kernel_rfl) hS ?_
            clear hS
            intro w2 hS
            refine tk 0 ?_
            refine tk 1 ?_
            refine tk 2 ?_
            refine tk 3 ?_
            refine tk 4 ?_
            refine tk 5 ?_
            refine tk 6 ?_
            refine tk 7 ?_
            refine tk 8 ?_
            refine tk 9 ?_
            refine tk 10 ?_
            refine tk 11 ?_
            refine tk 12 ?_
            refine tk 13 ?_
            refine tk 14 ?_
            refine tk 15 ?_
            refine tk 16 ?_
            refine tk 17 ?_
            refine tk 18 ?_
            refine tk 19 ?_
            refine tk 20 ?_
            refine tk 21 ?_
            refine mixs_one 22 (by kernel_rfl) rfl (fun K hK => ?_)
            go_simp
            ( go_at_call 25; (with_reducible refine (cI.out _ (hsx.out _ hS.empty) (hsy.out _ hS.empty)).mono ?_); rintro _ w3 ⟨rfl, hb3⟩; have hS1 := hS.keepB hb3; clear hb3 hS; have hS := hS1; clear hS1 )
            try clear hC
            refine cl hK (fun hC => ?_)
            clear hK K
            refine tk 23 ?_
            refine tk 24 ?_
            refine wpAnyH_done (by kernel_rfl) ?_ _
            clear k0 k1 k2 k3
            go_wp2_with fail
            go_roundg (n - (j + 1))
            case measure => omega
            case rel => exact ⟨j + 1, by omega, by go_num, Lib.hid (by rw [t1.out, t2.out, hr.out]), hS⟩
          · rw [decide_eq_false h2] at cI
            replace cI := Lib.hid cI
            replace h2 := Lib.hid h2
            have hbb : (xn != xn) = false := by simp
            go_wp2_with fail
            refine mixs_begin (by kernel_rfl) hS ?_
            clear hS
            intro w2 hS
            refine tk 0 ?_
            refine tk 1 ?_
            refine tk 2 ?_
            refine tk 3 ?_
            refine tk 4 ?_
            refine tk 5 ?_
            refine tk 6 ?_
            refine tk 7 ?_
            refine tk 8 ?_
            refine tk 9 ?_
            refine tk 10 ?_
            refine tk 11 ?_
            refine tk 12 ?_
            refine tk 13 ?_
            refine tk 14 ?_
            refine tk 15 ?_
            refine tk 16 ?_
            refine tk 17 ?_
            refine tk 18 ?_
            refine tk 19 ?_
            refine tk 20 ?_
            refine tk 21 ?_
            refine mixs_one 22 (by kernel_rfl) rfl (fun K hK => ?_)
            go_simp
            ( go_at_call 25; (with_reducible refine (cI.out _ (hsx.out _ hS.empty) (hsy.out _ hS.empty)).mono ?_); rintro _ w3 ⟨rfl, hb3⟩; have hS1 := hS.keepB hb3; clear hb3 hS; have hS := hS1; clear hS1 )
            try clear hC
            refine cl hK (fun hC => ?_)
            clear hK K
            refine tk 23 ?_
            refine tk 24 ?_
            refine wpAnyH_done (by kernel_rfl) ?_ _
            clear k0 k1 k2 k3
            go_wp2_with fail
            go_ret
            have : decide (keys gs = keys hs) = false := by rw [decide_eq_false_iff_not]; intro e; exact h2.out (t4.out e).2
            exact ⟨by rw [this]; rfl, hS.below⟩
        · have hbb : (xn != yn) = true := by simpa using h1
          clear cI
          replace h1 := Lib.hid h1
          go_wp2_with fail
          refine mixs_begin (by kernel_rfl) hS ?_
          clear hS
          intro w2 hS
          refine tk 0 ?_
          refine tk 1 ?_
          refine tk 2 ?_
          refine tk 3 ?_
          refine tk 4 ?_
          refine tk 5 ?_
          refine tk 6 ?_
          refine tk 7 ?_
          refine tk 8 ?_
          refine tk 9 ?_
          refine tk 10 ?_
          refine tk 11 ?_
          refine sk 12 ?_
          refine sk 13 ?_
          refine sk 14 ?_
          refine sk 15 ?_
          refine sk 16 ?_
          refine sk 17 ?_
          refine sk 18 ?_
          refine sk 19 ?_
          refine sk 20 ?_
          refine sk 21 ?_
          refine sk 22 ?_
          refine sk 23 ?_
          refine tk 24 ?_
          refine wpAnyH_done (by kernel_rfl) ?_ _
          clear k0 k1 k2 k3
          go_wp2_with fail
          go_ret
          have : decide (keys gs = keys hs) = false := by rw [decide_eq_false_iff_not]; intro e; exact h1.out (t4.out e).1
          exact ⟨by rw [this]; rfl, hS.below⟩
      · obtain rfl : j = n := by omega
        go_wp2_with fail
        go_ret
        have e1 := hr.out
        rw [List.take_of_length_le (by simp [keys, hl1.out]), List.take_of_length_le (by simp [keys, hl2.out])] at e1
        exact ⟨by rw [decide_eq_true e1]; rfl, hS.below⟩
  · have e : decide (keys gs = keys hs) = false := by
      rw [decide_eq_false_iff_not]; intro e
      have := congrArg List.length e
      simp only [keys, List.length_map] at this
      rw [hD.len, hE.len] at this
      exact hlen this
    have hb : ((n : Int) != (k : Int)) = true := by simp; omega
    rw [e]
    clear hlen hD hE e
    go_enter Try.func15, Try.ntmps15
    go_wp2_with fail
    go_ret
    exact ⟨rfl, hS.below⟩
end Go.Proofs.Ytkbekagmfbgefaa
end
