import Derived.Test.YtneolmnpebiifaaGreatDoorM42
import Derived.Test.YtneolmnpebiifaaGreatDoorM44
set_option linter.unusedVariables false
set_option linter.unusedSimpArgs false
set_option maxRecDepth 100000
section
namespace Go.Proofs.YtneolmnpebiifaaGreatDoor
open Go.RowKit Go.Ofp
set_option maxHeartbeats 8000000
theorem largeBk_no {b : BkS} (h : largeBk b = false) : b.sh.m.length ≤ 60 ∧ b.sh.dead.length ≤ 60 ∧ bigK b.ks = false := by
 unfold largeBk at h
 simp only [Bool.or_eq_false_iff, decide_eq_false_iff_not] at h
 exact ⟨by omega, by omega, h.2.2.1⟩
theorem loads20_law (b x : BkS) (r q : RV) (a : Option Addr) (n c : Nat) (l : List Ed) (w : World) (hb : r.at b w) (hx : q.at x w) (hl : Lst edRow EdIn w a n c l) (ht : Tab w) :
 Calls Tryz.prog 6 #[.agg (bdRow b r).toArray, .agg (bdRow x q).toArray, .slice a n c] w fun e w' => e = .returned (.bool true) ∧ Below w.heap.size w w' := by
 have hS := St.start w
 have er := elem_rb
 rw [bdRow_eq, bdRow_eq]
 have cA := Lib.hid fun W h => awake20_any W h
 have cD := fun W (h : Below w.heap.size w W) => large20_any b r W (hb.below h)
 have cX := fun W (h : Below w.heap.size w W) => large20_any x q W (hx.below h)
 have cL := fun W (h : Below w.heap.size w W) => long20_any a n c l W (hl.below h)
 simp only [bdRow_eq] at cD cX
 obtain ⟨ld, hld⟩ : ∃ c, largeBk b = c := ⟨_, rfl⟩
 obtain ⟨lx, hlx⟩ : ∃ c, largeBk x = c := ⟨_, rfl⟩
 obtain ⟨lg, hlg⟩ : ∃ c, longE l = c := ⟨_, rfl⟩
 rw [hld] at cD
 rw [hlx] at cX
 rw [hlg] at cL
 replace cD := Lib.hid cD
 replace cX := Lib.hid cX
 replace cL := Lib.hid cL
 replace ht := Lib.hid ht
 cases ld
 case true =>
  clear hb hx hl hld hlx hlg
  go_enter Tryz.func6, Tryz.ntmps6
  go_wp2_with (first | (with_reducible refine wpList_box_st (L := []) hS rfl rfl rfl ?_; clear hS; intro gd w1 hS) | (with_reducible refine wpList_box_st (L := [_]) hS rfl rfl rfl ?_; clear hS; intro gx w1 hS) | (go_at_call 28; (with_reducible refine (cD.out _ hS.below).mono ?_); rintro _ w3 ⟨rfl, hk9⟩; replace hS := hS.keepB hk9; clear hk9) | ((with_reducible refine wpList_gloadrow_st (t := 31) (n := 5) (j := 0) (vs := [.int .i64 b.seq, .int .i64 b.sh.next, .slice r.ca b.sh.m.length r.cc, .slice r.da b.sh.dead.length r.dc, .slice r.ga r.grs.length r.gc]) 1 hS rfl (by with_unfolding_all rfl) rfl rfl ?_ (by kernel_rfl) rfl rfl ?_); focus (simp [rowB, go_sem]; done)) | (go_at_call 8; (with_reducible refine (cA.out _ (ht.out.fr hS.fr (by simp))).mono ?_); rintro _ w3 ⟨rfl, hk9⟩; replace hS := hS.keepB hk9; clear hk9))
  go_ret
  exact ⟨rfl, hS.below⟩
 cases lx
 case true =>
  clear hb hx hl hld hlx hlg
  go_enter Tryz.func6, Tryz.ntmps6
  go_wp2_with (first | (with_reducible refine wpList_box_st (L := []) hS rfl rfl rfl ?_; clear hS; intro gd w1 hS) | (with_reducible refine wpList_box_st (L := [_]) hS rfl rfl rfl ?_; clear hS; intro gx w1 hS) | (go_at_call 28; (with_reducible refine (cD.out _ hS.below).mono ?_); rintro _ w3 ⟨rfl, hk9⟩; replace hS := hS.keepB hk9; clear hk9) | (go_at_call 28; (with_reducible refine (cX.out _ hS.below).mono ?_); rintro _ w3 ⟨rfl, hk9⟩; replace hS := hS.keepB hk9; clear hk9) | ((with_reducible refine wpList_gloadrow_st (t := 31) (n := 5) (j := 0) (vs := [.int .i64 b.seq, .int .i64 b.sh.next, .slice r.ca b.sh.m.length r.cc, .slice r.da b.sh.dead.length r.dc, .slice r.ga r.grs.length r.gc]) 1 hS rfl (by with_unfolding_all rfl) rfl rfl ?_ (by kernel_rfl) rfl rfl ?_); focus (simp [rowB, go_sem]; done)) | ((with_reducible refine wpList_gloadrow_st (t := 31) (n := 5) (j := 0) (vs := [.int .i64 x.seq, .int .i64 x.sh.next, .slice q.ca x.sh.m.length q.cc, .slice q.da x.sh.dead.length q.dc, .slice q.ga q.grs.length q.gc]) 0 hS rfl (by with_unfolding_all rfl) rfl rfl ?_ (by kernel_rfl) rfl rfl ?_); focus (simp [rowB, go_sem]; done)) | (go_at_call 8; (with_reducible refine (cA.out _ (ht.out.fr hS.fr (by simp))).mono ?_); rintro _ w3 ⟨rfl, hk9⟩; replace hS := hS.keepB hk9; clear hk9))
  go_ret
  exact ⟨rfl, hS.below⟩
 cases lg
 case true =>
  clear hb hx hl hld hlx hlg
  go_enter Tryz.func6, Tryz.ntmps6
  go_wp2_with (first | (with_reducible refine wpList_box_st (L := []) hS rfl rfl rfl ?_; clear hS; intro gd w1 hS) | (with_reducible refine wpList_box_st (L := [_]) hS rfl rfl rfl ?_; clear hS; intro gx w1 hS) | (go_at_call 7; (with_reducible refine (cL.out _ hS.below).mono ?_); rintro _ w3 ⟨rfl, hk9⟩; replace hS := hS.keepB hk9; clear hk9) | (go_at_call 28; (with_reducible refine (cD.out _ hS.below).mono ?_); rintro _ w3 ⟨rfl, hk9⟩; replace hS := hS.keepB hk9; clear hk9) | (go_at_call 28; (with_reducible refine (cX.out _ hS.below).mono ?_); rintro _ w3 ⟨rfl, hk9⟩; replace hS := hS.keepB hk9; clear hk9) | ((with_reducible refine wpList_gloadrow_st (t := 31) (n := 5) (j := 0) (vs := [.int .i64 b.seq, .int .i64 b.sh.next, .slice r.ca b.sh.m.length r.cc, .slice r.da b.sh.dead.length r.dc, .slice r.ga r.grs.length r.gc]) 1 hS rfl (by with_unfolding_all rfl) rfl rfl ?_ (by kernel_rfl) rfl rfl ?_); focus (simp [rowB, go_sem]; done)) | ((with_reducible refine wpList_gloadrow_st (t := 31) (n := 5) (j := 0) (vs := [.int .i64 x.seq, .int .i64 x.sh.next, .slice q.ca x.sh.m.length q.cc, .slice q.da x.sh.dead.length q.dc, .slice q.ga q.grs.length q.gc]) 0 hS rfl (by with_unfolding_all rfl) rfl rfl ?_ (by kernel_rfl) rfl rfl ?_); focus (simp [rowB, go_sem]; done)) | (go_at_call 8; (with_reducible refine (cA.out _ (ht.out.fr hS.fr (by simp))).mono ?_); rintro _ w3 ⟨rfl, hk9⟩; replace hS := hS.keepB hk9; clear hk9))
  go_ret
  exact ⟨rfl, hS.below⟩
 obtain ⟨b1, b2, b3⟩ := largeBk_no hld
 obtain ⟨x1, x2, -⟩ := largeBk_no hlx
 obtain ⟨k1, k2⟩ := small_of b3
 have hn120 := longE_len hlg
 rw [hl.len] at hn120
 have hlen := Lib.hid hl.len
 have hlens := Lib.hid (show ∀ x ∈ l, (edRow x).length = 29 from fun x hx => edRow_len x (hl.mem x hx).p.len)
 have hbase := Lib.hid (hl.base (by decide) hlens.out)
 have hmem := Lib.hid hl.mem
 replace hl := Lib.hid hl
 have cOf := Lib.hid fun W => rbof_any b r W
 have cR := fun W (h : Below w.heap.size w W) => rbright_any b r W (hb.below h) (by omega) (fun k hk => by have := k2 k hk; omega)
 have cLd := fun W (h : Below w.heap.size w W) => bload_any b r W (hb.below h) (by omega) (fun k hk => by have := k2 k hk; omega)
 have cB1 := fun W (h : Below w.heap.size w W) => bksame_any b x r q W (hb.below h) (hx.below h) ⟨by omega, by omega⟩ ⟨by omega, by omega⟩
 have cR1 := fun W (h : Below w.heap.size w W) => rbsame_any b x r q W (hb.below h) (hx.below h) ⟨by omega, by omega⟩ ⟨by omega, by omega⟩
 have cB2 := fun W (h : Below w.heap.size w W) => bksame_any b b r r W (hb.below h) (hb.below h) ⟨by omega, by omega⟩ ⟨by omega, by omega⟩
 rw [eqB_self] at cB2
 simp only [bdRow_eq] at cR cLd cB1 cR1 cB2
 obtain ⟨EB, hEB⟩ : ∃ c, eqB b x = c := ⟨_, rfl⟩
 rw [hEB] at cB1 cR1
 replace cB1 := Lib.hid cB1
 replace cR1 := Lib.hid cR1
 replace cB2 := Lib.hid cB2
 have qE : (EB != EB) = false := by simp
 have hok0 : b.right = true → BkOk 100 b := fun h => right_bk h (fun c hc => hb.lc.mem c hc) 100 k2
 have hOr := Lib.hid (show ∀ L, Ovr w (r.at b) L from fun L A B W hW => hb.below hW.below)
 clear hEB hld hlx hlg k2 b3 hb hx
 cases hRB : b.right
 case false =>
  have cLf := Lib.hid fun W (h : Below w.heap.size w W) => (cLd W h).mono (show ∀ e w', Loads20 b W e w' → e = .returned (.tuple #[.pointer none, .bool false]) ∧ Below W.heap.size W w' from by
   rintro e w' (⟨h1, -⟩ | ⟨-, h2, h3⟩)
   · rw [hRB] at h1; cases h1
   · exact ⟨h2, h3⟩)
  rw [hRB] at cR
  replace cR := Lib.hid cR
  clear hRB cLd hok0
  go_enter Tryz.func6, Tryz.ntmps6
  go_upto_region 4 with (first | (with_reducible refine wpList_box_st (L := []) hS rfl rfl rfl ?_; clear hS; intro gd w1 hS) | (with_reducible refine wpList_box_st (L := [_]) hS rfl rfl rfl ?_; clear hS; intro gx w1 hS) | (go_at_call 7; (with_reducible refine (cL.out _ hS.below).mono ?_); rintro _ w3 ⟨rfl, hk9⟩; replace hS := hS.keepB hk9; clear hk9) | (go_at_call 28; (with_reducible refine (cD.out _ hS.below).mono ?_); rintro _ w3 ⟨rfl, hk9⟩; replace hS := hS.keepB hk9; clear hk9) | (go_at_call 28; (with_reducible refine (cX.out _ hS.below).mono ?_); rintro _ w3 ⟨rfl, hk9⟩; replace hS := hS.keepB hk9; clear hk9) | ((with_reducible refine wpList_gloadrow_st (t := 31) (n := 5) (j := 0) (vs := [.int .i64 b.seq, .int .i64 b.sh.next, .slice r.ca b.sh.m.length r.cc, .slice r.da b.sh.dead.length r.dc, .slice r.ga r.grs.length r.gc]) 1 hS rfl (by with_unfolding_all rfl) rfl rfl ?_ (by kernel_rfl) rfl rfl ?_); focus (simp [rowB, go_sem]; done)) | ((with_reducible refine wpList_gloadrow_st (t := 31) (n := 5) (j := 0) (vs := [.int .i64 x.seq, .int .i64 x.sh.next, .slice q.ca x.sh.m.length q.cc, .slice q.da x.sh.dead.length q.dc, .slice q.ga q.grs.length q.gc]) 0 hS rfl (by with_unfolding_all rfl) rfl rfl ?_ (by kernel_rfl) rfl rfl ?_); focus (simp [rowB, go_sem]; done)) | (go_at_call 26; (with_reducible refine (cLf.out _ hS.below).mono ?_); rintro _ w3 ⟨rfl, hk9⟩; replace hS := hS.keepB hk9; clear hk9))
  have k3 := hS.krow (P := Tryz.prog) (j := 0) 1 rfl (t := 31) (by kernel_rfl) (n := 5) (by kernel_rfl) (vs := [.int .i64 b.seq, .int .i64 b.sh.next, .slice r.ca b.sh.m.length r.cc, .slice r.da b.sh.dead.length r.dc, .slice r.ga r.grs.length r.gc]) rfl rfl
  have k4 := hS.krow (P := Tryz.prog) (j := 0) 0 rfl (t := 31) (by kernel_rfl) (n := 5) (by kernel_rfl) (vs := [.int .i64 x.seq, .int .i64 x.sh.next, .slice q.ca x.sh.m.length q.cc, .slice q.da x.sh.dead.length q.dc, .slice q.ga q.grs.length q.gc]) rfl rfl
  refine mixs_begin (by kernel_rfl) hS ?_
  clear hS
  intro w5 hS
  refine tk 0 ?_
  refine tkr 1 k3 ?_
  refine mixs_one 2 (by kernel_rfl) rfl (fun K hK => ?_)
  go_simp
  (go_at_call 29; (with_reducible refine (cR.out _ hS.below).mono ?_); rintro _ w3 ⟨rfl, hk9⟩; replace hS := hS.keepB hk9; clear hk9)
  try clear hC
  refine cl hK (fun hC => ?_)
  clear hK K
  refine tk 3 ?_
  refine tk 4 ?_
  refine tk 5 ?_
  refine tk 6 ?_
  refine tk 7 ?_
  refine tk 8 ?_
  refine tk 9 ?_
  refine tk 10 ?_
  refine tkr 11 k3 ?_
  refine tkr 12 k4 ?_
  refine tkr 14 k3 ?_
  refine tkr 15 k4 ?_
  refine mixs_one 13 (by kernel_rfl) rfl (fun K hK => ?_)
  go_simp
  (go_at_call 30; (with_reducible refine (cB1.out _ hS.below).mono ?_); rintro _ w3 ⟨rfl, hk9⟩; replace hS := hS.keepB hk9; clear hk9)
  try clear hC
  refine cl hK (fun hC => ?_)
  clear hK K
  refine mixs_one 16 (by kernel_rfl) rfl (fun K hK => ?_)
  go_simp
  (go_at_call 12; (with_reducible refine (cR1.out _ hS.below).mono ?_); rintro _ w3 ⟨rfl, hk9⟩; replace hS := hS.keepB hk9; clear hk9)
  try clear hC
  refine cl hK (fun hC => ?_)
  clear hK K
  refine tk 17 ?_
  refine tk 18 ?_
  refine tk 19 ?_
  refine tkr 20 k3 ?_
  refine tkr 21 k3 ?_
  refine mixs_one 22 (by kernel_rfl) rfl (fun K hK => ?_)
  go_simp
  (go_at_call 30; (with_reducible refine (cB2.out _ hS.below).mono ?_); rintro _ w3 ⟨rfl, hk9⟩; replace hS := hS.keepB hk9; clear hk9)
  try clear hC
  refine cl hK (fun hC => ?_)
  clear hK K
  refine tk 23 ?_
  refine tk 24 ?_
  refine wpAnyH_done (by kernel_rfl) ?_ _
  all_goals
   clear k3 k4
   go_wp2_with (first | ((with_reducible refine wpList_gloadrow_st (t := 31) (n := 5) (j := 0) (vs := [.int .i64 b.seq, .int .i64 b.sh.next, .slice r.ca b.sh.m.length r.cc, .slice r.da b.sh.dead.length r.dc, .slice r.ga r.grs.length r.gc]) 1 hS rfl (by with_unfolding_all rfl) rfl rfl ?_ (by kernel_rfl) rfl rfl ?_); focus (simp [rowB, go_sem]; done)) | (go_at_call 31; (with_reducible refine (cOf.out _).mono ?_); rintro _ w3 ⟨rfl, hk9⟩; replace hS := hS.keepB hk9; clear hk9) | (with_reducible refine wpList_alloc_st (t := 53) hS rfl rfl er ?_; clear hS; intro gB w1 hS) | ((with_reducible refine wpList_storerow_st (t := 53) (n := 5) (vs := [.int .i64 b.seq, .int .i64 b.sh.next, .slice r.ca b.sh.m.length r.cc, .slice r.da b.sh.dead.length r.dc, .slice r.ga r.grs.length r.gc]) 0 hS rfl rfl rfl rfl (by kernel_rfl) rfl rfl rfl (by kernel_rfl) ?_); clear hS; intro w1 hS; try simp only [List.set_cons_zero, List.set_cons_succ, List.setIfInBounds_toArray, List.take_succ_cons, List.take_zero, List.drop_succ_cons, List.drop_zero, List.nil_append, List.cons_append, List.append_nil, List.drop_nil, List.take_nil, List.length_cons, List.length_nil, Nat.zero_add, Nat.add_zero, Nat.reduceAdd] at hS))
   go_loopg [10] 0 (fun gk vx wr => gk = 0 ∧ vx = .int .i64 0 ∧ St w [] [Ch.blk gB 53 #[.int .i64 b.seq, .int .i64 b.sh.next, .slice r.ca b.sh.m.length r.cc, .slice r.da b.sh.dead.length r.dc, .slice r.ga r.grs.length r.gc], Ch.blk gx 31 #[.int .i64 x.seq, .int .i64 x.sh.next, .slice q.ca x.sh.m.length q.cc, .slice q.da x.sh.dead.length q.dc, .slice q.ga q.grs.length q.gc], Ch.blk gd 31 #[.int .i64 b.seq, .int .i64 b.sh.next, .slice r.ca b.sh.m.length r.cc, .slice r.da b.sh.dead.length r.dc, .slice r.ga r.grs.length r.gc]] wr)
   case atStart => exact ⟨rfl, rfl, hS⟩
   case round =>
    clear hS
    obtain ⟨hk, rfl, hS⟩ := hrel
    by_cases h0 : 0 < n
    · have d0 : decide ((0 : Int) < (n : Int)) = true := decide_eq_true (by omega)
      have d0b : decide (0 < n) = true := decide_eq_true h0
      clear h0
      go_wp2_with ((go_at_call 8; (with_reducible refine (cA.out _ (ht.out.fr hS.fr (by simp))).mono ?_); rintro _ w3 ⟨rfl, hk9⟩; replace hS := hS.keepB hk9; clear hk9))
      go_ret
      exact ⟨rfl, hS.below⟩
    · have d0 : decide ((0 : Int) < (n : Int)) = false := decide_eq_false (by omega)
      have d0b : decide (0 < n) = false := decide_eq_false h0
      clear h0
      go_wp2_with ((go_at_call 8; (with_reducible refine (cA.out _ (ht.out.fr hS.fr (by simp))).mono ?_); rintro _ w3 ⟨rfl, hk9⟩; replace hS := hS.keepB hk9; clear hk9))
      go_ret
      exact ⟨rfl, hS.below⟩
 have hok := Lib.hid (hok0 hRB)
 have cLf := Lib.hid fun W (h : Below w.heap.size w W) => (cLd W h).mono (show ∀ e w', Loads20 b W e w' → ∃ g gs gm p L, e = .returned (.tuple #[.pointer (some ⟨g, 0, none⟩), .bool true]) ∧ St W [] (bkV g gs gm b p ++ L) w' ∧ Stp (fun _ => True) (p.at b) L from by
  rintro e w' (⟨-, h1⟩ | ⟨h1, -⟩)
  · exact h1
  · rw [hRB] at h1; cases h1)
 rw [hRB] at cR
 replace cR := Lib.hid cR
 clear hRB cLd hok0
 go_enter Tryz.func6, Tryz.ntmps6
 go_upto_region 4 with (first | (with_reducible refine wpList_box_st (L := []) hS rfl rfl rfl ?_; clear hS; intro gd w1 hS) | (with_reducible refine wpList_box_st (L := [_]) hS rfl rfl rfl ?_; clear hS; intro gx w1 hS) | (go_at_call 7; (with_reducible refine (cL.out _ hS.below).mono ?_); rintro _ w3 ⟨rfl, hk9⟩; replace hS := hS.keepB hk9; clear hk9) | (go_at_call 28; (with_reducible refine (cD.out _ hS.below).mono ?_); rintro _ w3 ⟨rfl, hk9⟩; replace hS := hS.keepB hk9; clear hk9) | (go_at_call 28; (with_reducible refine (cX.out _ hS.below).mono ?_); rintro _ w3 ⟨rfl, hk9⟩; replace hS := hS.keepB hk9; clear hk9) | ((with_reducible refine wpList_gloadrow_st (t := 31) (n := 5) (j := 0) (vs := [.int .i64 b.seq, .int .i64 b.sh.next, .slice r.ca b.sh.m.length r.cc, .slice r.da b.sh.dead.length r.dc, .slice r.ga r.grs.length r.gc]) 1 hS rfl (by with_unfolding_all rfl) rfl rfl ?_ (by kernel_rfl) rfl rfl ?_); focus (simp [rowB, go_sem]; done)) | ((with_reducible refine wpList_gloadrow_st (t := 31) (n := 5) (j := 0) (vs := [.int .i64 x.seq, .int .i64 x.sh.next, .slice q.ca x.sh.m.length q.cc, .slice q.da x.sh.dead.length q.dc, .slice q.ga q.grs.length q.gc]) 0 hS rfl (by with_unfolding_all rfl) rfl rfl ?_ (by kernel_rfl) rfl rfl ?_); focus (simp [rowB, go_sem]; done)) | (go_at_call 26; (with_reducible refine (cLf.out _ hS.below).mono ?_); rintro _ w3 ⟨g, gs, gm, p, L, rfl, hk9, hk4⟩; have hS1 : St w [] (Ch.blk gx 31 #[.int .i64 x.seq, .int .i64 x.sh.next, .slice q.ca x.sh.m.length q.cc, .slice q.da x.sh.dead.length q.dc, .slice q.ga q.grs.length q.gc] :: Ch.blk gd 31 #[.int .i64 b.seq, .int .i64 b.sh.next, .slice r.ca b.sh.m.length r.cc, .slice r.da b.sh.dead.length r.dc, .slice r.ga r.grs.length r.gc] :: (bkV g gs gm b p ++ L)) w3 := St.rot (A := bkV g gs gm b p ++ L) (B := [_, _]) (hS.made hk9); clear hS hk9; replace hk4 := Lib.hid hk4; have hS := hS1; clear hS1))
 have k3 := hS.krow (P := Tryz.prog) (j := 0) 1 rfl (t := 31) (by kernel_rfl) (n := 5) (by kernel_rfl) (vs := [.int .i64 b.seq, .int .i64 b.sh.next, .slice r.ca b.sh.m.length r.cc, .slice r.da b.sh.dead.length r.dc, .slice r.ga r.grs.length r.gc]) rfl rfl
 have k4 := hS.krow (P := Tryz.prog) (j := 0) 0 rfl (t := 31) (by kernel_rfl) (n := 5) (by kernel_rfl) (vs := [.int .i64 x.seq, .int .i64 x.sh.next, .slice q.ca x.sh.m.length q.cc, .slice q.da x.sh.dead.length q.dc, .slice q.ga q.grs.length q.gc]) rfl rfl
 refine mixs_begin (by kernel_rfl) hS ?_
 clear hS
 intro w5 hS
 refine tk 0 ?_
 refine tkr 1 k3 ?_
 refine mixs_one 2 (by kernel_rfl) rfl (fun K hK => ?_)
 go_simp
 (go_at_call 29; (with_reducible refine (cR.out _ hS.below).mono ?_); rintro _ w3 ⟨rfl, hk9⟩; replace hS := hS.keepB hk9; clear hk9)
 try clear hC
 refine cl hK (fun hC => ?_)
 clear hK K
 refine tk 3 ?_
 refine tk 4 ?_
 refine tk 5 ?_
 refine tk 6 ?_
 refine tk 7 ?_
 refine tk 8 ?_
 refine tk 9 ?_
 refine tk 10 ?_
 refine tkr 11 k3 ?_
 refine tkr 12 k4 ?_
 refine tkr 14 k3 ?_
 refine tkr 15 k4 ?_
 refine mixs_one 13 (by kernel_rfl) rfl (fun K hK => ?_)
 go_simp
 (go_at_call 30; (with_reducible refine (cB1.out _ hS.below).mono ?_); rintro _ w3 ⟨rfl, hk9⟩; replace hS := hS.keepB hk9; clear hk9)
 try clear hC
 refine cl hK (fun hC => ?_)
 clear hK K
 refine mixs_one 16 (by kernel_rfl) rfl (fun K hK => ?_)
 go_simp
 (go_at_call 12; (with_reducible refine (cR1.out _ hS.below).mono ?_); rintro _ w3 ⟨rfl, hk9⟩; replace hS := hS.keepB hk9; clear hk9)
 try clear hC
 refine cl hK (fun hC => ?_)
 clear hK K
 refine tk 17 ?_
 refine tk 18 ?_
 refine tk 19 ?_
 refine tkr 20 k3 ?_
 refine tkr 21 k3 ?_
 refine mixs_one 22 (by kernel_rfl) rfl (fun K hK => ?_)
 go_simp
 (go_at_call 30; (with_reducible refine (cB2.out _ hS.below).mono ?_); rintro _ w3 ⟨rfl, hk9⟩; replace hS := hS.keepB hk9; clear hk9)
 try clear hC
 refine cl hK (fun hC => ?_)
 clear hK K
 refine tk 23 ?_
 refine tk 24 ?_
 refine wpAnyH_done (by kernel_rfl) ?_ _
 all_goals
  clear k3 k4
  go_wp2_with (first | ((with_reducible refine wpList_gloadrow_st (t := 31) (n := 5) (j := 0) (vs := [.int .i64 b.seq, .int .i64 b.sh.next, .slice r.ca b.sh.m.length r.cc, .slice r.da b.sh.dead.length r.dc, .slice r.ga r.grs.length r.gc]) 1 hS rfl (by with_unfolding_all rfl) rfl rfl ?_ (by kernel_rfl) rfl rfl ?_); focus (simp [rowB, go_sem]; done)) | (go_at_call 31; (with_reducible refine (cOf.out _).mono ?_); rintro _ w3 ⟨rfl, hk9⟩; replace hS := hS.keepB hk9; clear hk9) | (with_reducible refine wpList_alloc_st (t := 53) hS rfl rfl er ?_; clear hS; intro gB w1 hS) | ((with_reducible refine wpList_storerow_st (t := 53) (n := 5) (vs := [.int .i64 b.seq, .int .i64 b.sh.next, .slice r.ca b.sh.m.length r.cc, .slice r.da b.sh.dead.length r.dc, .slice r.ga r.grs.length r.gc]) 0 hS rfl rfl rfl rfl (by kernel_rfl) rfl rfl rfl (by kernel_rfl) ?_); clear hS; intro w1 hS; try simp only [List.set_cons_zero, List.set_cons_succ, List.setIfInBounds_toArray, List.take_succ_cons, List.take_zero, List.drop_succ_cons, List.drop_zero, List.nil_append, List.cons_append, List.append_nil, List.drop_nil, List.take_nil, List.length_cons, List.length_nil, Nat.zero_add, Nat.add_zero, Nat.reduceAdd] at hS))
  have hS1 : St w [] (bkV g gs gm b p ++ (rbV gB b r :: L)) _ := St.mid (A := []) (B := [rbV gB b r]) (C := bkV g gs gm b p) (R := L) (St.dropM (A := [rbV gB b r]) (B := [Ch.blk gx 31 #[.int .i64 x.seq, .int .i64 x.sh.next, .slice q.ca x.sh.m.length q.cc, .slice q.da x.sh.dead.length q.dc, .slice q.ga q.grs.length q.gc], Ch.blk gd 31 #[.int .i64 b.seq, .int .i64 b.sh.next, .slice r.ca b.sh.m.length r.cc, .slice r.da b.sh.dead.length r.dc, .slice r.ga r.grs.length r.gc]]) hS)
  clear hS
  have hS := hS1
  clear hS1
  have hB0 : Bth w b p r L 100 := ⟨hk4.out.ovr, hOr.out L, hok.out⟩
  replace hB0 := Lib.hid hB0
  clear hok hk4 hOr cR cLf cB1 cR1 cB2 cOf cD cX cL
  go_loopg [10] n (fun gk vx wr => ∃ (j : Nat) (b : BkS) (p : PV) (r : RV) (R : List Ch), j + gk = n ∧ vx = .int .i64 j ∧ Hid (Bth w b p r R (100 + j)) ∧ St w [] (bkV g gs gm b p ++ (rbV gB b r :: R)) wr)
  case atStart => exact ⟨0, b, p, r, L, Nat.zero_add _, rfl, hB0, hS⟩
  case round =>
   clear hS hB0
   obtain ⟨j, b, p, r, R, hj, rfl, hB, hS⟩ := hrel
   by_cases hlt : j < n
   case neg =>
    go_wp2_with ((go_at_call 8; (with_reducible refine (cA.out _ (ht.out.fr hS.fr (by simp))).mono ?_); rintro _ w3 ⟨rfl, hk9⟩; replace hS := hS.keepB hk9; clear hk9))
    go_ret
    exact ⟨rfl, hS.below⟩
   have hjl : j < l.length := by rw [hlen.out]; exact hlt
   obtain ⟨bb, off, rfl⟩ := hbase.out (by omega)
   have hrow := hl.out.rowb hlens.out j hjl
   have hin := hmem.out _ (List.getElem_mem hjl)
   have hel := hlens.out _ (List.getElem_mem hjl)
   generalize l[j] = y at *
   have cDo := fun W (h : St w [] (bkV g gs gm b p ++ (rbV gB b r :: R)) W) => hB.out.doesBoth y hin (by omega) ht.out h
   generalize edRow y = RE at *
   generalize (b.does y).1 = b9 at cDo
   replace cDo := Lib.hid cDo
   clear hin
   go_wp2_with (first | (go_at_call 15; (with_reducible refine (cDo.out _ hS).mono ?_); rintro _ w3 ⟨rfl, p1, r1, R1, hk9, hB1⟩; clear hS; have hS := hk9; clear hk9; replace hB1 := Lib.hid hB1) | (with_reducible refine wpList_rangerow (t := 44) (n := 29) (range_old hS hrow) rfl rfl rfl (by kernel_rfl) (by kernel_rfl) hel ?_))
   go_roundg (n - (j + 1))
   case measure => omega
   case rel => exact ⟨j + 1, b9, p1, r1, R1, by omega, by go_num, hB1, hS⟩
end Go.Proofs.YtneolmnpebiifaaGreatDoor
end
