import Derived.Test.YtneolmnpebiifaaGreatDoorM33
set_option linter.unusedVariables false
set_option linter.unusedSimpArgs false
set_option maxRecDepth 100000
section
namespace Go.Proofs.YtneolmnpebiifaaGreatDoor
open Go.RowKit Go.Ofp
set_option maxHeartbeats 8000000
theorem elem_bd : Elem Tryz.prog 31 (.agg #[.int .i64 0, .int .i64 0, .slice none 0 0, .slice none 0 0, .slice none 0 0]) 5 88 := Elem.mk (by kernel_rfl) (by rfl) (by decide)
theorem build_bd (a b : Int) (c1 : Option Addr) (n1 d1 : Nat) (c2 : Option Addr) (n2 d2 : Nat) (w : World) : (Instr.build 31 #[(0, .int .i64 a), (1, .int .i64 b), (2, .slice c1 n1 d1), (3, .slice c2 n2 d2)]).run Tryz.prog w = .ok (.agg #[.int .i64 a, .int .i64 b, .slice c1 n1 d1, .slice c2 n2 d2, .slice none 0 0]) w := by kernel_rfl
theorem bdata_nil (w : World) : Calls Tryz.prog 10 #[.pointer none] w fun e w' => e = .returned (.agg #[.int .i64 0, .int .i64 0, .slice none 0 0, .slice none 0 0, .slice none 0 0]) ∧ Below w.heap.size w w' := by
 have hS := St.start w
 have eb := elem_bd
 go_enter Tryz.func10, Tryz.ntmps10
 go_wp2_with (first | (with_reducible refine al hS rfl rfl ?_; clear hS; intro g1 w1 hS) | (with_reducible refine stor 0 hS rfl rfl rfl rfl rfl rfl rfl rfl ?_; clear hS; intro w1 hS))
 exact bodyPost_ret (v := .agg #[.int .i64 0, .int .i64 0, .slice none 0 0, .slice none 0 0, .slice none 0 0]) (results_blk Tryz.results10 rfl hS 0 rfl (by kernel_rfl) (by kernel_rfl)) rfl ⟨rfl, hS.below⟩
theorem grow_range {w : World} {b o : Nat} {v1 v2 : Value} (h1 : w.cell? ⟨b, o, none⟩ = some v1) (h2 : w.cell? ⟨b, o + 1, none⟩ = some v2) : w.rangeAt b o [v1, v2] := by
 intro k v hk
 match k, hk with
 | 0, hk => simp at hk; subst hk; exact h1
 | 1, hk => simp at hk; subst hk; exact h2
theorem bdata_any {m g gs gm : Nat} {b : BkS} {p : PV} {w : World} (hB : BkAt g gs gm b p w) (hok : BkOk m b) (hm : m ≤ 2000) :
 Calls Tryz.prog 10 #[.pointer (some ⟨g, 0, none⟩)] w fun e w' => ∃ (r : RV) (L : List Ch), e = .returned (.agg (bdRow b r).toArray) ∧ St w [] L w' ∧ Stp (fun _ => True) (r.at b) L := by
 have hS := St.start w
 have eb := elem_bd
 have ez := elem_g
 have hBd := build_bd
 have h0 := hB.c0
 have h1 := hB.c1
 have h2 := hB.c2
 have hkk : OkK (keys p.grs) := by rw [hB.ps.ks]; exact hok.ks.ok hm
 have hnn := hkk.nn
 have hmm := Lib.hid hkk.mm
 have hks := Lib.hid hB.ps.ks
 have hget := Lib.hid hB.ps.deep.get
 have hM := Lib.hid (fun j (hj : j < p.grs.length) => hB.ps.deep.mem p.grs[j] (List.getElem_mem hj))
 have cN := Lib.hid fun W (h : Below w.heap.size w W) => snext_any gs b.sh.next W ((Fr.of_below h).cell hB.nx (by simp))
 have cC := Lib.hid fun W (h : Below w.heap.size w W) => scards_any gs gm b.sh.m.length b.sh.m W (hB.sh.below18 h).c1 (hB.sh.below18 h).im hok.sh.ris (cds_ok18 hok.sh) (by have := hok.sh.len; omega)
 have cD := Lib.hid fun W (h : Below w.heap.size w W) => sdead_any gs b.sh.dead p.da b.sh.dead.length p.dc W (hB.sh.below18 h).c2 (hB.sh.below18 h).dl (by have := hok.sh.dlen; omega)
 have hfl := Lib.hid hok.sh.fl
 have hend := Lib.hid fun (ca : Option Addr) (cc : Nat) (da : Option Addr) (dc : Nat) (ga : Option Addr) (gc : Nat) (new : List Gr) (w' : World) (hn : new.length = p.grs.length) (hk : keys new = keys p.grs) (hS : St w [] (Ch.row 82 2 (.slice ga p.grs.length gc) p.grs.length (grows new) :: Ch.row 58 27 (.slice ca b.sh.m.length cc) b.sh.m.length (b.sh.m.map cdRow).flatten :: Ch.row 91 3 (.slice da b.sh.dead.length dc) b.sh.dead.length (dRow b.sh.dead) :: new.reverse.map gp) w') =>
  show ∃ (r : RV) (L : List Ch), Ending.returned (.agg #[.int .i64 b.seq, .int .i64 b.sh.next, .slice ca b.sh.m.length cc, .slice da b.sh.dead.length dc, .slice ga p.grs.length gc]) = .returned (.agg (bdRow b r).toArray) ∧ St w [] L w' ∧ Stp (fun _ => True) (r.at b) L from by
   have hG := deepK_of (gs0 := []) (gs := new) hS rfl hn (fun x hx => .inl (List.mem_cons_of_mem _ (List.mem_cons_of_mem _ (List.mem_map.2 ⟨x, by simpa using hx, rfl⟩))))
   refine ⟨⟨ca, cc, da, dc, ga, gc, new⟩, _, by rw [bdRow_eq]; simp only [hn], hS, fun w0 F A B W hW _ => ⟨hk.trans hks.out, ?_, ?_, ?_⟩⟩
   · exact hW.lst (e := 58) (size := 27) (A.length + 1) (by simp) rfl hfl.out
   · exact hW.lst (e := 91) (size := 3) (A.length + 2) (by simp [dRow]) rfl (fun _ _ => trivial)
   · have := hG w0 F A B W hW (by simp)
     simp only [hn]
     exact this
 clear hB hok hkk
 generalize p.ga = ga at *
 generalize p.gc = gc at *
 generalize p.grs = grs at *
 obtain ⟨sq, sh, ks⟩ := b
 obtain ⟨nx, M, D⟩ := sh
 simp only at *
 clear hks
 generalize (M.map cdRow).flatten = CR at *
 generalize dRow D = DR at *
 generalize M.length = mn at *
 generalize D.length = dn at *
 go_enter Tryz.func10, Tryz.ntmps10
 go_upto_region 3 with ((with_reducible refine wpList_alloc_st hS rfl rfl (by assumption) ?_); clear hS; intro gr w1 hS)
 go_cut [3] from 9 to 28 (fun v3 wc => ∃ (g1 : Nat) (ca : Option Addr) (cc : Nat) (da : Option Addr) (dc : Nat), v3 = .pointer (some ⟨g1, 0, none⟩) ∧ St w [] [Ch.blk g1 31 #[.int .i64 sq, .int .i64 nx, .slice ca mn cc, .slice da dn dc, .slice none 0 0], Ch.blk gr 31 #[.int .i64 0, .int .i64 0, .slice none 0 0, .slice none 0 0, .slice none 0 0], Ch.row 58 27 (.slice ca mn cc) mn CR, Ch.row 91 3 (.slice da dn dc) dn DR] wc)
 case first =>
  have k0 := hS.empty.kold0 h0
  have k1 := hS.empty.kold0 h1
  refine mixs_beginE (by kernel_rfl) hS ?_
  clear hS
  intro w2 hS hC
  refine tk 0 ?_
  refine tk 1 ?_
  refine tk 2 ?_
  refine tk 3 ?_
  refine tk 4 ?_
  refine tk 5 ?_
  refine tk 6 ?_
  refine tk 7 ?_
  refine tk 9 ?_
  refine tk 10 ?_
  refine tk 11 ?_
  refine tk 12 ?_
  refine tk 14 ?_
  refine tk 15 ?_
  refine tk 16 ?_
  refine tk 17 ?_
  refine mixs_two 8 20 (by kernel_rfl) rfl rfl (fun K hK => ?_) (fun K hK => ?_)
  ·
   go_simp
   (go_at_call 34; (with_reducible refine (cN.out _ hS.below).mono ?_); rintro _ w3 ⟨rfl, hk9⟩; replace hS := hS.keepB hk9; clear hk9)
   try clear hC
   refine cl hK (fun hC => ?_)
   clear hK K
   refine mixs_two 13 20 (by kernel_rfl) rfl rfl (fun K hK => ?_) (fun K hK => ?_)
   ·
    go_simp
    (go_at_call 35; (with_reducible refine (cC.out _ hS.below).mono ?_); rintro _ w3 ⟨ca, cc, rfl, hk9⟩; have hS1 := St.rot (A := [_]) (hS.made hk9); simp only [List.cons_append, List.nil_append] at hS1; clear hk9 hS; have hS := hS1; clear hS1)
    try clear hC
    refine cl hK (fun hC => ?_)
    clear hK K
    refine mixs_two 18 20 (by kernel_rfl) rfl rfl (fun K hK => ?_) (fun K hK => ?_)
    ·
     go_simp
     (go_at_call 36; (with_reducible refine (cD.out _ hS.below).mono ?_); rintro _ w3 ⟨da, dc, rfl, hk9⟩; have hS1 := St.rot (A := [_]) (hS.made hk9); simp only [List.cons_append, List.nil_append] at hS1; clear hk9 hS; have hS := hS1; clear hS1)
     try clear hC
     refine cl hK (fun hC => ?_)
     clear hK K
     refine tk 19 ?_
     refine mixs_one 20 (by kernel_rfl) rfl (fun K hK => ?_)
     refine op_alloc_st (by kernel_rfl) rfl (by assumption) hS ?_
     clear hS; intro g1 w1 hS
     try clear hC
     refine cl hK (fun hC => ?_)
     clear hK K
     refine mixs_one 21 (by kernel_rfl) rfl (fun K hK => ?_)
     refine op_storerow_st (by kernel_rfl) 0 hS rfl rfl rfl (by kernel_rfl) rfl rfl rfl rfl ?_
     clear hS; intro w1 hS; try simp only [List.set_cons_zero, List.set_cons_succ, List.setIfInBounds_toArray, List.take_succ_cons, List.take_zero, List.drop_succ_cons, List.drop_zero, List.nil_append, List.cons_append, List.append_nil, List.drop_nil, List.take_nil, List.length_cons, List.length_nil, Nat.zero_add, Nat.add_zero, Nat.reduceAdd] at hS
     try clear hC
     refine cl hK (fun hC => ?_)
     clear hK K
     refine wpAnyH_done (by kernel_rfl) ?_ _
     clear k0 k1 hBd
     go_wp2_with fail
     go_meet
     exact ⟨_, ca, cc, da, dc, rfl, hS⟩
    ·
     refine op_alloc_st (by kernel_rfl) rfl (by assumption) hS ?_
     clear hS; intro g1 w1 hS
     try clear hC
     refine cl hK (fun hC => ?_)
     clear hK K
     refine mixs_one 18 (by kernel_rfl) rfl (fun K hK => ?_)
     go_simp
     (go_at_call 36; (with_reducible refine (cD.out _ hS.below).mono ?_); rintro _ w3 ⟨da, dc, rfl, hk9⟩; have hS1 := St.rot (A := [_]) (hS.made hk9); simp only [List.cons_append, List.nil_append] at hS1; clear hk9 hS; have hS := hS1; clear hS1)
     try clear hC
     refine cl hK (fun hC => ?_)
     clear hK K
     refine tk 19 ?_
     refine mixs_one 21 (by kernel_rfl) rfl (fun K hK => ?_)
     refine op_storerow_st (by kernel_rfl) 0 hS rfl rfl rfl (by kernel_rfl) rfl rfl rfl rfl ?_
     clear hS; intro w1 hS; try simp only [List.set_cons_zero, List.set_cons_succ, List.setIfInBounds_toArray, List.take_succ_cons, List.take_zero, List.drop_succ_cons, List.drop_zero, List.nil_append, List.cons_append, List.append_nil, List.drop_nil, List.take_nil, List.length_cons, List.length_nil, Nat.zero_add, Nat.add_zero, Nat.reduceAdd] at hS
     try clear hC
     refine cl hK (fun hC => ?_)
     clear hK K
     refine wpAnyH_done (by kernel_rfl) ?_ _
     clear k0 k1 hBd
     go_wp2_with fail
     go_meet
     exact ⟨_, ca, cc, da, dc, rfl, hS⟩
   ·
    refine op_alloc_st (by kernel_rfl) rfl (by assumption) hS ?_
    clear hS; intro g1 w1 hS
    try clear hC
    refine cl hK (fun hC => ?_)
    clear hK K
    refine mixs_one 13 (by kernel_rfl) rfl (fun K hK => ?_)
    go_simp
    (go_at_call 35; (with_reducible refine (cC.out _ hS.below).mono ?_); rintro _ w3 ⟨ca, cc, rfl, hk9⟩; have hS1 := St.rot (A := [_]) (hS.made hk9); simp only [List.cons_append, List.nil_append] at hS1; clear hk9 hS; have hS := hS1; clear hS1)
    try clear hC
    refine cl hK (fun hC => ?_)
    clear hK K
    refine mixs_one 18 (by kernel_rfl) rfl (fun K hK => ?_)
    go_simp
    (go_at_call 36; (with_reducible refine (cD.out _ hS.below).mono ?_); rintro _ w3 ⟨da, dc, rfl, hk9⟩; have hS1 := St.rot (A := [_]) (hS.made hk9); simp only [List.cons_append, List.nil_append] at hS1; clear hk9 hS; have hS := hS1; clear hS1)
    try clear hC
    refine cl hK (fun hC => ?_)
    clear hK K
    refine tk 19 ?_
    refine mixs_one 21 (by kernel_rfl) rfl (fun K hK => ?_)
    refine op_storerow_st (by kernel_rfl) 0 hS rfl rfl rfl (by kernel_rfl) rfl rfl rfl rfl ?_
    clear hS; intro w1 hS; try simp only [List.set_cons_zero, List.set_cons_succ, List.setIfInBounds_toArray, List.take_succ_cons, List.take_zero, List.drop_succ_cons, List.drop_zero, List.nil_append, List.cons_append, List.append_nil, List.drop_nil, List.take_nil, List.length_cons, List.length_nil, Nat.zero_add, Nat.add_zero, Nat.reduceAdd] at hS
    try clear hC
    refine cl hK (fun hC => ?_)
    clear hK K
    refine wpAnyH_done (by kernel_rfl) ?_ _
    clear k0 k1 hBd
    go_wp2_with fail
    go_meet
    exact ⟨_, ca, cc, da, dc, rfl, hS⟩
  ·
   refine op_alloc_st (by kernel_rfl) rfl (by assumption) hS ?_
   clear hS; intro g1 w1 hS
   try clear hC
   refine cl hK (fun hC => ?_)
   clear hK K
   refine mixs_one 8 (by kernel_rfl) rfl (fun K hK => ?_)
   go_simp
   (go_at_call 34; (with_reducible refine (cN.out _ hS.below).mono ?_); rintro _ w3 ⟨rfl, hk9⟩; replace hS := hS.keepB hk9; clear hk9)
   try clear hC
   refine cl hK (fun hC => ?_)
   clear hK K
   refine mixs_one 13 (by kernel_rfl) rfl (fun K hK => ?_)
   go_simp
   (go_at_call 35; (with_reducible refine (cC.out _ hS.below).mono ?_); rintro _ w3 ⟨ca, cc, rfl, hk9⟩; have hS1 := St.rot (A := [_]) (hS.made hk9); simp only [List.cons_append, List.nil_append] at hS1; clear hk9 hS; have hS := hS1; clear hS1)
   try clear hC
   refine cl hK (fun hC => ?_)
   clear hK K
   refine mixs_one 18 (by kernel_rfl) rfl (fun K hK => ?_)
   go_simp
   (go_at_call 36; (with_reducible refine (cD.out _ hS.below).mono ?_); rintro _ w3 ⟨da, dc, rfl, hk9⟩; have hS1 := St.rot (A := [_]) (hS.made hk9); simp only [List.cons_append, List.nil_append] at hS1; clear hk9 hS; have hS := hS1; clear hS1)
   try clear hC
   refine cl hK (fun hC => ?_)
   clear hK K
   refine tk 19 ?_
   refine mixs_one 21 (by kernel_rfl) rfl (fun K hK => ?_)
   refine op_storerow_st (by kernel_rfl) 0 hS rfl rfl rfl (by kernel_rfl) rfl rfl rfl rfl ?_
   clear hS; intro w1 hS; try simp only [List.set_cons_zero, List.set_cons_succ, List.setIfInBounds_toArray, List.take_succ_cons, List.take_zero, List.drop_succ_cons, List.drop_zero, List.nil_append, List.cons_append, List.append_nil, List.drop_nil, List.take_nil, List.length_cons, List.length_nil, Nat.zero_add, Nat.add_zero, Nat.reduceAdd] at hS
   try clear hC
   refine cl hK (fun hC => ?_)
   clear hK K
   refine wpAnyH_done (by kernel_rfl) ?_ _
   clear k0 k1 hBd
   go_wp2_with fail
   go_meet
   exact ⟨_, ca, cc, da, dc, rfl, hS⟩
 case rest =>
  clear hS
  obtain ⟨g1, ca, cc, da, dc, rfl, hS⟩ := hcut
  have c2 := hS.old h2 (by simp)
  have hS1 := (hS.nilrow 82 2).swap
  clear hS
  have hS := hS1
  clear hS1
  go_wp2_with fail
  clear c2
  go_loopg [34] grs.length (fun gk vx wr => ∃ (j : Nat) (ao : Option Addr) (co : Nat) (new : List Gr), j + gk = grs.length ∧ vx = .int .i64 j ∧ Hid (new.length = j ∧ keys new = (keys grs).take j) ∧ St w [] (Ch.blk g1 31 #[.int .i64 sq, .int .i64 nx, .slice ca mn cc, .slice da dn dc, .slice ao j co] :: Ch.row 82 2 (.slice ao j co) j (grows new) :: Ch.blk gr 31 #[.int .i64 0, .int .i64 0, .slice none 0 0, .slice none 0 0, .slice none 0 0] :: Ch.row 58 27 (.slice ca mn cc) mn CR :: Ch.row 91 3 (.slice da dn dc) dn DR :: new.reverse.map gp) wr)
  case atStart => exact ⟨0, none, 0, [], Nat.zero_add _, rfl, Lib.hid ⟨rfl, by simp [keys]⟩, hS⟩
  case round =>
   clear hS
   obtain ⟨j, ao, co, new, hj, rfl, hr, hS⟩ := hrel
   by_cases hlt : j < grs.length
   case neg =>
    obtain rfl : j = grs.length := by omega
    obtain ⟨r1, r2⟩ := hr.out
    rw [List.take_of_length_le (by simp [keys])] at r2
    have r3 := Lib.hid r2
    have r4 := Lib.hid r1
    clear r1 r2
    go_wp2_with (first | (with_reducible refine lda 0 hS rfl rfl rfl rfl ?_) | (with_reducible refine stor 2 hS rfl rfl rfl rfl rfl rfl rfl rfl ?_; clear hS; intro w1 hS))
    exact bodyPost_ret (v := .agg #[.int .i64 sq, .int .i64 nx, .slice ca mn cc, .slice da dn dc, .slice ao grs.length co]) (results_blk Tryz.results10 rfl hS 2 rfl (by kernel_rfl) (by kernel_rfl)) rfl (hend.out ca cc da dc ao co new _ r4.out r3.out (St.dropM (A := [_]) (B := [_]) hS.drop))
   have hjg : j < grs.length := hlt
   have hjk : j < (keys grs).length := by simpa [keys] using hjg
   obtain ⟨bb, off, rfl, q0, q1⟩ := hget.out j hjg
   have hMj := hM.out j hjg
   have hmlj := hmm.out _ (List.getElem_mem hjg)
   have t1 : (keys grs).take (j + 1) = (keys grs).take j ++ [(grs[j].no, grs[j].mem)] := by
    rw [List.take_succ_eq_append_getElem hjk]; simp [keys, Gr.key]
   have zrow := grow_range q0 q1
   generalize grs[j] = x at q0 q1 hMj hmlj t1 zrow
   have cI := fun W h => clone_any x.a x.mem x.mem.length x.c W h rfl (by omega) hMj.nz
   have hsl := Lib.hid (fun W (h : St w [] [] W) => h.sl hMj.sl)
   obtain ⟨xn, xa, xc, xm⟩ := x
   simp only at *
   have hbg := fun A N C W => build_g2 xn A N C W
   have hnew : ∀ (a5 : Option Addr) (c5 : Nat), (new ++ [(⟨xn, a5, c5, xm⟩ : Gr)]).length = j + 1 ∧ keys (new ++ [(⟨xn, a5, c5, xm⟩ : Gr)]) = (keys grs).take (j + 1) := by
    intro a5 c5
    obtain ⟨r1, r2⟩ := hr.out
    refine ⟨by simp [r1], ?_⟩
    rw [t1, ← r2]
    simp [keys, Gr.key]
   replace hnew := Lib.hid hnew
   replace cI := Lib.hid cI
   replace zrow := Lib.hid zrow
   have hj5 : j ≤ 200 := by omega
   clear hMj t1 q0 q1
   go_wp2_with (first | (with_reducible refine wpList_rangerow (t := 82) (n := 2) (range_old hS zrow.out) rfl rfl rfl (by kernel_rfl) (by kernel_rfl) rfl ?_) | (with_reducible refine al hS rfl rfl ?_; clear hS; intro g1 w1 hS) | (with_reducible refine stor 0 hS rfl rfl rfl rfl rfl rfl rfl rfl ?_; clear hS; intro w1 hS))
   refine mixs_beginC 0 (by kernel_rfl) hS rfl ?_
   clear hS
   intro w4 hS hC
   have kC := hC.kblk 0 rfl
   refine tk 0 ?_
   refine tk 2 ?_
   refine tk 3 ?_
   refine tk 4 ?_
   refine tk 5 ?_
   refine mixs_two 1 6 (by kernel_rfl) rfl rfl (fun K hK => ?_) (fun K hK => ?_)
   ·
    refine op_load_st (by kernel_rfl) 1 hS rfl rfl rfl (by simp [scalarB, go_sem]) rfl ?_
    try clear hC
    refine cl hK (fun hC => ?_)
    clear hK K
    refine mixs_one 6 (by kernel_rfl) rfl (fun K hK => ?_)
    go_simp
    (go_at_call 37; (with_reducible refine (cI.out _ (hsl.out _ hS.empty)).mono ?_); rintro _ w3 ⟨a5, c5, rfl, h51, h52, hk9⟩; have hk8 : St _ [] [gp ⟨xn, a5, c5, xm⟩] w3 := hk9; have hS1 := St.mid (A := []) (B := [_]) (C := [_, _, _, _, _, _]) (hS.made hk8); simp only [List.cons_append, List.nil_append] at hS1; clear hk9 hk8 hS; have hS := hS1; clear hS1)
    try clear hC
    refine cl hK (fun hC => ?_)
    clear hK K
    refine tk 7 ?_
    refine mixs_one 8 (by kernel_rfl) rfl (fun K hK => ?_)
    (refine op_build1_st (by kernel_rfl) hS rfl Tryz.underlying29 elem_g (cs := #[.int .i64 xn, .slice a5 xm.length c5]) rfl rfl (by decide) ?_; clear hS; intro g3 w4 hS)
    try clear hC
    refine cl hK (fun hC => ?_)
    clear hK K
    refine mixs_one 9 (by kernel_rfl) rfl (fun K hK => ?_)
    (refine op_app_st (by kernel_rfl) 3 hS rfl rfl Tryz.underlying29 elem_g rfl (Src.slice Tryz.underlying29 (hS.blksl2 0 rfl) rfl) rfl (row2_one xn a5 xm.length c5) (by omega) (by unfold maxLen; omega) ?_; intro v6 w5 hS1; clear hS; have hS := hS1.drop; clear hS1; obtain ⟨a6, c6, rfl, -⟩ := hS.row 2 rfl)
    try clear hC
    refine cl hK (fun hC => ?_)
    clear hK K
    refine tk 10 ?_
    refine mixs_one 11 (by kernel_rfl) rfl (fun K hK => ?_)
    refine op_store_st (by kernel_rfl) 1 hS rfl rfl rfl (by kernel_rfl) rfl rfl ?_
    clear hS; intro w1 hS; try simp only [List.set_cons_zero, List.set_cons_succ, List.setIfInBounds_toArray, List.take_succ_cons, List.take_zero, List.drop_succ_cons, List.drop_zero, List.nil_append, List.cons_append, List.append_nil, List.drop_nil, List.take_nil, List.length_cons, List.length_nil, Nat.zero_add, Nat.add_zero, Nat.reduceAdd] at hS
    try clear hC
    refine cl hK (fun hC => ?_)
    clear hK K
    refine wpAnyH_done (by kernel_rfl) ?_ _
    clear kC hbg
    go_wp2_with fail
    go_roundg (grs.length - (j + 1))
    case measure => omega
    case rel =>
     refine ⟨j + 1, a6, c6, new ++ [(⟨xn, a5, c5, xm⟩ : Gr)], by omega, by go_num, Lib.hid (hnew.out a5 c5), ?_⟩
     rw [List.reverse_append, grows_append]
     exact hS.drop
   ·
    go_simp
    (go_at_call 37; (with_reducible refine (cI.out _ (hsl.out _ hS.empty)).mono ?_); rintro _ w3 ⟨a5, c5, rfl, h51, h52, hk9⟩; have hk8 : St _ [] [gp ⟨xn, a5, c5, xm⟩] w3 := hk9; have hS1 := St.mid (A := []) (B := [_]) (C := [_, _, _, _, _, _]) (hS.made hk8); simp only [List.cons_append, List.nil_append] at hS1; clear hk9 hk8 hS; have hS := hS1; clear hS1)
    try clear hC
    refine cl hK (fun hC => ?_)
    clear hK K
    refine tk 7 ?_
    refine mixs_two 1 8 (by kernel_rfl) rfl rfl (fun K hK => ?_) (fun K hK => ?_)
    ·
     refine op_load_st (by kernel_rfl) 1 hS rfl rfl rfl (by simp [scalarB, go_sem]) rfl ?_
     try clear hC
     refine cl hK (fun hC => ?_)
     clear hK K
     refine mixs_one 8 (by kernel_rfl) rfl (fun K hK => ?_)
     (refine op_build1_st (by kernel_rfl) hS rfl Tryz.underlying29 elem_g (cs := #[.int .i64 xn, .slice a5 xm.length c5]) rfl rfl (by decide) ?_; clear hS; intro g3 w4 hS)
     try clear hC
     refine cl hK (fun hC => ?_)
     clear hK K
     refine mixs_one 9 (by kernel_rfl) rfl (fun K hK => ?_)
     (refine op_app_st (by kernel_rfl) 3 hS rfl rfl Tryz.underlying29 elem_g rfl (Src.slice Tryz.underlying29 (hS.blksl2 0 rfl) rfl) rfl (row2_one xn a5 xm.length c5) (by omega) (by unfold maxLen; omega) ?_; intro v6 w5 hS1; clear hS; have hS := hS1.drop; clear hS1; obtain ⟨a6, c6, rfl, -⟩ := hS.row 2 rfl)
     try clear hC
     refine cl hK (fun hC => ?_)
     clear hK K
     refine tk 10 ?_
     refine mixs_one 11 (by kernel_rfl) rfl (fun K hK => ?_)
     refine op_store_st (by kernel_rfl) 1 hS rfl rfl rfl (by kernel_rfl) rfl rfl ?_
     clear hS; intro w1 hS; try simp only [List.set_cons_zero, List.set_cons_succ, List.setIfInBounds_toArray, List.take_succ_cons, List.take_zero, List.drop_succ_cons, List.drop_zero, List.nil_append, List.cons_append, List.append_nil, List.drop_nil, List.take_nil, List.length_cons, List.length_nil, Nat.zero_add, Nat.add_zero, Nat.reduceAdd] at hS
     try clear hC
     refine cl hK (fun hC => ?_)
     clear hK K
     refine wpAnyH_done (by kernel_rfl) ?_ _
     clear kC hbg
     go_wp2_with fail
     go_roundg (grs.length - (j + 1))
     case measure => omega
     case rel =>
      refine ⟨j + 1, a6, c6, new ++ [(⟨xn, a5, c5, xm⟩ : Gr)], by omega, by go_num, Lib.hid (hnew.out a5 c5), ?_⟩
      rw [List.reverse_append, grows_append]
      exact hS.drop
    ·
     (refine op_build1_st (by kernel_rfl) hS rfl Tryz.underlying29 elem_g (cs := #[.int .i64 xn, .slice a5 xm.length c5]) rfl rfl (by decide) ?_; clear hS; intro g3 w4 hS)
     try clear hC
     refine cl hK (fun hC => ?_)
     clear hK K
     refine mixs_one 1 (by kernel_rfl) rfl (fun K hK => ?_)
     refine op_load_st (by kernel_rfl) 2 hS rfl rfl rfl (by simp [scalarB, go_sem]) rfl ?_
     try clear hC
     refine cl hK (fun hC => ?_)
     clear hK K
     refine mixs_one 9 (by kernel_rfl) rfl (fun K hK => ?_)
     (refine op_app_st (by kernel_rfl) 3 hS rfl rfl Tryz.underlying29 elem_g rfl (Src.slice Tryz.underlying29 (hS.blksl2 0 rfl) rfl) rfl (row2_one xn a5 xm.length c5) (by omega) (by unfold maxLen; omega) ?_; intro v6 w5 hS1; clear hS; have hS := hS1.drop; clear hS1; obtain ⟨a6, c6, rfl, -⟩ := hS.row 2 rfl)
     try clear hC
     refine cl hK (fun hC => ?_)
     clear hK K
     refine tk 10 ?_
     refine mixs_one 11 (by kernel_rfl) rfl (fun K hK => ?_)
     refine op_store_st (by kernel_rfl) 1 hS rfl rfl rfl (by kernel_rfl) rfl rfl ?_
     clear hS; intro w1 hS; try simp only [List.set_cons_zero, List.set_cons_succ, List.setIfInBounds_toArray, List.take_succ_cons, List.take_zero, List.drop_succ_cons, List.drop_zero, List.nil_append, List.cons_append, List.append_nil, List.drop_nil, List.take_nil, List.length_cons, List.length_nil, Nat.zero_add, Nat.add_zero, Nat.reduceAdd] at hS
     try clear hC
     refine cl hK (fun hC => ?_)
     clear hK K
     refine wpAnyH_done (by kernel_rfl) ?_ _
     clear kC hbg
     go_wp2_with fail
     go_roundg (grs.length - (j + 1))
     case measure => omega
     case rel =>
      refine ⟨j + 1, a6, c6, new ++ [(⟨xn, a5, c5, xm⟩ : Gr)], by omega, by go_num, Lib.hid (hnew.out a5 c5), ?_⟩
      rw [List.reverse_append, grows_append]
      exact hS.drop
end Go.Proofs.YtneolmnpebiifaaGreatDoor
end
section
namespace Go.Proofs.YtneolmnpebiifaaGreatDoor
open Go.RowKit Go.Ofp
set_option maxHeartbeats 4000000
theorem deq_any (a b : Option Addr) (n m ca cb : Nat) (l k : List Dd) (w : World) (hl : Lst ddRow (fun _ => True) w a n ca l) (hk : Lst ddRow (fun _ => True) w b m cb k) (hn : n ≤ 50000) (hm : m ≤ 50000) :
 Calls Tryz.prog 63 #[.slice a n ca, .slice b m cb] w fun e w' => e = .returned (.bool (decide (l = k))) ∧ Below w.heap.size w w' := by
 have hS := St.start w
 have hG := guard_dd
 have hln := Lib.hid hl.len
 have hkn := Lib.hid hk.len
 have hll := Lib.hid (show ∀ x ∈ l, (ddRow x).length = 3 from fun x hx => ddRow_len x)
 have hkl := Lib.hid (show ∀ x ∈ k, (ddRow x).length = 3 from fun x hx => ddRow_len x)
 have hlb := Lib.hid (hl.base (by decide) hll.out)
 have hkb := Lib.hid (hk.base (by decide) hkl.out)
 have hE0 := Lib.hid fun (x y : Dd) (hx : x ∈ l) (hy : y ∈ k) (W : World) => neq_dd x y W
 by_cases hnm : n = m
 · subst hnm
   obtain ⟨R, hR⟩ : ∃ R, decide (l = k) = R := ⟨_, rfl⟩
   rw [hR]
   replace hR := Lib.hid hR
   replace hl := Lib.hid hl
   replace hk := Lib.hid hk
   go_enter Tryz.func63, Tryz.ntmps63
   go_wp2_with fail
   go_loopg [13] n (fun gk vx wr => ∃ j : Nat, j + gk = n ∧ vx = .int .i64 j ∧ Hid (l.take j = k.take j) ∧ St w [] [] wr)
   case atStart => exact ⟨0, Nat.zero_add _, rfl, Lib.hid rfl, hS⟩
   case round =>
    clear hS
    obtain ⟨j, hj, rfl, hr, hS⟩ := hrel
    by_cases hlt : j < n
    · have hjl : j < l.length := by rw [hln.out]; exact hlt
      have hjk : j < k.length := by rw [hkn.out]; exact hlt
      obtain ⟨b1, o1, rfl⟩ := hlb.out (by omega)
      obtain ⟨b2, o2, rfl⟩ := hkb.out (by omega)
      have hE := hE0.out l[j] k[j] (List.getElem_mem hjl) (List.getElem_mem hjk)
      have r1 := hl.out.rowb hll.out j hjl
      have r2 := hk.out.rowb hkl.out j hjk
      have l1 := hll.out _ (List.getElem_mem hjl)
      have l2 := hkl.out _ (List.getElem_mem hjk)
      have hsz : sizeB Tryz.prog 91 3 = true := by kernel_rfl
      have kR1 := hS.kold_row (P := Tryz.prog) (t := 91) r1 (by kernel_rfl) hsz l1
      have kR2 := hS.kold_row (P := Tryz.prog) (t := 91) r2 (by kernel_rfl) hsz l2
      clear r1 r2 l1 l2
      by_cases hx : l[j] = k[j]
      · have hr2 : l.take (j + 1) = k.take (j + 1) := by rw [List.take_succ_eq_append_getElem hjl, List.take_succ_eq_append_getElem hjk, hr.out, hx]
        rw [decide_eq_true hx] at hE
        simp only [Bool.not_true] at hE
        replace hr2 := Lib.hid hr2
        clear hx
        generalize ddRow l[j] = R1 at *
        generalize ddRow k[j] = R2 at *
        go_wp2_with fail
        refine mixs_begin (by kernel_rfl) hS ?_
        clear hS
        intro w2 hS
        refine tk 0 ?_
        refine tk 1 ?_
        refine tk 2 ?_
        refine tkr 3 kR1 ?_
        refine tk 4 ?_
        refine tk 5 ?_
        refine tk 6 ?_
        refine tkr 7 kR2 ?_
        refine tk 8 ?_
        refine wpAnyH_done (by kernel_rfl) ?_ _
        clear kR1 kR2
        go_wp2_with fail
        go_roundg (n - (j + 1))
        case measure => omega
        case rel => exact ⟨j + 1, by omega, by go_num, hr2, hS⟩
      · have hR2 : R = false := by
         rw [← hR.out, decide_eq_false_iff_not]
         intro e
         subst e
         exact hx rfl
        rw [decide_eq_false hx] at hE
        simp only [Bool.not_false] at hE
        replace hR2 := Lib.hid hR2
        clear hx
        generalize ddRow l[j] = R1 at *
        generalize ddRow k[j] = R2 at *
        go_wp2_with fail
        refine mixs_begin (by kernel_rfl) hS ?_
        clear hS
        intro w2 hS
        refine tk 0 ?_
        refine tk 1 ?_
        refine tk 2 ?_
        refine tkr 3 kR1 ?_
        refine tk 4 ?_
        refine tk 5 ?_
        refine tk 6 ?_
        refine tkr 7 kR2 ?_
        refine tk 8 ?_
        refine wpAnyH_done (by kernel_rfl) ?_ _
        clear kR1 kR2
        go_wp2_with fail
        go_ret
        exact ⟨by rw [hR2.out]; rfl, hS.below⟩
    · obtain rfl : j = n := by omega
      have hR2 : R = true := by
       rw [← hR.out, decide_eq_true_iff]
       have e1 := hr.out
       rwa [List.take_of_length_le (by rw [hln.out]; exact Nat.le_refl _), List.take_of_length_le (by rw [hkn.out]; exact Nat.le_refl _)] at e1
      replace hR2 := Lib.hid hR2
      go_wp2_with fail
      go_ret
      exact ⟨by rw [hR2.out]; rfl, hS.below⟩
 · have e : decide (l = k) = false := by rw [decide_eq_false_iff_not]; intro e; subst e; exact hnm (hln.out.symm.trans hkn.out)
   have hb : ((n : Int) != (m : Int)) = true := by simp; omega
   rw [e]
   replace hl := Lib.hid hl
   replace hk := Lib.hid hk
   clear hnm e
   go_enter Tryz.func63, Tryz.ntmps63
   go_wp2_with fail
   go_ret
   exact ⟨rfl, hS.below⟩
theorem eq_ch (d : Nat) (p q : Int × Int) (w : World) : (Op.equalIn (d + 5) 48 (.agg (chRow p).toArray) (.agg (chRow q).toArray)).run Tryz.prog w = .ok (decide (p = q)) w := by
 have hp : Tryz.prog.stoodInHeld 48 = false := by kernel_rfl
 have hff := fields_of Tryz.underlying48
 have hu : Tryz.prog.underlying 48 = some (.struct (Tryz.prog.fieldsOf 48)) := by rw [hff, Tryz.underlying48]
 rw [run_equalIn_struct w (d + 4) _ _ _ hu hp, hff]
 obtain ⟨a1, a2⟩ := p
 obtain ⟨b1, b2⟩ := q
 have h3 := Tryz.underlying3
 have e1 : ∀ x y : Int, (Op.equalIn (d + 4) 3 (.int .i64 x) (.int .i64 y)).run Tryz.prog w = .ok (x == y) w := fun x y => by simp [Op.equalIn, run_underlying h3]
 have p1 := part_i (chRow (a1, a2)) 0 a1 rfl w
 have p2 := part_i (chRow (a1, a2)) 1 a2 rfl w
 have q1 := part_i (chRow (b1, b2)) 0 b1 rfl w
 have q2 := part_i (chRow (b1, b2)) 1 b2 rfl w
 generalize chRow (a1, a2) = A at *
 generalize chRow (b1, b2) = B at *
 simp only [Op.eqFields, ne_eq, String.reduceEq, not_false_eq_true, if_true, Sem.run_bind, p1, q1, e1, Result.andThen_ok]
 by_cases k1 : a1 = b1
 · subst k1
   by_cases k2 : a2 = b2
   · subst k2
     simp [p2, q2, e1]
   · simp [p2, q2, e1, k2]
 · simp [k1]
theorem neq_ch (p q : Int × Int) (w : World) : (binOp .neq 48 (.agg (chRow p).toArray) (.agg (chRow q).toArray)).run Tryz.prog w = .ok (.bool (!decide (p = q))) w := by
 rw [run_neq_struct, eq_ch 9995 p q w]
 rfl
theorem guard_ch (op : BinOp) (x y : Operand) (xs ys : Array Value) (w : World) : (eqGuard op 48 x y (.agg xs) (.agg ys)).run Tryz.prog w = .ok () w :=
 run_eqGuard_agg w op _ x y xs ys (by kernel_rfl)
theorem chRow_len (x : Int × Int) : (chRow x).length = 2 := rfl
theorem changes_any (a b : Option Addr) (n m ca cb : Nat) (l k : List (Int × Int)) (w : World) (hl : Lst chRow (fun _ => True) w a n ca l) (hk : Lst chRow (fun _ => True) w b m cb k) (hn : n ≤ 50000) (hm : m ≤ 50000) :
 Calls Tryz.prog 27 #[.slice a n ca, .slice b m cb] w fun e w' => e = .returned (.bool (decide (l = k))) ∧ Below w.heap.size w w' := by
 have hS := St.start w
 have hG := guard_ch
 have hln := Lib.hid hl.len
 have hkn := Lib.hid hk.len
 have hll := Lib.hid (show ∀ x ∈ l, (chRow x).length = 2 from fun x hx => rfl)
 have hkl := Lib.hid (show ∀ x ∈ k, (chRow x).length = 2 from fun x hx => rfl)
 have hlb := Lib.hid (hl.base (by decide) hll.out)
 have hkb := Lib.hid (hk.base (by decide) hkl.out)
 have hE0 := Lib.hid fun (x y : Int × Int) (hx : x ∈ l) (hy : y ∈ k) (W : World) => neq_ch x y W
 by_cases hnm : n = m
 · subst hnm
   obtain ⟨R, hR⟩ : ∃ R, decide (l = k) = R := ⟨_, rfl⟩
   rw [hR]
   replace hR := Lib.hid hR
   replace hl := Lib.hid hl
   replace hk := Lib.hid hk
   go_enter Tryz.func27, Tryz.ntmps27
   go_wp2_with fail
   go_loopg [5] n (fun gk vx wr => ∃ j : Nat, j + gk = n ∧ vx = .int .i64 j ∧ Hid (l.take j = k.take j) ∧ St w [] [] wr)
   case atStart => exact ⟨0, Nat.zero_add _, rfl, Lib.hid rfl, hS⟩
   case round =>
    clear hS
    obtain ⟨j, hj, rfl, hr, hS⟩ := hrel
    by_cases hlt : j < n
    · have hjl : j < l.length := by rw [hln.out]; exact hlt
      have hjk : j < k.length := by rw [hkn.out]; exact hlt
      obtain ⟨b1, o1, rfl⟩ := hlb.out (by omega)
      obtain ⟨b2, o2, rfl⟩ := hkb.out (by omega)
      have hE := hE0.out l[j] k[j] (List.getElem_mem hjl) (List.getElem_mem hjk)
      have r1 := hl.out.rowb hll.out j hjl
      have r2 := hk.out.rowb hkl.out j hjk
      have l1 := hll.out _ (List.getElem_mem hjl)
      have l2 := hkl.out _ (List.getElem_mem hjk)
      have hsz : sizeB Tryz.prog 48 2 = true := by kernel_rfl
      have kR1 := hS.kold_row (P := Tryz.prog) (t := 48) r1 (by kernel_rfl) hsz l1
      have kR2 := hS.kold_row (P := Tryz.prog) (t := 48) r2 (by kernel_rfl) hsz l2
      clear r1 r2 l1 l2
      by_cases hx : l[j] = k[j]
      · have hr2 : l.take (j + 1) = k.take (j + 1) := by rw [List.take_succ_eq_append_getElem hjl, List.take_succ_eq_append_getElem hjk, hr.out, hx]
        rw [decide_eq_true hx] at hE
        simp only [Bool.not_true] at hE
        replace hr2 := Lib.hid hr2
        clear hx
        generalize chRow l[j] = R1 at *
        generalize chRow k[j] = R2 at *
        go_wp2_with fail
        refine mixs_begin (by kernel_rfl) hS ?_
        clear hS
        intro w2 hS
        refine tk 0 ?_
        refine tk 1 ?_
        refine tk 2 ?_
        refine tkr 3 kR1 ?_
        refine tk 4 ?_
        refine tk 5 ?_
        refine tk 6 ?_
        refine tkr 7 kR2 ?_
        refine tk 8 ?_
        refine wpAnyH_done (by kernel_rfl) ?_ _
        clear kR1 kR2
        go_wp2_with fail
        go_roundg (n - (j + 1))
        case measure => omega
        case rel => exact ⟨j + 1, by omega, by go_num, hr2, hS⟩
      · have hR2 : R = false := by
         rw [← hR.out, decide_eq_false_iff_not]
         intro e
         subst e
         exact hx rfl
        rw [decide_eq_false hx] at hE
        simp only [Bool.not_false] at hE
        replace hR2 := Lib.hid hR2
        clear hx
        generalize chRow l[j] = R1 at *
        generalize chRow k[j] = R2 at *
        go_wp2_with fail
        refine mixs_begin (by kernel_rfl) hS ?_
        clear hS
        intro w2 hS
        refine tk 0 ?_
        refine tk 1 ?_
        refine tk 2 ?_
        refine tkr 3 kR1 ?_
        refine tk 4 ?_
        refine tk 5 ?_
        refine tk 6 ?_
        refine tkr 7 kR2 ?_
        refine tk 8 ?_
        refine wpAnyH_done (by kernel_rfl) ?_ _
        clear kR1 kR2
        go_wp2_with fail
        go_ret
        exact ⟨by rw [hR2.out]; rfl, hS.below⟩
    · obtain rfl : j = n := by omega
      have hR2 : R = true := by
       rw [← hR.out, decide_eq_true_iff]
       have e1 := hr.out
       rwa [List.take_of_length_le (by rw [hln.out]; exact Nat.le_refl _), List.take_of_length_le (by rw [hkn.out]; exact Nat.le_refl _)] at e1
      replace hR2 := Lib.hid hR2
      go_wp2_with fail
      go_ret
      exact ⟨by rw [hR2.out]; rfl, hS.below⟩
 · have e : decide (l = k) = false := by rw [decide_eq_false_iff_not]; intro e; subst e; exact hnm (hln.out.symm.trans hkn.out)
   have hb : ((n : Int) != (m : Int)) = true := by simp; omega
   rw [e]
   replace hl := Lib.hid hl
   replace hk := Lib.hid hk
   clear hnm e
   go_enter Tryz.func27, Tryz.ntmps27
   go_wp2_with fail
   go_ret
   exact ⟨rfl, hS.below⟩
theorem cfeq_any (a b : Option Addr) (n m ca cb : Nat) (l k : List Cd) (w : World) (hl : Lst cdRow (fun x => x.f.length = 8) w a n ca l) (hk : Lst cdRow (fun x => x.f.length = 8) w b m cb k) (hn : n ≤ 50000) (hm : m ≤ 50000) :
 Calls Tryz.prog 103 #[.slice a n ca, .slice b m cb, .func (.func 104) #[] #[]] w fun e w' => e = .returned (.bool (decide (l = k))) ∧ Below w.heap.size w w' := by
 have hS := St.start w
 have ec := elem_card
 have c1 := Lib.hid (fun (a b : Cd) (ha : a.f.length = 8) (hb : b.f.length = 8) (W : World) => same1_any a b ha hb W)
 have hln := Lib.hid hl.len
 have hkn := Lib.hid hk.len
 have hlm := Lib.hid hl.mem
 have hkm := Lib.hid hk.mem
 have hll := Lib.hid (show ∀ x ∈ l, (cdRow x).length = 27 from fun x hx => cdRow_lenT _ (hl.mem x hx))
 have hkl := Lib.hid (show ∀ x ∈ k, (cdRow x).length = 27 from fun x hx => cdRow_lenT _ (hk.mem x hx))
 have hlb := Lib.hid (hl.base (by decide) hll.out)
 have hkb := Lib.hid (hk.base (by decide) hkl.out)
 by_cases hnm : n = m
 · subst hnm
   obtain ⟨R, hR⟩ : ∃ R, decide (l = k) = R := ⟨_, rfl⟩
   rw [hR]
   replace hR := Lib.hid hR
   replace hl := Lib.hid hl
   replace hk := Lib.hid hk
   go_enter Tryz.func103, Tryz.ntmps103
   go_wp2_with fail
   go_loopg [17] n (fun gk vx wr => ∃ j : Nat, j + gk = n ∧ vx = .int .i64 j ∧ Hid (l.take j = k.take j) ∧ St w [] [] wr)
   case atStart => exact ⟨0, Nat.zero_add _, rfl, Lib.hid rfl, hS⟩
   case round =>
    clear hS
    obtain ⟨j, hj, rfl, hr, hS⟩ := hrel
    by_cases hlt : j < n
    · have hjl : j < l.length := by rw [hln.out]; exact hlt
      have hjk : j < k.length := by rw [hkn.out]; exact hlt
      obtain ⟨b1, o1, rfl⟩ := hlb.out (by omega)
      obtain ⟨b2, o2, rfl⟩ := hkb.out (by omega)
      have cX := c1.out l[j] k[j] (hlm.out _ (List.getElem_mem hjl)) (hkm.out _ (List.getElem_mem hjk))
      have r1 := Lib.hid (hl.out.rowb hll.out j hjl)
      have r2 := Lib.hid (hk.out.rowb hkl.out j hjk)
      have l1 := hll.out _ (List.getElem_mem hjl)
      have l2 := hkl.out _ (List.getElem_mem hjk)
      have oa : (cdRow l[j]).all Value.oneCell' = true := cdRow_one _
      have ob : (cdRow k[j]).all Value.oneCell' = true := cdRow_one _
      have hca : sizeB Tryz.prog 58 (cdRow l[j]).toArray.size = true := by rw [List.size_toArray, l1]; kernel_rfl
      have hcb : sizeB Tryz.prog 58 (cdRow k[j]).toArray.size = true := by rw [List.size_toArray, l2]; kernel_rfl
      have hnx : l[j] = k[j] → l.take (j + 1) = k.take (j + 1) := by
       intro hx
       rw [List.take_succ_eq_append_getElem hjl, List.take_succ_eq_append_getElem hjk, hr.out, hx]
      have hno : l[j] ≠ k[j] → R = false := by
       intro hx
       rw [← hR.out, decide_eq_false_iff_not]
       intro e
       subst e
       exact hx rfl
      by_cases hx : l[j] = k[j]
      · have hr2 := Lib.hid (hnx hx)
        rw [decide_eq_true hx] at cX
        clear hnx hno hx
        replace cX := Lib.hid cX
        generalize cdRow l[j] = RA at *
        generalize cdRow k[j] = RB at *
        go_wp2_with (first | (go_at_call 104; (with_reducible refine (cX.out _).mono ?_); rintro _ w9 ⟨rfl, hk9⟩; replace hS := hS.keepB hk9; clear hk9) | ((with_reducible refine wpList_rangerow (t := 58) (n := 27) (range_old hS r1.out) rfl rfl rfl (by kernel_rfl) (by kernel_rfl) l1 ?_)) | ((with_reducible refine wpList_rangerow (t := 58) (n := 27) (range_old hS r2.out) rfl rfl rfl (by kernel_rfl) (by kernel_rfl) l2 ?_)) | ((with_reducible refine wpList_storerow_st (n := 27) (vs := RA) 0 hS rfl rfl rfl rfl (by kernel_rfl) rfl l1 oa (by kernel_rfl) ?_); clear hS; intro w1 hS; simp only [List.take_zero, List.nil_append, List.drop_succ_cons, List.drop_zero, List.drop_nil, List.append_nil] at hS) | ((with_reducible refine wpList_storerow_st (n := 27) (vs := RB) 0 hS rfl rfl rfl rfl (by kernel_rfl) rfl l2 ob (by kernel_rfl) ?_); clear hS; intro w1 hS; simp only [List.take_zero, List.nil_append, List.drop_succ_cons, List.drop_zero, List.drop_nil, List.append_nil] at hS) | ((with_reducible refine wpList_loadall_st 0 hS rfl rfl rfl rfl ?_ hcb ?_); focus (simp [rowB, go_sem]; done)) | ((with_reducible refine wpList_loadall_st 1 hS rfl rfl rfl rfl ?_ hca ?_); focus (simp [rowB, go_sem]; done)) | (with_reducible refine al hS rfl rfl ?_; clear hS; intro g1 w1 hS))
        go_roundg (n - (j + 1))
        case measure => omega
        case rel => exact ⟨j + 1, by omega, by go_num, hr2, hS.drop.drop⟩
      · have hR2 := Lib.hid (hno hx)
        rw [decide_eq_false hx] at cX
        clear hnx hno hx
        replace cX := Lib.hid cX
        generalize cdRow l[j] = RA at *
        generalize cdRow k[j] = RB at *
        go_wp2_with (first | (go_at_call 104; (with_reducible refine (cX.out _).mono ?_); rintro _ w9 ⟨rfl, hk9⟩; replace hS := hS.keepB hk9; clear hk9) | ((with_reducible refine wpList_rangerow (t := 58) (n := 27) (range_old hS r1.out) rfl rfl rfl (by kernel_rfl) (by kernel_rfl) l1 ?_)) | ((with_reducible refine wpList_rangerow (t := 58) (n := 27) (range_old hS r2.out) rfl rfl rfl (by kernel_rfl) (by kernel_rfl) l2 ?_)) | ((with_reducible refine wpList_storerow_st (n := 27) (vs := RA) 0 hS rfl rfl rfl rfl (by kernel_rfl) rfl l1 oa (by kernel_rfl) ?_); clear hS; intro w1 hS; simp only [List.take_zero, List.nil_append, List.drop_succ_cons, List.drop_zero, List.drop_nil, List.append_nil] at hS) | ((with_reducible refine wpList_storerow_st (n := 27) (vs := RB) 0 hS rfl rfl rfl rfl (by kernel_rfl) rfl l2 ob (by kernel_rfl) ?_); clear hS; intro w1 hS; simp only [List.take_zero, List.nil_append, List.drop_succ_cons, List.drop_zero, List.drop_nil, List.append_nil] at hS) | ((with_reducible refine wpList_loadall_st 0 hS rfl rfl rfl rfl ?_ hcb ?_); focus (simp [rowB, go_sem]; done)) | ((with_reducible refine wpList_loadall_st 1 hS rfl rfl rfl rfl ?_ hca ?_); focus (simp [rowB, go_sem]; done)) | (with_reducible refine al hS rfl rfl ?_; clear hS; intro g1 w1 hS))
        go_ret
        exact ⟨by rw [hR2.out]; rfl, hS.below⟩
    · obtain rfl : j = n := by omega
      have hR2 : R = true := by
       rw [← hR.out, decide_eq_true_iff]
       have e1 := hr.out
       rwa [List.take_of_length_le (by rw [hln.out]; exact Nat.le_refl _), List.take_of_length_le (by rw [hkn.out]; exact Nat.le_refl _)] at e1
      replace hR2 := Lib.hid hR2
      go_wp2_with fail
      go_ret
      exact ⟨by rw [hR2.out]; rfl, hS.below⟩
 · have e : decide (l = k) = false := by rw [decide_eq_false_iff_not]; intro e; subst e; exact hnm (hln.out.symm.trans hkn.out)
   have hb : ((n : Int) != (m : Int)) = true := by simp; omega
   rw [e]
   replace hl := Lib.hid hl
   replace hk := Lib.hid hk
   clear hnm e
   go_enter Tryz.func103, Tryz.ntmps103
   go_wp2_with fail
   go_ret
   exact ⟨rfl, hS.below⟩
theorem cdsame_any (a b : Option Addr) (n m ca cb : Nat) (l k : List Cd) (w : World) (hl : Lst cdRow (fun x => x.f.length = 8) w a n ca l) (hk : Lst cdRow (fun x => x.f.length = 8) w b m cb k) (hn : n ≤ 50000) (hm : m ≤ 50000) :
 Calls Tryz.prog 62 #[.slice a n ca, .slice b m cb] w fun e w' => e = .returned (.bool (decide (l = k))) ∧ Below w.heap.size w w' := by
 have hS := St.start w
 have cE := Lib.hid (cfeq_any a b n m ca cb l k w hl hk hn hm)
 clear hl hk
 generalize decide (l = k) = R at *
 go_enter Tryz.func62, Tryz.ntmps62
 go_wp2_with (go_at_call 103; (with_reducible refine cE.out.mono ?_); rintro _ w9 ⟨rfl, hk9⟩; replace hS := hS.keepB hk9; clear hk9)
 go_ret
 exact ⟨rfl, hS.below⟩
end Go.Proofs.YtneolmnpebiifaaGreatDoor
end
