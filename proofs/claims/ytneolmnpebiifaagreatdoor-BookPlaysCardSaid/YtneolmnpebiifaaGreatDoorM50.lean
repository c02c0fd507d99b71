import Derived.Test.YtneolmnpebiifaaGreatDoorM39
set_option linter.unusedVariables false
set_option linter.unusedSimpArgs false
set_option maxRecDepth 100000
section
namespace Go.Proofs.YtneolmnpebiifaaGreatDoor
open Go.RowKit Go.Ofp
set_option maxHeartbeats 8000000
theorem plays20_any (a : Option Addr) (n c : Nat) (l : List Ed) (fl : Int) (w : World) (hl : Lst edRow EdIn w a n c l) (ht : Tab w) :
 Calls Tryz.prog 4 #[.slice a n c, .int .i64 fl] w fun e w' => e = .returned (.bool true) ∧ Below w.heap.size w w' := by
 have hS := St.start w
 have ec := elem_card
 have eb := elem_rb
 have hG := guard_cd
 have cA := Lib.hid fun W h => awake20_any W h
 have cL := fun W h => long20_any a n c l W h
 have hlE := longE_len (l := l)
 rw [hl.len] at hlE
 have hl0 := Lib.hid (show ∀ W, Below w.heap.size w W → Lst edRow EdIn W a n c l from fun W h => hl.below h)
 obtain ⟨lg, hlg⟩ : ∃ b, longE l = b := ⟨_, rfl⟩
 rw [hlg] at cL hlE
 clear hlg
 replace cL := Lib.hid cL
 replace ht := Lib.hid ht
 cases lg
 case true =>
  clear hl hlE
  go_enter Tryz.func4, Tryz.ntmps4
  go_wp2_with (first | (go_at_call 7; (with_reducible refine (cL.out _ (hl0.out _ hS.below)).mono ?_); rintro _ w3 ⟨rfl, hk9⟩; replace hS := hS.keepB hk9; clear hk9) | (go_at_call 8; (with_reducible refine (cA.out _ (ht.out.fr hS.fr (by simp))).mono ?_); rintro _ w3 ⟨rfl, hk9⟩; replace hS := hS.keepB hk9; clear hk9))
  go_ret
  exact ⟨rfl, hS.below⟩
 have hn120 := hlE rfl
 clear hlE
 have hlen := Lib.hid hl.len
 have hlens := Lib.hid (show ∀ x ∈ l, (edRow x).length = 29 from fun x hx => edRow_len x (hl.mem x hx).p.len)
 have hbase := Lib.hid (hl.base (by decide) hlens.out)
 have hmem := Lib.hid hl.mem
 replace hl := Lib.hid hl
 have cN := Lib.hid fun W => show Calls Tryz.prog 9 #[] W fun e w' => ∃ g gs gm, e = .returned (.pointer (some ⟨g, 0, none⟩)) ∧ St W [] (bkV g gs gm BkS.new pv0) w' from bnew_any W
 have cM := Lib.hid fun W => rbnew_any W
 go_enter Tryz.func4, Tryz.ntmps4
 go_wp2_with (first | (go_at_call 7; (with_reducible refine (cL.out _ (hl0.out _ hS.below)).mono ?_); rintro _ w3 ⟨rfl, hk9⟩; replace hS := hS.keepB hk9; clear hk9) | (go_at_call 9; (with_reducible refine (cN.out _).mono ?_); rintro _ w3 ⟨g, gs, gm, rfl, hk9⟩; have hS1 : St w [] (bkV g gs gm BkS.new pv0) w3 := hS.made hk9; clear hS hk9; have hS := hS1; clear hS1) | (go_at_call 14; (with_reducible refine (cM.out _).mono ?_); rintro _ w3 ⟨rfl, hk9⟩; replace hS := hS.keepB hk9; clear hk9) | (with_reducible refine wpList_alloc_st (t := 53) hS rfl rfl eb ?_; clear hS; intro g2 w1 hS) | (with_reducible refine stor 0 hS rfl rfl rfl rfl rfl rfl rfl rfl ?_; clear hS; intro w1 hS))
 have hS1 : St w [] (bkV g gs gm BkS.new pv0 ++ (rbV g2 BkS.new rv0 :: [])) _ := St.rot (A := [_]) (B := bkV g gs gm BkS.new pv0) hS
 clear hS
 have hS := hS1
 clear hS1
 go_loopg [7] n (fun gk vx wr => ∃ (j : Nat) (b : BkS) (p : PV) (r : RV) (R : List Ch), j + gk = n ∧ vx = .int .i64 j ∧ Hid (Bth w b p r R j) ∧ St w [] (bkV g gs gm b p ++ (rbV g2 b r :: R)) wr)
 case atStart => exact ⟨0, BkS.new, pv0, rv0, [], Nat.zero_add _, rfl, Lib.hid (Bth.new w), hS⟩
 case round =>
  clear hS
  obtain ⟨j, b, p, r, R, hj, rfl, hBt, hS⟩ := hrel
  by_cases hlt : j < n
  case neg =>
   have hok := hBt.out.ok
   have cT := Lib.hid fun W h => btrim_any j g gs gm b p fl W h hok
   have cRT := Lib.hid fun W (h : St W (feet [rbV g2 b r]) [rbV g2 b r] W) (hd : ∀ W', Fr (feet [rbV g2 b r]) W W' → LD W' b.sh r.da r.dc) => rstrim_q g2 (.int .i64 b.seq) (.slice r.ga r.grs.length r.gc) b.sh r.ca r.cc r.da r.dc fl hok.sh W h hd
   have hok1 := Lib.hid (hok.trim fl)
   have hsz1 := (hok.trim fl).sz
   clear hok
   go_upto_region 15 with (first | (go_at_call 22; have q1 := hS.preM (A := []) (B := bkV g gs gm b p) (R := rbV g2 b r :: R); (with_reducible refine (cT.out _ q1).mono ?_); clear q1; rintro _ w3 ⟨rfl, da1, dc1, hk9⟩; have hS1 : St w [] (bkV g gs gm ⟨b.seq, b.sh.trim fl, b.ks⟩ ⟨p.ga, p.gc, p.grs, da1, dc1⟩ ++ ([rbV g2 b r] ++ R)) w3 := hS.callM (A := []) (B := bkV g gs gm b p) (R := rbV g2 b r :: R) hk9; clear hS hk9; have hS := hS1; clear hS1) | (go_at_call 23; have q1 := hS.preM (A := bkV g gs gm ⟨b.seq, b.sh.trim fl, b.ks⟩ ⟨p.ga, p.gc, p.grs, da1, dc1⟩) (B := [rbV g2 b r]) (R := R); have q2 := fun W' k => (hBt.out.or.at (A := bkV g gs gm ⟨b.seq, b.sh.trim fl, b.ks⟩ ⟨p.ga, p.gc, p.grs, da1, dc1⟩) (hS.offM (A := bkV g gs gm ⟨b.seq, b.sh.trim fl, b.ks⟩ ⟨p.ga, p.gc, p.grs, da1, dc1⟩) (B := [rbV g2 b r]) (R := R) (W := W') k)).ld; (with_reducible refine (cRT.out _ q1 q2).mono ?_); clear q1 q2; rintro _ w5 ⟨rfl, ca2, cc2, da2, dc2, L9, hk9, hKL⟩; have hS1 := hS.callM (A := bkV g gs gm ⟨b.seq, b.sh.trim fl, b.ks⟩ ⟨p.ga, p.gc, p.grs, da1, dc1⟩) (B := [rbV g2 b r]) (R := R) hk9; clear hS hk9; replace hKL := Lib.hid hKL; have hS := hS1; clear hS1))
   obtain ⟨b1, hb1⟩ : ∃ b1 : BkS, b1 = ⟨b.seq, b.sh.trim fl, b.ks⟩ := ⟨_, rfl⟩
   obtain ⟨p1, hp0⟩ : ∃ p1 : PV, p1 = ⟨p.ga, p.gc, p.grs, da1, dc1⟩ := ⟨_, rfl⟩
   obtain ⟨r1, hr0⟩ : ∃ r1 : RV, r1 = ⟨ca2, cc2, da2, dc2, r.ga, r.gc, r.grs⟩ := ⟨_, rfl⟩
   have hS1 : St w [] (bkV g gs gm b1 p1 ++ (rbV g2 b1 r1 :: (L9 ++ R))) w5 := by subst hb1 hp0 hr0; exact hS
   clear hS
   have hS := hS1
   clear hS1
   have hp1 : p1.at b1 w5 := by
    have h1 := hBt.out.op.at (A := (bkV g gs gm b1 p1 ++ [rbV g2 b1 r1]) ++ L9) (by simpa using hS)
    subst hb1 hp0
    exact ⟨h1.ks, h1.deep⟩
   have hr1 : r1.at b1 w5 := by
    have h1 := hBt.out.or.at (A := (bkV g gs gm b1 p1 ++ [rbV g2 b1 r1]) ++ L9) (by simpa using hS)
    have h2 := hKL.out w [] (bkV g gs gm b1 p1 ++ [rbV g2 b1 r1]) R w5 (by simpa using hS)
    subst hb1 hr0
    exact ⟨h1.ks, h2.1 h1.lc, h2.2 h1.ld, h1.deep⟩
   have hok2 : BkOk j b1 := by rw [hb1]; exact hok1.out
   have hsz2 := hok2.sz
   have hB := bkAt_of (A := []) (R := rbV g2 b1 r1 :: (L9 ++ R)) hS hp1
   have zr : w5.rangeAt g2 0 [.int .i64 b1.seq, .int .i64 b1.sh.next, .slice r1.ca b1.sh.m.length r1.cc, .slice r1.da b1.sh.dead.length r1.dc, .slice r1.ga r1.grs.length r1.gc] := Whole.range (hS.get 4 rfl) 0 fun k v hk => by simpa [rsRow] using hk
   have cDa := Lib.hid fun W (h : Below w5.heap.size w5 W) => bdata_any (hB.below h) hok2 (by omega)
   have cRD := Lib.hid fun W => rbdata_any b1 r1 W
   have cSm := fun (rr : RV) W (h : rr.at b1 W) (hb : Below w5.heap.size w5 W) => rbsame_any b1 b1 rr r1 W h (hr1.below hb) ⟨hsz2.1, hsz2.2⟩ ⟨hsz2.1, hsz2.2⟩
   rw [eqB_self] at cSm
   replace cSm := Lib.hid cSm
   have cSz := Lib.hid fun W => show Calls Tryz.prog 12 #[.agg #[.int .i64 0, .int .i64 0, .slice none 0 0, .slice none 0 0, .slice none 0 0], .agg #[.int .i64 0, .int .i64 0, .slice none 0 0, .slice none 0 0, .slice none 0 0]] W fun e w' => e = .returned (.bool true) ∧ Below W.heap.size W w' from by
    have h := rbsame_any bkz bkz rv0 rv0 W (rv0_z W) (rv0_z W) ⟨by decide, by decide⟩ ⟨by decide, by decide⟩
    rw [eqB_self] at h
    exact h
   have y1 := Lib.hid fun W => btrim_nil 1 W
   have y2 := Lib.hid fun W => show Calls Tryz.prog 11 #[.pointer none, .agg #[.int .i64 4, .int .i64 0, .int .i64 0, .int .u32 0, .int .u32 0, .int .i64 0, .int .i64 0, .string ⟨#[]⟩, .int .i64 0, .int .i64 0, .string ⟨#[]⟩, .int .i64 0, .int .i64 0, .string ⟨#[]⟩, .int .i64 0, .int .i64 0, .string ⟨#[]⟩, .int .i64 0, .int .i64 0, .string ⟨#[]⟩, .int .i64 0, .int .i64 0, .string ⟨#[]⟩, .int .i64 0, .int .i64 0, .string ⟨#[]⟩, .int .i64 0, .int .i64 0, .string ⟨#[]⟩]] W fun r w' => r = .returned (.tuple #[.slice none 0 0, .int .i64 14]) ∧ Below W.heap.size W w' from bdo_nil ⟨4, 0, 0, Pt.zero⟩ ⟨by decide, by decide, by decide, ptz_in⟩ W
   have y3 := fun W => bget_nil 1 W
   rw [sgV_zero] at y3
   replace y3 := Lib.hid y3
   have y4 := Lib.hid fun W => bgroups_nil 1 W
   have y5 := Lib.hid fun W => bseq_nil W
   have y6 := Lib.hid fun W => bcards_nil W
   have y7 := Lib.hid fun W => bdata_nil W
   have hOld := Lib.hid hS
   have cA2 := Lib.hid fun W (h : Below w5.heap.size w5 W) => cA.out W ((ht.out.fr hOld.out.fr (by simp)).fr (Fr.of_below h) (by simp))
   clear hS hB hp1 hr1 hb1 hp0 hr0 hBt hKL cT cRT hok2 hok1 hsz1 hsz2
   have hS := St.start w5
   go_wp2_with (first | (go_at_call 22; (with_reducible refine (y1.out _).mono ?_); rintro _ w3 ⟨rfl, hk9⟩; replace hS := hS.keepB hk9; clear hk9) | (go_at_call 11; (with_reducible refine (y2.out _).mono ?_); rintro _ w3 ⟨rfl, hk9⟩; replace hS := hS.keepB hk9; clear hk9) | (go_at_call 16; (with_reducible refine (y3.out _).mono ?_); rintro _ w3 ⟨rfl, hk9⟩; replace hS := hS.keepB hk9; clear hk9) | (with_reducible refine al hS rfl rfl ?_; clear hS; intro g1 w1 hS) | (with_reducible refine stor 0 hS rfl rfl rfl rfl rfl rfl rfl rfl ?_; clear hS; intro w1 hS))
   have kr := hS.empty.kold_row (P := Tryz.prog) (t := 53) zr (by kernel_rfl) (n := 5) (by kernel_rfl) rfl
   refine mixs_beginE (by kernel_rfl) hS ?_
   clear hS
   intro w6 hS hC
   refine tk 0 ?_
   refine tkr 2 kr ?_
   refine mixs_one 1 (by kernel_rfl) rfl (fun K hK => ?_)
   go_simp
   (go_at_call 10; (with_reducible refine (cDa.out _ hS.below).mono ?_); rintro _ w3 ⟨r3, L3, rfl, hk9, hk3⟩; have hr3 := hk3 _ _ [] [] _ (by rw [List.append_nil]; exact hk9) trivial; have hS1 := hS.made hk9; clear hk9 hk3 hS; replace hr3 := Lib.hid hr3; have hS := hS1; clear hS1)
   try clear hC
   refine cl hK (fun hC => ?_)
   clear hK K
   refine mixs_one 3 (by kernel_rfl) rfl (fun K hK => ?_)
   go_simp
   (go_at_call 24; (with_reducible refine (cRD.out _).mono ?_); rintro _ w3 ⟨rfl, hk9⟩; have hr4 := Lib.hid (hr3.out.below hk9); replace hS := hS.keepB hk9; clear hk9)
   try clear hC
   refine cl hK (fun hC => ?_)
   clear hK K
   refine mixs_one 4 (by kernel_rfl) rfl (fun K hK => ?_)
   go_simp
   (go_at_call 12; (with_reducible refine (cSm.out _ _ hr4.out hS.below).mono ?_); rintro _ w3 ⟨rfl, hk9⟩; replace hS := hS.keepB hk9; clear hk9)
   try clear hC
   refine cl hK (fun hC => ?_)
   clear hK K
   refine tk 5 ?_
   refine tk 6 ?_
   refine tk 7 ?_
   refine tk 8 ?_
   refine tk 9 ?_
   refine tk 10 ?_
   refine tk 11 ?_
   refine tk 12 ?_
   refine tk 13 ?_
   refine tk 14 ?_
   refine mixs_one 15 (by kernel_rfl) rfl (fun K hK => ?_)
   go_simp
   (go_at_call 18; (with_reducible refine (y4.out _).mono ?_); rintro _ w3 ⟨rfl, hk9⟩; replace hS := hS.keepB hk9; clear hk9)
   try clear hC
   refine cl hK (fun hC => ?_)
   clear hK K
   refine tk 16 ?_
   refine tk 17 ?_
   refine tk 18 ?_
   refine tk 19 ?_
   refine mixs_one 20 (by kernel_rfl) rfl (fun K hK => ?_)
   go_simp
   (go_at_call 25; (with_reducible refine (y5.out _).mono ?_); rintro _ w3 ⟨rfl, hk9⟩; replace hS := hS.keepB hk9; clear hk9)
   try clear hC
   refine cl hK (fun hC => ?_)
   clear hK K
   refine tk 21 ?_
   refine tk 22 ?_
   refine tk 23 ?_
   refine tk 24 ?_
   refine mixs_one 25 (by kernel_rfl) rfl (fun K hK => ?_)
   go_simp
   (go_at_call 21; (with_reducible refine (y6.out _).mono ?_); rintro _ w3 ⟨rfl, hk9⟩; replace hS := hS.keepB hk9; clear hk9)
   try clear hC
   refine cl hK (fun hC => ?_)
   clear hK K
   refine tk 26 ?_
   refine tk 27 ?_
   refine tk 28 ?_
   refine tk 29 ?_
   refine tk 30 ?_
   refine tk 32 ?_
   refine mixs_one 31 (by kernel_rfl) rfl (fun K hK => ?_)
   go_simp
   (go_at_call 10; (with_reducible refine (y7.out _).mono ?_); rintro _ w3 ⟨rfl, hk9⟩; replace hS := hS.keepB hk9; clear hk9)
   try clear hC
   refine cl hK (fun hC => ?_)
   clear hK K
   refine mixs_one 33 (by kernel_rfl) rfl (fun K hK => ?_)
   go_simp
   (go_at_call 12; (with_reducible refine (cSz.out _).mono ?_); rintro _ w3 ⟨rfl, hk9⟩; replace hS := hS.keepB hk9; clear hk9)
   try clear hC
   refine cl hK (fun hC => ?_)
   clear hK K
   refine tk 34 ?_
   refine tk 35 ?_
   refine mixs_one 36 (by kernel_rfl) rfl (fun K hK => ?_)
   go_simp
   (go_at_call 8; (with_reducible refine (cA2.out _ hS.below).mono ?_); rintro _ w3 ⟨rfl, hk9⟩; replace hS := hS.keepB hk9; clear hk9)
   try clear hC
   refine cl hK (fun hC => ?_)
   clear hK K
   refine tk 37 ?_
   refine tk 38 ?_
   refine wpAnyH_done (by kernel_rfl) ?_ _
   clear kr
   go_wp2_with fail
   go_ret
   exact ⟨rfl, (hOld.out.keepB hS.below).below⟩
  have hjl : j < l.length := by rw [hlen.out]; exact hlt
  obtain ⟨bb, off, rfl⟩ := hbase.out (by omega)
  have hrow := hl.out.rowb hlens.out j hjl
  have hin := hmem.out _ (List.getElem_mem hjl)
  have hel := hlens.out _ (List.getElem_mem hjl)
  generalize l[j] = x at *
  have hid : I64 x.id := hin.id
  have cD := Lib.hid fun W h => hBt.out.doesBoth x hin (by omega) ht.out (g := g) (gs := gs) (gm := gm) (g2 := g2) (W := W) h
  have z1x : w.cell? ⟨bb, off + j * 29 + 1, none⟩ = some (.int .i64 x.id) := hrow 1 _ rfl
  generalize edRow x = RE at *
  generalize x.id = xi at *
  generalize (b.does x).1 = b1 at *
  clear hin
  go_upto_region 9 with (first | (go_at_call 15; (with_reducible refine (cD.out _ hS).mono ?_); rintro _ w5 ⟨rfl, p1, r1, R1, hk9, hBt1⟩; clear hS; have hS := hk9; clear hk9; replace hBt1 := Lib.hid hBt1) | (with_reducible refine wpList_rangerow (t := 44) (n := 29) (range_old hS hrow) rfl rfl rfl (by kernel_rfl) (by kernel_rfl) hel ?_))
  have hp1 := hBt1.out.op.at (A := bkV g gs gm b1 p1 ++ [rbV g2 b1 r1]) hS
  have hr1 := hBt1.out.or.at (A := bkV g gs gm b1 p1 ++ [rbV g2 b1 r1]) hS
  have hB := bkAt_of (A := []) (R := rbV g2 b1 r1 :: R1) hS hp1
  have hok1 := hBt1.out.ok
  have hks := hr1.ks
  have z1 : w5.cell? ⟨bb, off + j * 29 + 1, none⟩ = some (.int .i64 xi) := hS.old z1x (by simp)
  have z2 : w5.cell? ⟨g2, 2, none⟩ = some (.slice r1.ca b1.sh.m.length r1.cc) := hS.cell 4 rfl 2
  have z4 : w5.cell? ⟨g2, 4, none⟩ = some (.slice r1.ga r1.grs.length r1.gc) := hS.cell 4 rfl 4
  have zr : w5.rangeAt g2 1 [.int .i64 b1.sh.next, .slice r1.ca b1.sh.m.length r1.cc, .slice r1.da b1.sh.dead.length r1.dc] := Whole.range (hS.get 4 rfl) 1 fun k v hk => by
   match k, hk with
   | 0, hk => exact hk
   | 1, hk => exact hk
   | 2, hk => exact hk
  have hgf := get_f hok1.sh xi
  have hgl := cdRow_lenT _ hgf
  have hgo := cdRow_oneT (b1.sh.get xi).1
  have hgV : sgV (b1.sh.get xi) = .tuple #[.agg (cdRow (b1.sh.get xi).1).toArray, .int .i64 (b1.sh.get xi).2] := rfl
  have cG := fun W (h : Below w5.heap.size w5 W) => bget_any xi hid (hB.below h) hok1
  have cRG := fun W (h : Below w5.heap.size w5 W) => rsget_any b1.sh r1.ca r1.cc r1.da r1.dc xi W (hr1.lc.below h) (hr1.ld.below h)
  have hRr : rsRow b1.sh r1.ca r1.cc r1.da r1.dc = [.int .i64 b1.sh.next, .slice r1.ca b1.sh.m.length r1.cc, .slice r1.da b1.sh.dead.length r1.dc] := rfl
  rw [hgV] at cG cRG
  rw [hRr] at cRG
  have cO := Lib.hid fun W (h : Below w5.heap.size w5 W) => bgroups_any xi (hB.below h) hok1 (by omega)
  have hkk : OkK (keys r1.grs) := by rw [hks]; exact hok1.ks.ok (by omega)
  have cRO := fun W (h : Below w5.heap.size w5 W) => rgof_any r1.ga r1.grs r1.grs.length r1.gc xi W (hr1.deep.below h) (by have := hkk.nn; omega) hkk.no
  rw [hks] at cRO
  replace cRO := Lib.hid cRO
  have cCa := Lib.hid fun W (h : Below w5.heap.size w5 W) => bcards_any (hB.below h) hok1
  have hsz1 := hok1.sz
  have cSm := fun (a2 : Option Addr) (c2 : Nat) W h1 (h : Below w5.heap.size w5 W) => csame_any a2 r1.ca b1.sh.m.length b1.sh.m.length c2 r1.cc b1.sh.m b1.sh.m W h1 (hr1.lc.below h) hsz1.1 hsz1.1
  rw [decide_eq_true rfl] at cSm
  replace cSm := Lib.hid cSm
  have hfl := Lib.hid hok1.sh.fl
  have hE := fun W => neq_cd (b1.sh.get xi).1 (b1.sh.get xi).1 hgf hgf W
  simp only [decide_true, Bool.not_true] at hE
  have hOld := Lib.hid hS
  clear hS hB hp1 hr1 hks hkk hBt cD hok1 hgV hRr hgf
  have hS := St.start w5
  generalize hGR : cdRow (b1.sh.get xi).1 = GR at *
  generalize (b1.sh.get xi).2 = ge at *
  generalize ofK b1.ks xi = og at *
  have hge : (ge != ge) = false := by simp
  have hrg : (GR.toArray.toList.drop 0).take 27 = GR := by simp [← hgl]
  replace cG := Lib.hid cG
  replace cRG := Lib.hid cRG
  clear hGR
  go_upto_region 10 with (first | (go_at_call 16; (with_reducible refine (cG.out _ hS.below).mono ?_); rintro _ w3 ⟨rfl, hk9⟩; replace hS := hS.keepB hk9; clear hk9) | (with_reducible refine wpList_alloc_st (t := 58) hS rfl rfl ec ?_; clear hS; intro gc1 w1 hS) | ((with_reducible refine wpList_storerow_st (t := 58) (n := 27) (vs := GR) 0 hS rfl rfl rfl rfl (by kernel_rfl) rfl hgl hgo (by kernel_rfl) ?_); clear hS; intro w1 hS; try simp only [List.set_cons_zero, List.set_cons_succ, List.setIfInBounds_toArray, List.take_succ_cons, List.take_zero, List.drop_succ_cons, List.drop_zero, List.nil_append, List.cons_append, List.append_nil, List.drop_nil, List.take_nil, List.length_cons, List.length_nil, Nat.zero_add, Nat.add_zero, Nat.reduceAdd] at hS))
  go_cut [10, 11] from 45 to 55 (fun v10 v11 wc => ∃ (gc2 : Nat), v10 = .pointer (some ⟨gc2, 0, none⟩) ∧ v11 = .int .i64 ge ∧ St w5 [] [Ch.blk gc2 58 GR.toArray, Ch.blk gc1 58 GR.toArray] wc)
  case first =>
   have k1 := hS.empty.kold0 z1
   have kr := hS.empty.kold_row (P := Tryz.prog) (t := 51) zr (by kernel_rfl) (n := 3) (by kernel_rfl) rfl
   refine mixs_beginE (by kernel_rfl) hS ?_
   clear hS
   intro w6 hS hC
   refine tk 0 ?_
   refine tkr 1 kr ?_
   refine tk 2 ?_
   refine tk 3 ?_
   refine tk 4 ?_
   refine tk 5 ?_
   refine tk 6 ?_
   refine mixs_two 7 11 (by kernel_rfl) rfl rfl (fun K hK => ?_) (fun K hK => ?_)
   ·
    go_simp
    (go_at_call 17; (with_reducible refine (cRG.out _ hS.below).mono ?_); rintro _ w3 ⟨rfl, hk9⟩; replace hS := hS.keepB hk9; clear hk9)
    try clear hC
    refine cl hK (fun hC => ?_)
    clear hK K
    refine tk 8 ?_
    refine tk 9 ?_
    refine tk 10 ?_
    refine mixs_one 11 (by kernel_rfl) rfl (fun K hK => ?_)
    refine op_alloc_st (by kernel_rfl) rfl (by assumption) hS ?_
    clear hS; intro g1 w1 hS
    try clear hC
    refine cl hK (fun hC => ?_)
    clear hK K
    refine mixs_one 12 (by kernel_rfl) rfl (fun K hK => ?_)
    (refine op_storerow_st (vs := GR) (n := 27) (by kernel_rfl) 0 hS rfl rfl rfl (by kernel_rfl) rfl hgl hgo rfl ?_; clear hS; intro w1 hS; try simp only [List.set_cons_zero, List.set_cons_succ, List.setIfInBounds_toArray, List.take_succ_cons, List.take_zero, List.drop_succ_cons, List.drop_zero, List.nil_append, List.cons_append, List.append_nil, List.drop_nil, List.take_nil, List.length_cons, List.length_nil, Nat.zero_add, Nat.add_zero, Nat.reduceAdd] at hS)
    try clear hC
    refine cl hK (fun hC => ?_)
    clear hK K
    refine tk 13 ?_
    refine wpAnyH_done (by kernel_rfl) ?_ _
    clear k1 kr
    go_wp2_with fail
    go_meet
    exact ⟨g1, rfl, rfl, hS⟩
   ·
    refine op_alloc_st (by kernel_rfl) rfl (by assumption) hS ?_
    clear hS; intro g1 w1 hS
    try clear hC
    refine cl hK (fun hC => ?_)
    clear hK K
    refine mixs_one 7 (by kernel_rfl) rfl (fun K hK => ?_)
    go_simp
    (go_at_call 17; (with_reducible refine (cRG.out _ hS.below).mono ?_); rintro _ w3 ⟨rfl, hk9⟩; replace hS := hS.keepB hk9; clear hk9)
    try clear hC
    refine cl hK (fun hC => ?_)
    clear hK K
    refine tk 8 ?_
    refine tk 9 ?_
    refine tk 10 ?_
    refine mixs_one 12 (by kernel_rfl) rfl (fun K hK => ?_)
    (refine op_storerow_st (vs := GR) (n := 27) (by kernel_rfl) 0 hS rfl rfl rfl (by kernel_rfl) rfl hgl hgo rfl ?_; clear hS; intro w1 hS; try simp only [List.set_cons_zero, List.set_cons_succ, List.setIfInBounds_toArray, List.take_succ_cons, List.take_zero, List.drop_succ_cons, List.drop_zero, List.nil_append, List.cons_append, List.append_nil, List.drop_nil, List.take_nil, List.length_cons, List.length_nil, Nat.zero_add, Nat.add_zero, Nat.reduceAdd] at hS)
    try clear hC
    refine cl hK (fun hC => ?_)
    clear hK K
    refine tk 13 ?_
    refine wpAnyH_done (by kernel_rfl) ?_ _
    clear k1 kr
    go_wp2_with fail
    go_meet
    exact ⟨g1, rfl, rfl, hS⟩
  case rest =>
   clear hS
   obtain ⟨gc2, rfl, rfl, hS⟩ := hcut
   go_wp2_with fail
   have k1 := hS.kold0 z1
   have k2 := hS.kold0 z2
   have k4 := hS.kold0 z4
   have k8 := hS.krow (P := Tryz.prog) (j := 0) 1 rfl (t := 58) (by kernel_rfl) (n := 27) (by kernel_rfl) hrg hgl
   have k9 := hS.krow (P := Tryz.prog) (j := 0) 0 rfl (t := 58) (by kernel_rfl) (n := 27) (by kernel_rfl) hrg hgl
   refine mixs_begin (by kernel_rfl) hS ?_
   clear hS
   intro w7 hS
   refine tkr 0 k8 ?_
   refine tkr 1 k9 ?_
   refine tk 2 ?_
   refine tk 3 ?_
   refine tk 4 ?_
   refine tk 5 ?_
   refine tk 6 ?_
   refine tk 7 ?_
   refine tk 8 ?_
   refine tk 9 ?_
   refine tk 10 ?_
   refine tk 11 ?_
   refine tk 12 ?_
   refine tk 13 ?_
   refine tk 14 ?_
   refine tk 16 ?_
   refine tk 17 ?_
   refine tk 18 ?_
   refine tk 19 ?_
   refine tk 20 ?_
   refine tk 21 ?_
   refine tk 22 ?_
   refine mixs_one 15 (by kernel_rfl) rfl (fun K hK => ?_)
   go_simp
   (go_at_call 18; (with_reducible refine (cO.out _ hS.below).mono ?_); rintro _ w3 ⟨rfl, hk9⟩; replace hS := hS.keepB hk9; clear hk9)
   try clear hC
   refine cl hK (fun hC => ?_)
   clear hK K
   refine mixs_one 23 (by kernel_rfl) rfl (fun K hK => ?_)
   go_simp
   (go_at_call 19; (with_reducible refine (cRO.out _ hS.below).mono ?_); rintro _ _ ⟨rfl, rfl⟩)
   try clear hC
   refine cl hK (fun hC => ?_)
   clear hK K
   refine tk 24 ?_
   refine tk 25 ?_
   refine tk 26 ?_
   refine tk 27 ?_
   refine tk 29 ?_
   refine tk 30 ?_
   refine tk 31 ?_
   refine mixs_one 28 (by kernel_rfl) rfl (fun K hK => ?_)
   go_simp
   (go_at_call 21; (with_reducible refine (cCa.out _ hS.below).mono ?_); rintro _ w3 ⟨a5, c5, rfl, hk9⟩; have hS1 := hS.made hk9; clear hS hk9; have hS := hS1; clear hS1)
   try clear hC
   refine cl hK (fun hC => ?_)
   clear hK K
   refine mixs_one 32 (by kernel_rfl) rfl (fun K hK => ?_)
   go_simp
   (go_at_call 20; (with_reducible refine (cSm.out _ _ _ (hS.lst 0 rfl rfl hfl.out) hS.below).mono ?_); rintro _ w3 ⟨rfl, hk9⟩; replace hS := hS.keepB hk9; clear hk9)
   try clear hC
   refine cl hK (fun hC => ?_)
   clear hK K
   refine tk 33 ?_
   refine tk 34 ?_
   refine wpAnyH_done (by kernel_rfl) ?_ _
   clear k1 k2 k4 k8 k9 hE
   go_wp2_with fail
   go_roundg (n - (j + 1))
   case measure => omega
   case rel => exact ⟨j + 1, b1, p1, r1, R1, by omega, by go_num, hBt1, hOld.out.keepB hS.below⟩
end Go.Proofs.YtneolmnpebiifaaGreatDoor
end
