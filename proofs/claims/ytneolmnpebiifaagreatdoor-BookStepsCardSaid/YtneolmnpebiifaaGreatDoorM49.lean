import Derived.Test.YtneolmnpebiifaaGreatDoorM40
import Derived.Test.YtneolmnpebiifaaGreatDoorM48
set_option linter.unusedVariables false
set_option linter.unusedSimpArgs false
set_option maxRecDepth 100000
section
namespace Go.Ofp
theorem Ovr.moreR {w0 : World} {p : World → Prop} {R : List Ch} (h : Ovr w0 p R) (L : List Ch) : Ovr w0 p (R ++ L) := fun A B W hW => h A (L ++ B) W (by simpa using hW)
end Go.Ofp
namespace Go.Proofs.YtneolmnpebiifaaGreatDoor
open Go.RowKit Go.Ofp
set_option maxHeartbeats 8000000
theorem steps20_any (a : Option Addr) (n c : Nat) (l : List Ed) (w : World) (hl : Lst edRow EdIn w a n c l) (ht : Tab w) :
 Calls Tryz.prog 3 #[.slice a n c] w fun e w' => e = .returned (.bool true) ∧ Below w.heap.size w w' := by
 have hS := St.start w
 have eb := elem_bd
 have cA := Lib.hid fun W h => awake20_any W h
 have cL := fun W h => long20_any a n c l W h
 have hlE := longE_len (l := l)
 rw [hl.len] at hlE
 have hl0 := Lib.hid (show ∀ W, Below w.heap.size w W → Lst edRow EdIn W a n c l from fun W h => hl.below h)
 obtain ⟨lg, hlg⟩ : ∃ b, longE l = b := ⟨_, rfl⟩
 rw [hlg] at cL hlE
 clear hlg
 replace cL := Lib.hid cL
 replace ht := Lib.hid ht
 cases lg
 case true =>
  clear hl hlE
  go_enter Tryz.func3, Tryz.ntmps3
  go_wp2_with (first | (go_at_call 7; (with_reducible refine (cL.out _ (hl0.out _ hS.below)).mono ?_); rintro _ w3 ⟨rfl, hk9⟩; replace hS := hS.keepB hk9; clear hk9) | (go_at_call 8; (with_reducible refine (cA.out _ (ht.out.fr hS.fr (by simp))).mono ?_); rintro _ w3 ⟨rfl, hk9⟩; replace hS := hS.keepB hk9; clear hk9))
  go_ret
  exact ⟨rfl, hS.below⟩
 have hn120 := hlE rfl
 clear hlE
 have hlen := Lib.hid hl.len
 have hlens := Lib.hid (show ∀ x ∈ l, (edRow x).length = 29 from fun x hx => edRow_len x (hl.mem x hx).p.len)
 have hbase := Lib.hid (hl.base (by decide) hlens.out)
 have hmem := Lib.hid hl.mem
 replace hl := Lib.hid hl
 have cN := Lib.hid fun W => show Calls Tryz.prog 9 #[] W fun e w' => ∃ g gs gm, e = .returned (.pointer (some ⟨g, 0, none⟩)) ∧ St W [] (bkV g gs gm BkS.new pv0) w' from bnew_any W
 go_enter Tryz.func3, Tryz.ntmps3
 go_wp2_with (first | (go_at_call 7; (with_reducible refine (cL.out _ (hl0.out _ hS.below)).mono ?_); rintro _ w3 ⟨rfl, hk9⟩; replace hS := hS.keepB hk9; clear hk9) | (go_at_call 9; (with_reducible refine (cN.out _).mono ?_); rintro _ w3 ⟨g, gs, gm, rfl, hk9⟩; have hS1 : St w [] (bkV g gs gm BkS.new pv0 ++ []) w3 := hS.made hk9; clear hS hk9; have hS := hS1; clear hS1))
 go_loopg [4] n (fun gk vx wr => ∃ (j : Nat) (b : BkS) (p : PV) (R : List Ch), j + gk = n ∧ vx = .int .i64 j ∧ Hid (BkOk j b) ∧ Hid (Ovr w (p.at b) R) ∧ St w [] (bkV g gs gm b p ++ R) wr)
 case atStart => exact ⟨0, BkS.new, pv0, [], Nat.zero_add _, rfl, Lib.hid (BkOk.new 0), Lib.hid (pv0_ovr w []), hS⟩
 case round =>
  clear hS
  obtain ⟨j, b, p, R, hj, rfl, hok, hO, hS⟩ := hrel
  by_cases hlt : j < n
  case neg =>
   go_wp2_with ((go_at_call 8; (with_reducible refine (cA.out _ (ht.out.fr hS.fr (by simp))).mono ?_); rintro _ w3 ⟨rfl, hk9⟩; replace hS := hS.keepB hk9; clear hk9))
   go_ret
   exact ⟨rfl, hS.below⟩
  have hjl : j < l.length := by rw [hlen.out]; exact hlt
  obtain ⟨bb, off, rfl⟩ := hbase.out (by omega)
  have hrow := hl.out.rowb hlens.out j hjl
  have hin := hmem.out _ (List.getElem_mem hjl)
  have hel := hlens.out _ (List.getElem_mem hjl)
  generalize l[j] = x at *
  have cD := fun (p : PV) (A R : List Ch) W h1 h2 => bdo_law (g := g) (gs := gs) (gm := gm) (b := b) (p := p) (A := A) (R := R) (W := W) (w0 := w) x hin h1 h2 hok.out (by omega) ht.out
  have hok1 := hok.out.does x hin.p.lab (by omega)
  have herr := does_err (b := b) (e := x)
  have hdid := does_did hok.out (e := x) hin.p.lab
  have hsq := hok.out.seq
  generalize edRow x = RE at *
  obtain ⟨RR, hRR⟩ : ∃ RR, b.does x = RR := ⟨_, rfl⟩
  rw [hRR] at cD hok1 herr hdid
  clear hRR hin
  obtain ⟨b1, X, er⟩ := RR
  simp only at cD hok1 herr hdid
  have cDa := fun W (h : BkAt g gs gm b p W) => bdata_any h hok.out (by omega)
  have cDb := fun (p1 : PV) W (h : BkAt g gs gm b1 p1 W) => bdata_any h hok1 (by omega)
  simp only [bdRow_eq] at cDa cDb
  replace cD := Lib.hid cD
  replace cDa := Lib.hid cDa
  replace cDb := Lib.hid cDb
  replace hok1 := Lib.hid hok1
  replace herr := Lib.hid herr
  replace hdid := Lib.hid hdid
  go_upto_region 8 with (first | (go_at_call 10; have q1 := bkAt_of (A := []) (R := R) hS (hO.out.at (A := bkV g gs gm b p) hS); (with_reducible refine (cDa.out _ q1).mono ?_); clear q1; rintro _ w3 ⟨r3, L3, rfl, hk9, hk3⟩; have hS1 : St w [] (bkV g gs gm b p ++ (R ++ L3)) w3 := St.rot (A := L3) (hS.made hk9); clear hS hk9; replace hk3 := Lib.hid hk3; have hS := hS1; clear hS1) | (with_reducible refine wpList_alloc_st (t := 31) hS rfl rfl eb ?_; clear hS; intro g5 w1 hS) | (with_reducible refine stor 0 hS rfl rfl rfl rfl rfl rfl rfl rfl ?_; clear hS; intro w1 hS))
  go_upto_region 9 with (first | (go_at_call 11; have hS0 : St w [] ([Ch.blk g5 31 #[.int .i64 b.seq, .int .i64 b.sh.next, .slice r3.ca b.sh.m.length r3.cc, .slice r3.da b.sh.dead.length r3.dc, .slice r3.ga r3.grs.length r3.gc]] ++ (bkV g gs gm b p ++ (R ++ L3))) _ := hS; (with_reducible refine (cD.out p [Ch.blk g5 31 #[.int .i64 b.seq, .int .i64 b.sh.next, .slice r3.ca b.sh.m.length r3.cc, .slice r3.da b.sh.dead.length r3.dc, .slice r3.ga r3.grs.length r3.gc]] (R ++ L3) _ hS0 (hO.out.moreR L3)).mono ?_); clear hS0; rintro _ w3 ⟨p1, a3, c3, L, rfl, hk9, hO1⟩; clear hS; have hS := hk9; clear hk9; replace hO1 := Lib.hid hO1) | (with_reducible refine wpList_rangerow (t := 44) (n := 29) (range_old hS hrow) rfl rfl rfl (by kernel_rfl) (by kernel_rfl) hel ?_))
  go_upto_region 10 with (first | (go_at_call 10; have q1 := bkAt_of (A := [Ch.blk g5 31 #[.int .i64 b.seq, .int .i64 b.sh.next, .slice r3.ca b.sh.m.length r3.cc, .slice r3.da b.sh.dead.length r3.dc, .slice r3.ga r3.grs.length r3.gc]]) (R := Ch.row 48 2 (.slice a3 X.length c3) X.length (chRows X) :: (L ++ (R ++ L3))) hS (hO1.out.at (A := Ch.blk g5 31 #[.int .i64 b.seq, .int .i64 b.sh.next, .slice r3.ca b.sh.m.length r3.cc, .slice r3.da b.sh.dead.length r3.dc, .slice r3.ga r3.grs.length r3.gc] :: (bkV g gs gm b1 p1 ++ [Ch.row 48 2 (.slice a3 X.length c3) X.length (chRows X)])) hS); (with_reducible refine (cDb.out p1 _ q1).mono ?_); clear q1; rintro _ w3 ⟨r4, L4, rfl, hk9, hk4⟩; have hS1 : St w [] (Ch.blk g5 31 #[.int .i64 b.seq, .int .i64 b.sh.next, .slice r3.ca b.sh.m.length r3.cc, .slice r3.da b.sh.dead.length r3.dc, .slice r3.ga r3.grs.length r3.gc] :: (bkV g gs gm b1 p1 ++ (Ch.row 48 2 (.slice a3 X.length c3) X.length (chRows X) :: ((L ++ (R ++ L3)) ++ L4)))) w3 := St.rot (A := L4) (hS.made hk9); clear hS hk9; replace hk4 := Lib.hid hk4; have hS := hS1; clear hS1) | (with_reducible refine wpList_alloc_st (t := 31) hS rfl rfl eb ?_; clear hS; intro g8 w6 hS) | (with_reducible refine stor 0 hS rfl rfl rfl rfl rfl rfl rfl rfl ?_; clear hS; intro w1 hS))
  rename World => w6
  have hS1 : St w [] (Ch.blk g8 31 #[.int .i64 b1.seq, .int .i64 b1.sh.next, .slice r4.ca b1.sh.m.length r4.cc, .slice r4.da b1.sh.dead.length r4.dc, .slice r4.ga r4.grs.length r4.gc] :: Ch.blk g5 31 #[.int .i64 b.seq, .int .i64 b.sh.next, .slice r3.ca b.sh.m.length r3.cc, .slice r3.da b.sh.dead.length r3.dc, .slice r3.ga r3.grs.length r3.gc] :: (bkV g gs gm b1 p1 ++ (Ch.row 48 2 (.slice a3 X.length c3) X.length (chRows X) :: ((L ++ (R ++ L3)) ++ L4)))) w6 := hS
  clear hS
  have hS := hS1
  clear hS1
  have h3 : r3.at b w6 := hk3.out w [] (Ch.blk g8 31 #[.int .i64 b1.seq, .int .i64 b1.sh.next, .slice r4.ca b1.sh.m.length r4.cc, .slice r4.da b1.sh.dead.length r4.dc, .slice r4.ga r4.grs.length r4.gc] :: Ch.blk g5 31 #[.int .i64 b.seq, .int .i64 b.sh.next, .slice r3.ca b.sh.m.length r3.cc, .slice r3.da b.sh.dead.length r3.dc, .slice r3.ga r3.grs.length r3.gc] :: (bkV g gs gm b1 p1 ++ (Ch.row 48 2 (.slice a3 X.length c3) X.length (chRows X) :: (L ++ R)))) L4 w6 (by simpa using hS) trivial
  have h4 : r4.at b1 w6 := hk4.out w [] (Ch.blk g8 31 #[.int .i64 b1.seq, .int .i64 b1.sh.next, .slice r4.ca b1.sh.m.length r4.cc, .slice r4.da b1.sh.dead.length r4.dc, .slice r4.ga r4.grs.length r4.gc] :: Ch.blk g5 31 #[.int .i64 b.seq, .int .i64 b.sh.next, .slice r3.ca b.sh.m.length r3.cc, .slice r3.da b.sh.dead.length r3.dc, .slice r3.ga r3.grs.length r3.gc] :: (bkV g gs gm b1 p1 ++ (Ch.row 48 2 (.slice a3 X.length c3) X.length (chRows X) :: (L ++ (R ++ L3))))) [] w6 (by simpa using hS) trivial
  have hO2 : Ovr w (p1.at b1) (Ch.row 48 2 (.slice a3 X.length c3) X.length (chRows X) :: ((L ++ (R ++ L3)) ++ L4)) := (hO1.out.moreR L4).more [Ch.row 48 2 (.slice a3 X.length c3) X.length (chRows X)]
  have lX : Lst chRow (fun _ => True) w6 a3 X.length c3 X := hS.lst (e := 48) (size := 2) 6 rfl rfl (fun _ _ => trivial)
  have szb := hok.out.sz
  have szb1 := hok1.out.sz
  have hwx : IntKind.i64.wrap ((j : Int) + 1) = (j : Int) + 1 := IntWalk.i64_in _ (by omega)
  clear hk3 hk4 hO hO1 cD cDa cDb hrow hel
  by_cases her : er = 0
  case neg =>
   obtain ⟨hb1, hX1⟩ := herr.out her
   have q1 : (er != 0) = true := by simpa using her
   subst hX1
   subst hb1
   have cSm := fun W (hb : Below w6.heap.size w6 W) => rbsame_any b1 b1 r3 r4 W (h3.below hb) (h4.below hb) ⟨szb.1, szb.2⟩ ⟨szb.1, szb.2⟩
   rw [eqB_self] at cSm
   simp only [bdRow_eq] at cSm
   replace cSm := Lib.hid cSm
   replace hO2 := Lib.hid hO2
   clear her herr hdid h3 h4 lX
   have hbel := Below.refl w6.heap.size w6
   go_wp2_with (first | ((with_reducible refine wpList_gloadrow_st (t := 31) (n := 5) (j := 0) (vs := [.int .i64 b1.seq, .int .i64 b1.sh.next, .slice r3.ca b1.sh.m.length r3.cc, .slice r3.da b1.sh.dead.length r3.dc, .slice r3.ga r3.grs.length r3.gc]) 1 hS rfl (by with_unfolding_all rfl) rfl rfl ?_ (by kernel_rfl) rfl rfl ?_); focus (simp [rowB, go_sem]; done)) | ((with_reducible refine wpList_gloadrow_st (t := 31) (n := 5) (j := 0) (vs := [.int .i64 b1.seq, .int .i64 b1.sh.next, .slice r4.ca b1.sh.m.length r4.cc, .slice r4.da b1.sh.dead.length r4.dc, .slice r4.ga r4.grs.length r4.gc]) 0 hS rfl (by with_unfolding_all rfl) rfl rfl ?_ (by kernel_rfl) rfl rfl ?_); focus (simp [rowB, go_sem]; done)) | (go_at_call 12; (with_reducible refine (cSm.out _ hbel).mono ?_); rintro _ w7 ⟨rfl, hk9⟩; replace hS := hS.keepB hk9; clear hk9))
   go_roundg (n - (j + 1))
   case measure => omega
   case rel => exact ⟨j + 1, b1, p1, _, by omega, by go_num, hok1, hO2, hS.drop.drop⟩
  subst her
  obtain ⟨T, hXT, hsq1, hT1, hT2, hsame⟩ := hdid.out rfl
  have hXl : X.length = T.length := by rw [hXT, stepsL_len]
  have q1 : ((X.length : Int) == 0) = false := by rw [beq_eq_false_iff_ne]; omega
  have hw2 : IntKind.i64.wrap (b.seq + (X.length : Int)) = b.seq + X.length := IntWalk.i64_in _ (by omega)
  have q2 : (b1.seq != b.seq + (X.length : Int)) = false := by simp [hsq1, hXl]
  have z8 : w6.cell? ⟨g8, 0, none⟩ = some (.int .i64 b1.seq) := hS.cell 0 rfl 0
  have z5 : w6.cell? ⟨g5, 0, none⟩ = some (.int .i64 b.seq) := hS.cell 1 rfl 0
  have zr5 : w6.rangeAt g5 0 [.int .i64 b.seq, .int .i64 b.sh.next, .slice r3.ca b.sh.m.length r3.cc, .slice r3.da b.sh.dead.length r3.dc, .slice r3.ga r3.grs.length r3.gc] := Whole.range (hS.get 1 rfl) 0 fun k v hk => by simpa using hk
  have zr8 : w6.rangeAt g8 0 [.int .i64 b1.seq, .int .i64 b1.sh.next, .slice r4.ca b1.sh.m.length r4.cc, .slice r4.da b1.sh.dead.length r4.dc, .slice r4.ga r4.grs.length r4.gc] := Whole.range (hS.get 0 rfl) 0 fun k v hk => by simpa using hk
  have hXe : ∀ k (hk : k < X.length), X[k] = (b.seq + k + 1, T[k]'(by omega)) := by
   intro k hk
   subst hXT
   exact stepsL_get T b.seq k (by omega)
  have hXc : ∀ z, z < X.length → ∃ bX oX tz, a3 = some ⟨bX, oX, none⟩ ∧ w6.cell? ⟨bX, oX + z * 2, none⟩ = some (.int .i64 (b.seq + z + 1)) ∧ w6.cell? ⟨bX, oX + z * 2 + 1, none⟩ = some (.int .i64 tz) ∧ (T.take (z + 1)).map vi = (T.take z).map vi ++ [.int .i64 tz] := by
   intro z hz
   obtain ⟨bX, oX, rfl⟩ := lX.base (by decide) (fun x _ => chRow_len x) (by omega)
   have hr := lX.rowb (fun x _ => chRow_len x) z hz
   rw [hXe z hz] at hr
   have hzT : z < T.length := by omega
   exact ⟨bX, oX, T[z], rfl, hr 0 _ rfl, hr 1 _ rfl, by rw [List.take_succ_eq_append_getElem hzT, List.map_append]; rfl⟩
  have cOt := fun (ta : Option Addr) (tc : Nat) W (hb : Below w6.heap.size w6 W) h5 => others20_any j (j + 1) b b1 r3 r4 ta X.length tc T W (h3.below hb) (h4.below hb) hok.out hok1.out (by omega) (by omega) h5 hXl.symm (by omega) hsame
  simp only [bdRow_eq] at cOt
  replace cOt := Lib.hid cOt
  replace hO2 := Lib.hid hO2
  replace hXc := Lib.hid hXc
  have hTl := Lib.hid hXl.symm
  have hOld := Lib.hid hS
  have hk0 : 1 ≤ X.length ∧ X.length ≤ 500 := by omega
  clear hS herr hdid h3 h4 lX hsame hXT hsq1 hXe hXl hT1 hT2
  generalize X.length = k at *
  have q1b : (k == 0) = false := by rw [beq_eq_false_iff_ne]; omega
  have hS := St.start w6
  go_wp2_with (((with_reducible refine wpList_build0_st hS rfl rfl Tryz.underlying46 elem_i ?_); clear hS; intro g9 w7 hS))
  clear q1 q1b q2 hw2 z8
  go_loopg [9, 10] k (fun gk vt vk wr => ∃ (z : Nat) (ta : Option Addr) (tc : Nat), z + gk = k ∧ vk = .int .i64 z ∧ vt = .slice ta z tc ∧ St w6 [] [Ch.row 3 1 (.slice ta z tc) z ((T.take z).map vi)] wr)
  case atStart => exact ⟨0, _, _, Nat.zero_add _, rfl, rfl, hS⟩
  case round =>
   clear hS
   obtain ⟨z, ta, tc, hz, rfl, rfl, hS⟩ := hrel
   by_cases hlz : z < k
   · obtain ⟨bX, oX, tz, rfl, c0, c1, hnx⟩ := hXc.out z hlz
     replace hnx := Lib.hid hnx
     have hw3 : IntKind.i64.wrap (b.seq + (z : Int)) = b.seq + z := IntWalk.i64_in _ (by omega)
     have hw4 : IntKind.i64.wrap (b.seq + (z : Int) + 1) = b.seq + z + 1 := IntWalk.i64_in _ (by omega)
     have q3 : (b.seq + (z : Int) + 1 != b.seq + (z : Int) + 1) = false := by simp
     have hz1 : z ≤ 5000 := by omega
     go_wp2_with fail
     have k0 := hS.empty.kold0 c0
     have k5 := hS.empty.kold0 z5
     refine mixs_beginE (by kernel_rfl) hS ?_
     clear hS
     intro w8 hS hC
     refine tk 0 ?_
     refine tk 1 ?_
     refine tk 2 ?_
     refine tk 3 ?_
     refine tk 4 ?_
     refine tk 5 ?_
     refine tk 6 ?_
     refine tk 7 ?_
     refine tk 8 ?_
     refine tk 9 ?_
     refine tk 10 ?_
     refine wpAnyH_done (by kernel_rfl) ?_ _
     clear k0 k5 q3
     have c2 := hS.old c1 (by simp)
     go_wp2_with (first | ((with_reducible refine wpList_build1c_st hS rfl rfl Tryz.underlying46 elem_i rfl ?_); clear hS; intro g7 w7 hS) | (at_builtin; (with_reducible refine wpList_app_st (news := [.int .i64 tz]) (m := 1) 1 hS rfl rfl rfl Tryz.underlying46 elem_i rfl (Src.slice Tryz.underlying46 (hS.blksl2 0 rfl) rfl) rfl (by simp [Value.oneCell']) (by omega) (by unfold maxLen; omega) ?_); intro v6 w6 hS1; clear hS; simp only [List.set_cons_zero, List.set_cons_succ] at hS1; obtain ⟨a6, c6, rfl, -⟩ := hS1.row 1 rfl; have hS := hS1.drop; clear hS1))
     go_roundg (k - (z + 1))
     case measure => omega
     case rel => exact ⟨z + 1, a6, c6, by omega, by go_num, rfl, by rw [hnx.out]; exact hS⟩
   have hzk : z = k := by omega
   subst hzk
   rw [List.take_of_length_le (by rw [hTl.out]; exact Nat.le_refl _)] at hS
   go_wp2_with (first | (with_reducible refine wpList_rangerow (t := 31) (n := 5) (range_old hS zr5) rfl rfl rfl (by kernel_rfl) (by kernel_rfl) rfl ?_) | (with_reducible refine wpList_rangerow (t := 31) (n := 5) (range_old hS zr8) rfl rfl rfl (by kernel_rfl) (by kernel_rfl) rfl ?_) | (go_at_call 13; (with_reducible refine (cOt.out _ _ _ hS.below (hS.rowsl 0 rfl)).mono ?_); rintro _ w7 ⟨rfl, hk9⟩; replace hS := hS.keepB hk9; clear hk9))
   go_roundg (n - (j + 1))
   case measure => omega
   case rel => exact ⟨j + 1, b1, p1, _, by omega, by go_num, hok1, hO2, (hOld.out.keepB hS.below).drop.drop⟩
end Go.Proofs.YtneolmnpebiifaaGreatDoor
end
