import Derived.Test.YtneolmnpebiifaaGreatDoorM42
set_option linter.unusedVariables false
set_option linter.unusedSimpArgs false
set_option maxRecDepth 100000
section
namespace Go.Ofp
theorem Stp.last {w0 W : World} {F : List Nat} {p q : World → Prop} {A L : List Ch} (h : Stp p q L) (hS : St w0 F (A ++ L) W) (hp : p W) : q W := h w0 F A [] W (by rw [List.append_nil]; exact hS) hp
theorem Ovr.wide {w0 : World} {p : World → Prop} {R : List Ch} (h : Ovr w0 p R) (L : List Ch) : Ovr w0 p (R ++ L) := fun A B W hW => h A (L ++ B) W (by simpa using hW)
end Go.Ofp
namespace Go.Proofs.YtneolmnpebiifaaGreatDoor
open Go.RowKit Go.Ofp
set_option maxHeartbeats 8000000
theorem longE_short {l : List Ed} (h : longE l = false) : l.length ≤ 120 := by
 unfold longE at h
 simp at h
 omega
theorem again20_any (a : Option Addr) (n c : Nat) (l : List Ed) (a2 : Option Addr) (n2 c2 : Nat) (l2 : List Ed) (w : World) (hl : Lst edRow EdIn w a n c l) (hm : Lst edRow EdIn w a2 n2 c2 l2) (ht : Tab w) :
 Calls Tryz.prog 5 #[.slice a n c, .slice a2 n2 c2] w fun e w' => e = .returned (.bool true) ∧ Below w.heap.size w w' := by
 have hS := St.start w
 have cA := Lib.hid fun W h => awake20_any W h
 have cL := fun W (h : Below w.heap.size w W) => long20_any a n c l W (hl.below h)
 have cM := fun W (h : Below w.heap.size w W) => long20_any a2 n2 c2 l2 W (hm.below h)
 have hlE := longE_short (l := l)
 have hmE := longE_short (l := l2)
 rw [hl.len] at hlE
 rw [hm.len] at hmE
 obtain ⟨lg, hlg⟩ : ∃ b, longE l = b := ⟨_, rfl⟩
 obtain ⟨mg, hmg⟩ : ∃ b, longE l2 = b := ⟨_, rfl⟩
 rw [hlg] at cL hlE
 rw [hmg] at cM hmE
 clear hlg hmg
 replace cL := Lib.hid cL
 replace cM := Lib.hid cM
 replace ht := Lib.hid ht
 cases lg
 case true =>
  clear hl hm hlE hmE
  go_enter Tryz.func5, Tryz.ntmps5
  go_wp2_with (first | (go_at_call 7; (with_reducible refine (cL.out _ hS.below).mono ?_); rintro _ w3 ⟨rfl, hk9⟩; replace hS := hS.keepB hk9; clear hk9) | (go_at_call 8; (with_reducible refine (cA.out _ (ht.out.fr hS.fr (by simp))).mono ?_); rintro _ w3 ⟨rfl, hk9⟩; replace hS := hS.keepB hk9; clear hk9))
  go_ret
  exact ⟨rfl, hS.below⟩
 cases mg
 case true =>
  clear hl hm hlE hmE
  go_enter Tryz.func5, Tryz.ntmps5
  go_wp2_with (first | (go_at_call 7; (with_reducible refine (cL.out _ hS.below).mono ?_); rintro _ w3 ⟨rfl, hk9⟩; replace hS := hS.keepB hk9; clear hk9) | (go_at_call 7; (with_reducible refine (cM.out _ hS.below).mono ?_); rintro _ w3 ⟨rfl, hk9⟩; replace hS := hS.keepB hk9; clear hk9) | (go_at_call 8; (with_reducible refine (cA.out _ (ht.out.fr hS.fr (by simp))).mono ?_); rintro _ w3 ⟨rfl, hk9⟩; replace hS := hS.keepB hk9; clear hk9))
  go_ret
  exact ⟨rfl, hS.below⟩
 have hn120 := hlE rfl
 have hm120 := hmE rfl
 clear hlE hmE
 have hlen := Lib.hid hl.len
 have hlens := Lib.hid (show ∀ x ∈ l, (edRow x).length = 29 from fun x hx => edRow_len x (hl.mem x hx).p.len)
 have hbase := Lib.hid (hl.base (by decide) hlens.out)
 have hmem := Lib.hid hl.mem
 have hlen2 := Lib.hid hm.len
 have hlens2 := Lib.hid (show ∀ x ∈ l2, (edRow x).length = 29 from fun x hx => edRow_len x (hm.mem x hx).p.len)
 have hbase2 := Lib.hid (hm.base (by decide) hlens2.out)
 have hmem2 := Lib.hid hm.mem
 replace hl := Lib.hid hl
 replace hm := Lib.hid hm
 have cN := Lib.hid fun W => show Calls Tryz.prog 9 #[] W fun e w' => ∃ g gs gm, e = .returned (.pointer (some ⟨g, 0, none⟩)) ∧ St W [] (bkV g gs gm BkS.new pv0) w' from bnew_any W
 go_enter Tryz.func5, Tryz.ntmps5
 go_wp2_with (first | (go_at_call 7; (with_reducible refine (cL.out _ hS.below).mono ?_); rintro _ w3 ⟨rfl, hk9⟩; replace hS := hS.keepB hk9; clear hk9) | (go_at_call 7; (with_reducible refine (cM.out _ hS.below).mono ?_); rintro _ w3 ⟨rfl, hk9⟩; replace hS := hS.keepB hk9; clear hk9) | (go_at_call 9; (with_reducible refine (cN.out _).mono ?_); rintro _ w3 ⟨g, gs, gm, rfl, hk9⟩; have hS1 : St w [] (bkV g gs gm BkS.new pv0 ++ []) w3 := hS.made hk9; clear hS hk9; have hS := hS1; clear hS1))
 clear cL cM
 go_loopg [6] n (fun gk vx wr => ∃ (j : Nat) (b : BkS) (p : PV) (R : List Ch), j + gk = n ∧ vx = .int .i64 j ∧ Hid (BkIn j b) ∧ Hid (Ovr w (p.at b) R) ∧ St w [] (bkV g gs gm b p ++ R) wr)
 case atStart => exact ⟨0, BkS.new, pv0, [], Nat.zero_add _, rfl, Lib.hid BkIn.new, Lib.hid (pv0_ovr w []), hS⟩
 case round =>
  clear hS
  obtain ⟨j, b, p, R, hj, rfl, hin, hO, hS⟩ := hrel
  by_cases hlt : j < n
  case pos =>
   have hjl : j < l.length := by rw [hlen.out]; exact hlt
   obtain ⟨bb, off, rfl⟩ := hbase.out (by omega)
   have hrow := hl.out.rowb hlens.out j hjl
   have hx := hmem.out _ (List.getElem_mem hjl)
   have hel := hlens.out _ (List.getElem_mem hjl)
   generalize l[j] = x at *
   have cD := fun (p : PV) (A R : List Ch) W h1 h2 => bdo_law (g := g) (gs := gs) (gm := gm) (b := b) (p := p) (A := A) (R := R) (W := W) (w0 := w) x hx h1 h2 hin.out.ok (by omega) ht.out
   have hin1 := hin.out.did x hx.p.len hx.p.lab (by omega)
   generalize edRow x = RE at *
   obtain ⟨RR, hRR⟩ : ∃ RR, b.does x = RR := ⟨_, rfl⟩
   rw [hRR] at cD hin1
   clear hRR hx
   obtain ⟨b1, X, er⟩ := RR
   simp only at cD hin1
   replace cD := Lib.hid cD
   replace hin1 := Lib.hid hin1
   go_wp2_with (first | (go_at_call 11; have hS0 : St w [] ([] ++ (bkV g gs gm b p ++ R)) _ := hS; (with_reducible refine (cD.out p [] R _ hS0 hO.out).mono ?_); clear hS0; rintro _ w3 ⟨p1, a3, c3, L, rfl, hk9, hO1⟩; clear hS; have hS := hk9; clear hk9; replace hO1 := Lib.hid hO1) | (with_reducible refine wpList_rangerow (t := 44) (n := 29) (range_old hS hrow) rfl rfl rfl (by kernel_rfl) (by kernel_rfl) hel ?_))
   have hO2 := Lib.hid (hO1.out.more [Ch.row 48 2 (.slice a3 X.length c3) X.length (chRows X)])
   go_roundg (n - (j + 1))
   case measure => omega
   case rel => exact ⟨j + 1, b1, p1, _, by omega, by go_num, hin1, hO2, hS⟩
  have hjn : j = n := by omega
  subst hjn
  have hkk : OkK b.ks := hin.out.ok.ks.ok (by omega)
  have hkl := hkk.len
  have hkm := Lib.hid hkk.mem
  have hr := Lib.hid (hin.out.right (by omega))
  have cDa := fun W (h : BkAt g gs gm b p W) => bdata_any h hin.out.ok (by omega)
  have cLd := fun (r : RV) W (h : r.at b W) => (bload_any b r W h (by omega) (fun k hk => by have := hkm.out k hk; omega)).mono (show ∀ e w', Loads20 b W e w' → ∃ g gs gm p L, e = .returned (.tuple #[.pointer (some ⟨g, 0, none⟩), .bool true]) ∧ St W [] (bkV g gs gm b p ++ L) w' ∧ Stp (fun _ => True) (p.at b) L from by
   rintro e w' (⟨-, h1⟩ | ⟨h1, -⟩)
   · exact h1
   · rw [hr.out] at h1; cases h1)
  simp only [bdRow_eq] at cDa cLd
  replace cDa := Lib.hid cDa
  replace cLd := Lib.hid cLd
  have hok0 := Lib.hid hin.out.ok
  clear hkk hin hkl hkm
  go_wp2_with (first | (go_at_call 10; have q1 := bkAt_of (A := []) (R := R) hS (hO.out.at (A := bkV g gs gm b p) hS); (with_reducible refine (cDa.out _ q1).mono ?_); clear q1; rintro _ w3 ⟨r3, L3, rfl, hk9, hk3⟩; have hS1 : St w [] (bkV g gs gm b p ++ (R ++ L3)) w3 := St.rot (A := L3) (hS.made hk9); clear hS hk9; replace hk3 := Lib.hid hk3; have hS := hS1; clear hS1) | (go_at_call 26; have q1 : r3.at b _ := hk3.out w [] (bkV g gs gm b p ++ R) [] _ (by simpa using hS) trivial; (with_reducible refine (cLd.out r3 _ q1).mono ?_); clear q1; rintro _ w3 ⟨g2, gs2, gm2, p2, L4, rfl, hk9, hk4⟩; have hS1 : St w [] (bkV g2 gs2 gm2 b p2 ++ (bkV g gs gm b p ++ (L4 ++ (R ++ L3)))) w3 := St.mid (A := bkV g2 gs2 gm2 b p2) (B := L4) (C := bkV g gs gm b p) (R := R ++ L3) (by have := hS.made hk9; rwa [List.append_assoc] at this); clear hS hk9; replace hk4 := Lib.hid hk4; have hS := hS1; clear hS1))
  have hOa := Lib.hid ((hO.out.wide L3).more L4)
  have hOb := Lib.hid ((Stp.ovr hk4.out (w0 := w)).wide (R ++ L3))
  clear cDa cLd hO hk3 hk4 hr
  go_loopg [9] n2 (fun gk vx wr => ∃ (k : Nat) (b : BkS) (p p2 : PV) (R : List Ch), k + gk = n2 ∧ vx = .int .i64 k ∧ Hid (BkOk (j + k) b) ∧ Hid (Ovr w (p.at b) R) ∧ Hid (Ovr w (p2.at b) R) ∧ St w [] (bkV g2 gs2 gm2 b p2 ++ (bkV g gs gm b p ++ R)) wr)
  case atStart => exact ⟨0, b, p, p2, _, Nat.zero_add _, rfl, hok0, hOa, hOb, hS⟩
  case round =>
   clear hS hOa hOb hok0
   obtain ⟨k, b, p, p2, R, hk, rfl, hok, hO, hP, hS⟩ := hrel
   by_cases hlk : k < n2
   case neg =>
    go_wp2_with ((go_at_call 8; (with_reducible refine (cA.out _ (ht.out.fr hS.fr (by simp))).mono ?_); rintro _ w3 ⟨rfl, hk9⟩; replace hS := hS.keepB hk9; clear hk9))
    go_ret
    exact ⟨rfl, hS.below⟩
   have hjl : k < l2.length := by rw [hlen2.out]; exact hlk
   obtain ⟨bb, off, rfl⟩ := hbase2.out (by omega)
   have hrow := hm.out.rowb hlens2.out k hjl
   have hx := hmem2.out _ (List.getElem_mem hjl)
   have hel := hlens2.out _ (List.getElem_mem hjl)
   generalize l2[k] = x at *
   have cD := fun (g gs gm : Nat) (p : PV) (A R : List Ch) W h1 h2 => bdo_law (g := g) (gs := gs) (gm := gm) (b := b) (p := p) (A := A) (R := R) (W := W) (w0 := w) x hx h1 h2 hok.out (by omega) ht.out
   have hok1 := hok.out.does x hx.p.lab (by omega)
   have hXc := does_count hok.out hx.p.lab
   generalize edRow x = RE at *
   obtain ⟨RR, hRR⟩ : ∃ RR, b.does x = RR := ⟨_, rfl⟩
   rw [hRR] at cD hok1 hXc
   clear hRR hx
   obtain ⟨b1, X, er⟩ := RR
   simp only at cD hok1 hXc
   have q0 : (er != er) = false := by simp
   have cDb := fun (g gs gm : Nat) (p1 : PV) W (h : BkAt g gs gm b1 p1 W) => bdata_any h hok1 (by omega)
   have szb1 := hok1.sz
   simp only [bdRow_eq] at cDb
   replace cD := Lib.hid cD
   replace cDb := Lib.hid cDb
   replace hok1 := Lib.hid hok1
   go_upto_region 16 with (first | (go_at_call 11; (with_reducible refine (cD.out g gs gm p (bkV g2 gs2 gm2 b p2) R _ hS hO.out).mono ?_); rintro _ w3 ⟨p1, a3, c3, L, rfl, hk9, hO1⟩; have hS1 : St w [] ((bkV g gs gm b1 p1 ++ [Ch.row 48 2 (.slice a3 X.length c3) X.length (chRows X)]) ++ (bkV g2 gs2 gm2 b p2 ++ (L ++ R))) w3 := St.mid (A := []) (B := bkV g2 gs2 gm2 b p2) (C := bkV g gs gm b1 p1 ++ [Ch.row 48 2 (.slice a3 X.length c3) X.length (chRows X)]) (R := L ++ R) (by simpa using hk9); clear hS hk9; have hS := hS1; clear hS1; replace hO1 := Lib.hid hO1) | (go_at_call 11; (with_reducible refine (cD.out g2 gs2 gm2 p2 (bkV g gs gm b1 p1 ++ [Ch.row 48 2 (.slice a3 X.length c3) X.length (chRows X)]) (L ++ R) _ hS (hP.out.more L)).mono ?_); rintro _ w3 ⟨p3, a5, c5, L2, rfl, hk9, hP1⟩; clear hS; have hS := hk9; clear hk9; replace hP1 := Lib.hid hP1) | (with_reducible refine wpList_rangerow (t := 44) (n := 29) (range_old hS hrow) rfl rfl rfl (by kernel_rfl) (by kernel_rfl) hel ?_))
   rename World => w5
   have hOa : Ovr w (p1.at b1) (L2 ++ (L ++ R)) := hO1.out.more L2
   have hPa : Ovr w (p3.at b1) (L2 ++ (L ++ R)) := hP1.out
   obtain ⟨T, hT⟩ : ∃ T, L2 ++ (L ++ R) = T := ⟨_, rfl⟩
   rw [hT] at hS hOa hPa
   have lX1 : Lst chRow (fun _ => True) w5 a3 X.length c3 X := hS.lst (e := 48) (size := 2) 4 rfl rfl (fun _ _ => trivial)
   have lX2 : Lst chRow (fun _ => True) w5 a5 X.length c5 X := hS.lst (e := 48) (size := 2) 9 rfl rfl (fun _ _ => trivial)
   have cCh := fun W (h : Below w5.heap.size w5 W) => changes_any a3 a5 X.length X.length c3 c5 X X W (lX1.below h) (lX2.below h) (by omega) (by omega)
   rw [decide_eq_true rfl] at cCh
   have cSm := fun (r4 r5 : RV) W h1 h2 => rbsame_any b1 b1 r4 r5 W h1 h2 ⟨szb1.1, szb1.2⟩ ⟨szb1.1, szb1.2⟩
   rw [eqB_self] at cSm
   simp only [bdRow_eq] at cSm
   replace cSm := Lib.hid cSm
   replace cCh := Lib.hid cCh
   replace hOa := Lib.hid hOa
   replace hPa := Lib.hid hPa
   have hbel := Below.refl w5.heap.size w5
   clear hT hO1 hP1 lX1 lX2 cD hrow hel hO hP
   go_wp2_with (first | (go_at_call 27; (with_reducible refine (cCh.out _ hbel).mono ?_); rintro _ w3 ⟨rfl, hk9⟩; clear hbel; replace hS := hS.keepB hk9; clear hk9) | (go_at_call 10; have hS0 : St w [] (bkV g gs gm b1 p1 ++ (Ch.row 48 2 (.slice a3 X.length c3) X.length (chRows X) :: (bkV g2 gs2 gm2 b1 p3 ++ (Ch.row 48 2 (.slice a5 X.length c5) X.length (chRows X) :: T)))) _ := hS; have q1 := bkAt_of (A := []) (R := Ch.row 48 2 (.slice a3 X.length c3) X.length (chRows X) :: (bkV g2 gs2 gm2 b1 p3 ++ (Ch.row 48 2 (.slice a5 X.length c5) X.length (chRows X) :: T))) hS0 (hOa.out.at (A := (bkV g gs gm b1 p1 ++ [Ch.row 48 2 (.slice a3 X.length c3) X.length (chRows X)]) ++ (bkV g2 gs2 gm2 b1 p3 ++ [Ch.row 48 2 (.slice a5 X.length c5) X.length (chRows X)])) hS0); (with_reducible refine (cDb.out g gs gm p1 _ q1).mono ?_); clear q1 hS0; rintro _ w3 ⟨r4, L5, rfl, hk9, hk5⟩; have hS0 := St.rot (A := L5) (hS.made hk9); have q4 : Hid (r4.at b1 w3) := Lib.hid (hk5.last hS0 trivial); clear hS hk9 hk5; have hS : St w [] ((bkV g gs gm b1 p1 ++ [Ch.row 48 2 (.slice a3 X.length c3) X.length (chRows X)]) ++ (bkV g2 gs2 gm2 b1 p3 ++ (Ch.row 48 2 (.slice a5 X.length c5) X.length (chRows X) :: (T ++ L5)))) w3 := hS0; clear hS0) | (go_at_call 10; have q1 := bkAt_of (A := bkV g gs gm b1 p1 ++ [Ch.row 48 2 (.slice a3 X.length c3) X.length (chRows X)]) (R := Ch.row 48 2 (.slice a5 X.length c5) X.length (chRows X) :: (T ++ L5)) hS ((hPa.out.wide L5).at (A := (bkV g gs gm b1 p1 ++ [Ch.row 48 2 (.slice a3 X.length c3) X.length (chRows X)]) ++ (bkV g2 gs2 gm2 b1 p3 ++ [Ch.row 48 2 (.slice a5 X.length c5) X.length (chRows X)])) hS); (with_reducible refine (cDb.out g2 gs2 gm2 p3 _ q1).mono ?_); clear q1; rintro _ w3 ⟨r5, L6, rfl, hk9, hk6⟩; have hS0 := St.rot (A := L6) (hS.made hk9); have q5 : Hid (r5.at b1 w3) := Lib.hid (hk6.last hS0 trivial); have q6 : Hid (r4.at b1 w3) := Lib.hid (q4.out.below hk9.below); clear hS hk9 hk6 q4; have hS : St w [] ((bkV g gs gm b1 p1 ++ [Ch.row 48 2 (.slice a3 X.length c3) X.length (chRows X)]) ++ (bkV g2 gs2 gm2 b1 p3 ++ (Ch.row 48 2 (.slice a5 X.length c5) X.length (chRows X) :: ((T ++ L5) ++ L6)))) w3 := hS0; clear hS0) | (go_at_call 12; (with_reducible refine (cSm.out r4 r5 _ q6.out q5.out).mono ?_); clear q5 q6; rintro _ w3 ⟨rfl, hk9⟩; replace hS := hS.keepB hk9; clear hk9))
   have hOz := Lib.hid (((hOa.out.wide L5).wide L6).more [Ch.row 48 2 (.slice a3 X.length c3) X.length (chRows X), Ch.row 48 2 (.slice a5 X.length c5) X.length (chRows X)])
   have hPz := Lib.hid (((hPa.out.wide L5).wide L6).more [Ch.row 48 2 (.slice a3 X.length c3) X.length (chRows X), Ch.row 48 2 (.slice a5 X.length c5) X.length (chRows X)])
   go_roundg (n2 - (k + 1))
   case measure => omega
   case rel => exact ⟨k + 1, b1, p1, p3, _, by omega, by go_num, hok1, hOz, hPz, St.mid (A := []) (B := bkV g gs gm b1 p1 ++ [Ch.row 48 2 (.slice a3 X.length c3) X.length (chRows X)]) (C := bkV g2 gs2 gm2 b1 p3) (R := Ch.row 48 2 (.slice a5 X.length c5) X.length (chRows X) :: ((T ++ L5) ++ L6)) hS⟩
end Go.Proofs.YtneolmnpebiifaaGreatDoor
end
