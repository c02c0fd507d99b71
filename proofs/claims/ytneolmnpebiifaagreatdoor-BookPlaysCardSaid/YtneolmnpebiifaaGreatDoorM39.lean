import Derived.Test.YtneolmnpebiifaaGreatDoorM38
set_option linter.unusedVariables false
set_option linter.unusedSimpArgs false
set_option maxRecDepth 100000
section
namespace Go.Ofp
open Go.RowKit
theorem Stp.atLast {p q : World → Prop} {w0 W : World} {F : List Nat} {A L1 L2 : List Ch} (k : Stp p q L1) (hS : St w0 F (A ++ (L2 ++ L1)) W) (h : p W) : q W := k w0 F (A ++ L2) [] W (by rw [List.append_nil, List.append_assoc]; exact hS) h
theorem Stp.wide {p q : World → Prop} {L : List Ch} (k : Stp p q L) (A B : List Ch) : Stp p q (A ++ (L ++ B)) := fun w0 F A1 B1 W hW h => k w0 F (A1 ++ A) (B ++ B1) W (by simpa using hW) h
theorem does_len {n : Nat} {b : BkS} (h : BkOk n b) (e : Ed) (hp : e.p.lab < 4294967296) : (b.does e).2.1.length ≤ n + 1 := by
 unfold BkS.does
 split
 · exact Nat.zero_le _
 · split
   · exact Nat.zero_le _
   · split
     · exact Nat.zero_le _
     · rename_i h1 h2 h3
       have := (act_ok h e hp (Decidable.not_not.1 h3)).2.2.1
       show (stepsL b.seq (b.act e).2.1).length ≤ _
       rw [stepsL_len]
       exact this
theorem BkOk.sz {n : Nat} {b : BkS} (h : BkOk n b) : b.sh.m.length ≤ 50000 ∧ b.sh.dead.length ≤ 50000 := ⟨by have := h.sh.len; omega, by have := h.sh.dlen; omega⟩
theorem feet_left {A B : List Ch} {g : Nat} (h : g ∈ feet A) : g ∈ feet (A ++ B) := by rw [feet_append]; exact List.mem_append_left _ h
theorem feet_right {A B : List Ch} {g : Nat} (h : g ∈ feet B) : g ∈ feet (A ++ B) := by rw [feet_append]; exact List.mem_append_right _ h
end Go.Ofp
namespace Go.Proofs.YtneolmnpebiifaaGreatDoor
open Go.RowKit Go.Ofp
set_option maxHeartbeats 8000000
theorem build_bd5 (a b : Int) (c1 : Option Addr) (n1 d1 : Nat) (c2 : Option Addr) (n2 d2 : Nat) (c3 : Option Addr) (n3 d3 : Nat) (w : World) : (Instr.build 31 #[(0, .int .i64 a), (1, .int .i64 b), (2, .slice c1 n1 d1), (3, .slice c2 n2 d2), (4, .slice c3 n3 d3)]).run Tryz.prog w = .ok (.agg #[.int .i64 a, .int .i64 b, .slice c1 n1 d1, .slice c2 n2 d2, .slice c3 n3 d3]) w := by kernel_rfl
theorem rbdata_any (b : BkS) (r : RV) (w : World) : Calls Tryz.prog 24 #[.agg #[.int .i64 b.seq, .int .i64 b.sh.next, .slice r.ca b.sh.m.length r.cc, .slice r.da b.sh.dead.length r.dc, .slice r.ga r.grs.length r.gc]] w fun e w' => e = .returned (.agg (bdRow b r).toArray) ∧ Below w.heap.size w w' := by
 have hS := St.start w
 have eb := elem_bd
 have hB := build_bd5
 rw [bdRow_eq]
 generalize b.sh.m.length = n1
 generalize b.sh.dead.length = n2
 generalize r.grs.length = n3
 go_enter Tryz.func24, Tryz.ntmps24
 go_wp2_with (first | (with_reducible refine wpList_box_st hS rfl rfl rfl ?_; clear hS; intro g1 w1 hS) | (with_reducible refine al hS rfl rfl ?_; clear hS; intro g1 w1 hS) | (with_reducible refine stor 0 hS rfl rfl rfl rfl rfl rfl rfl rfl ?_; clear hS; intro w1 hS) | (with_reducible refine ld 1 hS rfl rfl rfl rfl rfl ?_))
 exact bodyPost_ret (v := .agg #[.int .i64 b.seq, .int .i64 b.sh.next, .slice r.ca n1 r.cc, .slice r.da n2 r.dc, .slice r.ga n3 r.gc]) (results_blk Tryz.results24 rfl hS 0 rfl (by kernel_rfl) (by kernel_rfl)) rfl ⟨rfl, hS.below⟩
theorem does20_any (m g gs gm g2 : Nat) (b : BkS) (p : PV) (r : RV) (e : Ed) (he : EdIn e) (w : World) (hA : St w (feet (bkV g gs gm b p ++ [rbV g2 b r])) (bkV g gs gm b p ++ [rbV g2 b r]) w) (hok : BkOk m b) (hm : m ≤ 400) (hp : ∀ W, Fr (feet (bkV g gs gm b p ++ [rbV g2 b r])) w W → p.at b W) (hr : ∀ W, Fr (feet (bkV g gs gm b p ++ [rbV g2 b r])) w W → r.at b W) (htab : Tab w) (hT : 0 ∉ feet (bkV g gs gm b p ++ [rbV g2 b r])) :
 Calls Tryz.prog 15 #[.pointer (some ⟨g, 0, none⟩), .pointer (some ⟨g2, 0, none⟩), .agg (edRow e).toArray] w fun x w' => x = .returned (.bool true) ∧ ∃ (p' : PV) (r' : RV) (L' : List Ch),
  St w (feet (bkV g gs gm b p ++ [rbV g2 b r])) (bkV g gs gm (b.does e).1 p' ++ (rbV g2 (b.does e).1 r' :: L')) w' ∧ Stp (p.at b) (p'.at (b.does e).1) L' ∧ Stp (r.at b) (r'.at (b.does e).1) L' := by
 have hS := hA
 have hT1 : 0 ∉ feet (bkV g gs gm b p) := (feet_off hT).1
 have hok1 := hok.does e he.p.lab hm
 have hln := does_len hok e he.p.lab
 have hsz1 := hok1.sz
 have cP := fun W h1 (hF : Fr (feet (bkV g gs gm b p ++ [rbV g2 b r])) w W) => bdo_any m g gs gm b p e he W h1 hok (by omega) (fun W1 h => hp W1 (hF.trans h fun x hx => .inl (feet_left hx))) (htab.fr hF hT) hT1
 have cR := fun W h1 (hF : Fr (feet (bkV g gs gm b p ++ [rbV g2 b r])) w W) => rbdo_any m g2 b r e he W h1 hok (by omega) (fun W1 h => hr W1 (hF.trans h fun x hx => .inl (feet_right (A := bkV g gs gm b p) hx)))
 have hel := edRow_len e he.p.len
 have hsz : sizeB Tryz.prog 44 (edRow e).toArray.size = true := by
  rw [List.size_toArray, hel]
  kernel_rfl
 generalize edRow e = RE at *
 obtain ⟨RR, hRR⟩ : ∃ RR, b.does e = RR := ⟨_, rfl⟩
 rw [hRR] at cP cR hok1 hln hsz1 ⊢
 clear hRR he hA hok hT hT1 htab
 obtain ⟨b1, X, er⟩ := RR
 simp only at *
 obtain ⟨F, hF⟩ : ∃ F, F = feet (bkV g gs gm b p ++ [rbV g2 b r]) := ⟨_, rfl⟩
 rw [← hF] at hS cP cR hp hr ⊢
 clear hF
 replace cP := Lib.hid cP
 replace cR := Lib.hid cR
 replace hp := Lib.hid hp
 replace hr := Lib.hid hr
 replace hok1 := Lib.hid hok1
 go_enter Tryz.func15, Tryz.ntmps15
 go_wp2_with (first | (with_reducible refine wpList_box_st (L := bkV g gs gm b p ++ [rbV g2 b r]) hS rfl rfl rfl ?_; clear hS; intro gE w1 hS) | ((with_reducible refine wpList_loadall_st 0 hS rfl rfl rfl rfl ?_ hsz ?_); focus (simp [rowB, go_sem]; done)) | (go_at_call 11; have q1 := hS.preM (A := [Ch.blk gE 44 RE.toArray]) (B := bkV g gs gm b p) (R := [rbV g2 b r]); (with_reducible refine (cP.out _ q1 hS.fr).mono ?_); clear q1; rintro _ w3 ⟨p1, a3, c3, L1, rfl, hk9, hkp⟩; have hS1 := St.mid (A := (Ch.blk gE 44 RE.toArray :: bkV g gs gm b1 p1)) (B := Ch.row 48 2 (.slice a3 X.length c3) X.length (chRows X) :: L1) (C := [rbV g2 b r]) (R := []) (hS.callM (A := [Ch.blk gE 44 RE.toArray]) (B := bkV g gs gm b p) (R := [rbV g2 b r]) hk9); rw [List.append_nil] at hS1; clear hS hk9; replace hkp := Lib.hid hkp; have hS := hS1; clear hS1) | (go_at_call 48; have q1 := hS.preM (A := (Ch.blk gE 44 RE.toArray :: bkV g gs gm b1 p1)) (B := [rbV g2 b r]) (R := Ch.row 48 2 (.slice a3 X.length c3) X.length (chRows X) :: L1); (with_reducible refine (cR.out _ q1 hS.fr).mono ?_); clear q1; rintro _ w5 ⟨r1, a5, c5, L2, rfl, hk9, hkr⟩; have hS1 : St w F ((Ch.blk gE 44 RE.toArray :: bkV g gs gm b1 p1) ++ ([rbV g2 b1 r1, Ch.row 48 2 (.slice a5 X.length c5) X.length (chRows X), Ch.row 48 2 (.slice a3 X.length c3) X.length (chRows X)] ++ (L2 ++ L1))) w5 := St.mid (A := (Ch.blk gE 44 RE.toArray :: bkV g gs gm b1 p1) ++ [rbV g2 b1 r1, Ch.row 48 2 (.slice a5 X.length c5) X.length (chRows X)]) (B := L2) (C := [Ch.row 48 2 (.slice a3 X.length c3) X.length (chRows X)]) (R := L1) (hS.callM (A := (Ch.blk gE 44 RE.toArray :: bkV g gs gm b1 p1)) (B := [rbV g2 b r]) (R := Ch.row 48 2 (.slice a3 X.length c3) X.length (chRows X) :: L1) hk9); clear hS hk9; replace hkr := Lib.hid hkr; have hS := hS1; clear hS1))
 have hp1 : p1.at b1 w5 := hkp.out.atLast (A := (Ch.blk gE 44 RE.toArray :: bkV g gs gm b1 p1) ++ [rbV g2 b1 r1, Ch.row 48 2 (.slice a5 X.length c5) X.length (chRows X), Ch.row 48 2 (.slice a3 X.length c3) X.length (chRows X)]) hS (hp.out _ hS.fr)
 have hr1 : r1.at b1 w5 := hkr.out w F ((Ch.blk gE 44 RE.toArray :: bkV g gs gm b1 p1) ++ [rbV g2 b1 r1, Ch.row 48 2 (.slice a5 X.length c5) X.length (chRows X), Ch.row 48 2 (.slice a3 X.length c3) X.length (chRows X)]) L1 w5 hS (hr.out _ hS.fr)
 have hB := bkAt_of (A := [Ch.blk gE 44 RE.toArray]) (R := rbV g2 b1 r1 :: Ch.row 48 2 (.slice a5 X.length c5) X.length (chRows X) :: Ch.row 48 2 (.slice a3 X.length c3) X.length (chRows X) :: (L2 ++ L1)) hS hp1
 have z0 : w5.cell? ⟨g2, 0, none⟩ = some (.int .i64 b1.seq) := hS.cell 5 rfl 0
 have zr : w5.rangeAt g2 0 [.int .i64 b1.seq, .int .i64 b1.sh.next, .slice r1.ca b1.sh.m.length r1.cc, .slice r1.da b1.sh.dead.length r1.dc, .slice r1.ga r1.grs.length r1.gc] := Whole.range (hS.get 5 rfl) 0 fun k v hk => by simpa [rsRow] using hk
 have lP : Lst chRow (fun _ => True) w5 a3 X.length c3 X := hS.lst (e := 48) (size := 2) 7 rfl rfl (fun _ _ => trivial)
 have lR : Lst chRow (fun _ => True) w5 a5 X.length c5 X := hS.lst (e := 48) (size := 2) 6 rfl rfl (fun _ _ => trivial)
 have cCh := fun W (h : Below w5.heap.size w5 W) => changes_any a3 a5 X.length X.length c3 c5 X X W (lP.below h) (lR.below h) (by omega) (by omega)
 rw [decide_eq_true rfl] at cCh
 have cSq := Lib.hid fun W (h : Below w5.heap.size w5 W) => bseq_any (hB.below h)
 have cDa := Lib.hid fun W (h : Below w5.heap.size w5 W) => bdata_any (hB.below h) hok1.out (by omega)
 have cRD := Lib.hid fun W => rbdata_any b1 r1 W
 have cSm := fun (rr : RV) W (h : rr.at b1 W) (hb : Below w5.heap.size w5 W) => rbsame_any b1 b1 rr r1 W h (hr1.below hb) ⟨hsz1.1, hsz1.2⟩ ⟨hsz1.1, hsz1.2⟩
 rw [eqB_self] at cSm
 replace cSm := Lib.hid cSm
 replace cCh := Lib.hid cCh
 have hOld := Lib.hid hS
 have hend := Lib.hid fun (W : World) (hb : Below w5.heap.size w5 W) => show ∃ (p' : PV) (r' : RV) (L' : List Ch), St w F (bkV g gs gm b1 p' ++ (rbV g2 b1 r' :: L')) W ∧ Stp (p.at b) (p'.at b1) L' ∧ Stp (r.at b) (r'.at b1) L' from
  ⟨p1, r1, [Ch.row 48 2 (.slice a5 X.length c5) X.length (chRows X), Ch.row 48 2 (.slice a3 X.length c3) X.length (chRows X)] ++ (L2 ++ L1), (hOld.out.keepB hb).drop, (by have := hkp.out.wide ([Ch.row 48 2 (.slice a5 X.length c5) X.length (chRows X), Ch.row 48 2 (.slice a3 X.length c3) X.length (chRows X)] ++ L2) []; rw [List.append_nil, List.append_assoc] at this; exact this), hkr.out.wide _ _⟩
 clear hS hOld hkp hkr hp hr hp1 hr1 hB lP lR cP cR
 have hS := St.start w5
 have he : (er == er) = true := by simp
 have hq : (b1.seq == b1.seq) = true := by simp
 have k0 := hS.empty.kold0 z0
 have kr := hS.empty.kold_row (P := Tryz.prog) (t := 53) zr (by kernel_rfl) (n := 5) (by kernel_rfl) rfl
 refine mixs_beginE (by kernel_rfl) hS ?_
 clear hS
 intro w6 hS hC
 refine tk 0 ?_
 refine tk 1 ?_
 refine tk 2 ?_
 refine tk 3 ?_
 refine tk 4 ?_
 refine tk 5 ?_
 refine mixs_one 6 (by kernel_rfl) rfl (fun K hK => ?_)
 go_simp
 (go_at_call 27; (with_reducible refine (cCh.out _ hS.below).mono ?_); rintro _ w3 ⟨rfl, hk9⟩; replace hS := hS.keepB hk9; clear hk9)
 try clear hC
 refine cl hK (fun hC => ?_)
 clear hK K
 refine tk 7 ?_
 refine tk 8 ?_
 refine tk 9 ?_
 refine tk 11 ?_
 refine tk 12 ?_
 refine tk 13 ?_
 refine tk 14 ?_
 refine mixs_one 10 (by kernel_rfl) rfl (fun K hK => ?_)
 go_simp
 (go_at_call 25; (with_reducible refine (cSq.out _ hS.below).mono ?_); rintro _ w3 ⟨rfl, hk9⟩; replace hS := hS.keepB hk9; clear hk9)
 try clear hC
 refine cl hK (fun hC => ?_)
 clear hK K
 refine tk 15 ?_
 refine tk 16 ?_
 refine tk 17 ?_
 refine tk 18 ?_
 refine tk 20 ?_
 refine tk 21 ?_
 refine tkr 22 kr ?_
 refine mixs_one 19 (by kernel_rfl) rfl (fun K hK => ?_)
 go_simp
 (go_at_call 10; (with_reducible refine (cDa.out _ hS.below).mono ?_); rintro _ w3 ⟨r3, L3, rfl, hk9, hk3⟩; have hr3 := hk3 _ _ [] [] _ (by rw [List.append_nil]; exact hk9) trivial; have hS1 := hS.made hk9; clear hk9 hk3 hS; replace hr3 := Lib.hid hr3; have hS := hS1; clear hS1)
 try clear hC
 refine cl hK (fun hC => ?_)
 clear hK K
 refine mixs_one 23 (by kernel_rfl) rfl (fun K hK => ?_)
 go_simp
 (go_at_call 24; (with_reducible refine (cRD.out _).mono ?_); rintro _ w3 ⟨rfl, hk9⟩; have hr4 := Lib.hid (hr3.out.below hk9); replace hS := hS.keepB hk9; clear hk9)
 try clear hC
 refine cl hK (fun hC => ?_)
 clear hK K
 refine mixs_one 24 (by kernel_rfl) rfl (fun K hK => ?_)
 go_simp
 (go_at_call 12; (with_reducible refine (cSm.out _ _ hr4.out hS.below).mono ?_); rintro _ w3 ⟨rfl, hk9⟩; replace hS := hS.keepB hk9; clear hk9)
 try clear hC
 refine cl hK (fun hC => ?_)
 clear hK K
 refine tk 25 ?_
 refine tk 26 ?_
 refine wpAnyH_done (by kernel_rfl) ?_ _
 all_goals
  clear k0 kr he hq
  go_wp2_with fail
  go_ret
  exact ⟨rfl, hend.out _ hS.below⟩
end Go.Proofs.YtneolmnpebiifaaGreatDoor
end
section
namespace Go.Ofp
open Go.RowKit
theorem Ovr.off {w0 W : World} {p : World → Prop} {A B R : List Ch} (h : Ovr w0 p R) (hS : St w0 [] (A ++ (B ++ R)) W) : ∀ W', Fr (feet B) W W' → p W' := fun _ k => h.at (A := A) (hS.offM k)
end Go.Ofp
namespace Go.Proofs.YtneolmnpebiifaaGreatDoor
open Go.RowKit Go.Ofp
theorem bdo_law {m g gs gm : Nat} {b : BkS} {p : PV} {w0 W : World} {A R : List Ch} (e : Ed) (he : EdIn e) (hS : St w0 [] (A ++ (bkV g gs gm b p ++ R)) W) (hO : Ovr w0 (p.at b) R) (hok : BkOk m b) (hm : m ≤ 400) (htab : Tab w0) :
 Calls Tryz.prog 11 #[.pointer (some ⟨g, 0, none⟩), .agg (edRow e).toArray] W fun x W' => ∃ (p' : PV) (a : Option Addr) (c : Nat) (L : List Ch), x = .returned (.tuple #[.slice a (b.does e).2.1.length c, .int .i64 (b.does e).2.2]) ∧
  St w0 [] (A ++ (bkV g gs gm (b.does e).1 p' ++ (Ch.row 48 2 (.slice a (b.does e).2.1.length c) (b.does e).2.1.length (chRows (b.does e).2.1) :: (L ++ R)))) W' ∧ Ovr w0 (p'.at (b.does e).1) (L ++ R) := by
 refine (bdo_any m g gs gm b p e he W hS.preM hok (by omega) (hO.off hS) (htab.fr hS.fr (by simp)) (tab_feet hS htab)).mono ?_
 rintro x W' ⟨p', a, c, L, h1, h2, h3⟩
 refine ⟨p', a, c, L, h1, ?_, hO.step h3⟩
 have := hS.callM h2
 simpa using this
theorem does_law {m g gs gm g2 : Nat} {b : BkS} {p : PV} {r : RV} {w0 W : World} {A R : List Ch} (e : Ed) (he : EdIn e) (hS : St w0 [] (A ++ (bkV g gs gm b p ++ (rbV g2 b r :: R))) W) (hO : Ovr w0 (p.at b) R) (hO2 : Ovr w0 (r.at b) R) (hok : BkOk m b) (hm : m ≤ 400) (htab : Tab w0) :
 Calls Tryz.prog 15 #[.pointer (some ⟨g, 0, none⟩), .pointer (some ⟨g2, 0, none⟩), .agg (edRow e).toArray] W fun x W' => x = .returned (.bool true) ∧ ∃ (p' : PV) (r' : RV) (L : List Ch),
  St w0 [] (A ++ (bkV g gs gm (b.does e).1 p' ++ (rbV g2 (b.does e).1 r' :: (L ++ R)))) W' ∧ Ovr w0 (p'.at (b.does e).1) (L ++ R) ∧ Ovr w0 (r'.at (b.does e).1) (L ++ R) := by
 have hS1 : St w0 [] (A ++ ((bkV g gs gm b p ++ [rbV g2 b r]) ++ R)) W := by simpa using hS
 refine (does20_any m g gs gm g2 b p r e he W hS1.preM hok hm (hO.off hS1) (hO2.off hS1) (htab.fr hS1.fr (by simp)) (tab_feet hS1 htab)).mono ?_
 rintro x W' ⟨h1, p', r', L, h2, h3, h4⟩
 refine ⟨h1, p', r', L, ?_, hO.step h3, hO2.step h4⟩
 have := hS1.callM h2
 simpa using this
end Go.Proofs.YtneolmnpebiifaaGreatDoor
end
section
namespace Go.Ofp
instance : DecidableEq BkS := fun a b => decidable_of_iff (eqB a b = true) (eqB_iff a b)
def exE1 : Ed := ⟨4, 0, 1, Pt.zero⟩
def exE2 : Ed := ⟨1, 0, 0, exZ⟩
def exE4 : Ed := ⟨6, 2, 1, Pt.zero⟩
def exE5 : Ed := ⟨5, 0, 1, Pt.zero⟩
def exB1 : BkS := ⟨1, ShS.new, [(1, [])]⟩
def exB2 : BkS := ⟨2, exS1, [(1, [])]⟩
def exB3 : BkS := ⟨3, exS2, [(1, [])]⟩
def exB4 : BkS := ⟨4, exS2, [(1, [2])]⟩
def exB5 : BkS := ⟨6, exS2, []⟩
theorem ex_do1 : BkS.new.does exE1 = (exB1, [(1, 0)], 0) := by decide +kernel
theorem ex_do2 : exB1.does exE2 = (exB2, [(2, 1)], 0) := by decide +kernel
theorem ex_do3 : exB2.does exE2 = (exB3, [(3, 2)], 0) := by decide +kernel
theorem ex_do4 : exB3.does exE4 = (exB4, [(4, 2)], 0) := by decide +kernel
theorem ex_do5 : exB4.does exE5 = (exB5, [(5, 2), (6, 0)], 0) := by decide +kernel
theorem BkOk.is {n : Nat} {b b1 : BkS} {e : Ed} {X : List (Int × Int)} {er : Int} (h : BkOk n b) (hd : b.does e = (b1, X, er)) (hp : e.p.lab < 4294967296) (hn : n ≤ 400) : BkOk (n + 1) b1 := by
 have := h.does e hp hn
 rw [hd] at this
 exact this
end Go.Ofp
namespace Go.Proofs.YtneolmnpebiifaaGreatDoor
open Go.RowKit Go.Ofp
set_option maxHeartbeats 4000000
theorem ptz_in : PtIn Pt.zero := ⟨by decide, by decide, rfl, fun v hv => by
 have : v ∈ List.replicate 8 Vl.zero := hv
 rw [List.eq_of_mem_replicate this]
 exact ⟨by decide, by decide, Nat.zero_le _⟩⟩
theorem exE1_in : EdIn exE1 := ⟨by decide, by decide, by decide, ptz_in⟩
theorem exE2_in : EdIn exE2 := ⟨by decide, by decide, by decide, exZ_in⟩
theorem exE4_in : EdIn exE4 := ⟨by decide, by decide, by decide, ptz_in⟩
theorem exE5_in : EdIn exE5 := ⟨by decide, by decide, by decide, ptz_in⟩
theorem bdo_is {m g gs gm : Nat} {b b1 : BkS} {X : List (Int × Int)} {er : Int} {p : PV} {w0 W : World} {A R : List Ch} (e : Ed) (hd : b.does e = (b1, X, er)) (he : EdIn e) (hS : St w0 [] (A ++ (bkV g gs gm b p ++ R)) W) (hO : Ovr w0 (p.at b) R) (hok : BkOk m b) (hm : m ≤ 400) (htab : Tab w0) :
 Calls Tryz.prog 11 #[.pointer (some ⟨g, 0, none⟩), .agg (edRow e).toArray] W fun x W' => ∃ (p' : PV) (a : Option Addr) (c : Nat) (R' : List Ch), x = .returned (.tuple #[.slice a X.length c, .int .i64 er]) ∧
  St w0 [] (A ++ (bkV g gs gm b1 p' ++ (Ch.row 48 2 (.slice a X.length c) X.length (chRows X) :: R'))) W' ∧ Ovr w0 (p'.at b1) (Ch.row 48 2 (.slice a X.length c) X.length (chRows X) :: R') := by
 have h := bdo_law e he hS hO hok hm htab
 rw [hd] at h
 refine h.mono ?_
 rintro x W' ⟨p', a, c, L, h1, h2, h3⟩
 exact ⟨p', a, c, L ++ R, h1, h2, h3.more [_]⟩
abbrev pv0 : PV := ⟨none, 0, [], none, 0⟩
theorem pv0_ovr (w : World) (R : List Ch) : Ovr w (pv0.at BkS.new) R := fun A B W hW => ⟨rfl, deep_nil W⟩
theorem build_e1 (w : World) : (Instr.build 44 #[(0, .int .i64 4), (2, .int .i64 1)]).run Tryz.prog w = .ok (.agg (edRow exE1).toArray) w := by kernel_rfl
theorem build_e2 (w : World) : (Instr.build 44 #[(0, .int .i64 1), (3, .agg #[.int .u32 1, .int .u32 0, .int .i64 0, .int .i64 0, .string ⟨#[]⟩, .int .i64 0, .int .i64 0, .string ⟨#[]⟩, .int .i64 0, .int .i64 0, .string ⟨#[]⟩, .int .i64 0, .int .i64 0, .string ⟨#[]⟩, .int .i64 0, .int .i64 0, .string ⟨#[]⟩, .int .i64 0, .int .i64 0, .string ⟨#[]⟩, .int .i64 0, .int .i64 0, .string ⟨#[]⟩, .int .i64 0, .int .i64 0, .string ⟨#[]⟩])]).run Tryz.prog w = .ok (.agg (edRow exE2).toArray) w := by kernel_rfl
theorem build_e4 (w : World) : (Instr.build 44 #[(0, .int .i64 6), (2, .int .i64 1), (1, .int .i64 2)]).run Tryz.prog w = .ok (.agg (edRow exE4).toArray) w := by kernel_rfl
theorem build_e5 (w : World) : (Instr.build 44 #[(0, .int .i64 5), (2, .int .i64 1)]).run Tryz.prog w = .ok (.agg (edRow exE5).toArray) w := by kernel_rfl
theorem build_c1 (w : World) : (Instr.build 48 #[(0, .int .i64 5), (1, .int .i64 2)]).run Tryz.prog w = .ok (.agg #[.int .i64 5, .int .i64 2]) w := by kernel_rfl
theorem build_c2 (w : World) : (Instr.build 48 #[(0, .int .i64 6)]).run Tryz.prog w = .ok (.agg #[.int .i64 6, .int .i64 0]) w := by kernel_rfl
theorem blk_lst {w0 w : World} {F : List Nat} {L : List Ch} (hS : St w0 F L w) (i : Nat) {h T : Nat} (hi : L[i]? = some (Ch.blk h T #[.int .i64 5, .int .i64 2, .int .i64 6, .int .i64 0])) : Lst chRow (fun _ => True) w (some ⟨h, 0, none⟩) 2 2 [(5, 2), (6, 0)] :=
 ⟨hS.blksl2 i (xs := [.int .i64 5, .int .i64 2, .int .i64 6, .int .i64 0]) hi, rfl, Nat.le_refl _, by decide, fun _ _ => trivial⟩
theorem awake20_any (w : World) (ht : Tab w) : Calls Tryz.prog 8 #[] w fun e w' => e = .returned (.bool true) ∧ Below w.heap.size w w' := by
 have hS := St.start w
 have ep := elem_pt
 have ech := elem_ch
 have hb0 := build_pt1
 have hb1 := build_e1
 have hb2 := build_e2
 have hb4 := build_e4
 have hb5 := build_e5
 have hc1 := build_c1
 have hc2 := build_c2
 have hB2 := fun W : World => run_build2 (P := Tryz.prog) W 33 _ Tryz.underlying33 ech (u := [.int .i64 5, .int .i64 2]) (v := [.int .i64 6, .int .i64 0]) rfl rfl (by decide)
 have hRP : ptRow exZ = [.int .u32 1, .int .u32 0, .int .i64 0, .int .i64 0, .string ⟨#[]⟩, .int .i64 0, .int .i64 0, .string ⟨#[]⟩, .int .i64 0, .int .i64 0, .string ⟨#[]⟩, .int .i64 0, .int .i64 0, .string ⟨#[]⟩, .int .i64 0, .int .i64 0, .string ⟨#[]⟩, .int .i64 0, .int .i64 0, .string ⟨#[]⟩, .int .i64 0, .int .i64 0, .string ⟨#[]⟩, .int .i64 0, .int .i64 0, .string ⟨#[]⟩] := rfl
 rw [hRP] at hb0
 have ok0 := BkOk.new 0
 have ok1 := ok0.is ex_do1 (by decide) (by decide)
 have ok2 := ok1.is ex_do2 (by decide) (by decide)
 have ok3 := ok2.is ex_do3 (by decide) (by decide)
 have ok4 := ok3.is ex_do4 (by decide) (by decide)
 have cN := fun W => bnew_any W
 have hO := pv0_ovr w []
 have cD1 := fun (g gs gm : Nat) (p : PV) (A R : List Ch) W h1 h2 => bdo_is (g := g) (gs := gs) (gm := gm) (p := p) (A := A) (R := R) (W := W) exE1 ex_do1 exE1_in h1 h2 ok0 (by decide) ht
 have cD2 := fun (g gs gm : Nat) (p : PV) (A R : List Ch) W h1 h2 => bdo_is (g := g) (gs := gs) (gm := gm) (p := p) (A := A) (R := R) (W := W) exE2 ex_do2 exE2_in h1 h2 ok1 (by decide) ht
 have cD3 := fun (g gs gm : Nat) (p : PV) (A R : List Ch) W h1 h2 => bdo_is (g := g) (gs := gs) (gm := gm) (p := p) (A := A) (R := R) (W := W) exE2 ex_do3 exE2_in h1 h2 ok2 (by decide) ht
 have cD4 := fun (g gs gm : Nat) (p : PV) (A R : List Ch) W h1 h2 => bdo_is (g := g) (gs := gs) (gm := gm) (p := p) (A := A) (R := R) (W := W) exE4 ex_do4 exE4_in h1 h2 ok3 (by decide) ht
 have cD5 := fun (g gs gm : Nat) (p : PV) (A R : List Ch) W h1 h2 => bdo_is (g := g) (gs := gs) (gm := gm) (p := p) (A := A) (R := R) (W := W) exE5 ex_do5 exE5_in h1 h2 ok4 (by decide) ht
 have hR1 : edRow exE1 = [.int .i64 4, .int .i64 0, .int .i64 1, .int .u32 0, .int .u32 0, .int .i64 0, .int .i64 0, .string ⟨#[]⟩, .int .i64 0, .int .i64 0, .string ⟨#[]⟩, .int .i64 0, .int .i64 0, .string ⟨#[]⟩, .int .i64 0, .int .i64 0, .string ⟨#[]⟩, .int .i64 0, .int .i64 0, .string ⟨#[]⟩, .int .i64 0, .int .i64 0, .string ⟨#[]⟩, .int .i64 0, .int .i64 0, .string ⟨#[]⟩, .int .i64 0, .int .i64 0, .string ⟨#[]⟩] := rfl
 have hR2 : edRow exE2 = [.int .i64 1, .int .i64 0, .int .i64 0, .int .u32 1, .int .u32 0, .int .i64 0, .int .i64 0, .string ⟨#[]⟩, .int .i64 0, .int .i64 0, .string ⟨#[]⟩, .int .i64 0, .int .i64 0, .string ⟨#[]⟩, .int .i64 0, .int .i64 0, .string ⟨#[]⟩, .int .i64 0, .int .i64 0, .string ⟨#[]⟩, .int .i64 0, .int .i64 0, .string ⟨#[]⟩, .int .i64 0, .int .i64 0, .string ⟨#[]⟩, .int .i64 0, .int .i64 0, .string ⟨#[]⟩] := rfl
 have hR4 : edRow exE4 = [.int .i64 6, .int .i64 2, .int .i64 1, .int .u32 0, .int .u32 0, .int .i64 0, .int .i64 0, .string ⟨#[]⟩, .int .i64 0, .int .i64 0, .string ⟨#[]⟩, .int .i64 0, .int .i64 0, .string ⟨#[]⟩, .int .i64 0, .int .i64 0, .string ⟨#[]⟩, .int .i64 0, .int .i64 0, .string ⟨#[]⟩, .int .i64 0, .int .i64 0, .string ⟨#[]⟩, .int .i64 0, .int .i64 0, .string ⟨#[]⟩, .int .i64 0, .int .i64 0, .string ⟨#[]⟩] := rfl
 have hR5 : edRow exE5 = [.int .i64 5, .int .i64 0, .int .i64 1, .int .u32 0, .int .u32 0, .int .i64 0, .int .i64 0, .string ⟨#[]⟩, .int .i64 0, .int .i64 0, .string ⟨#[]⟩, .int .i64 0, .int .i64 0, .string ⟨#[]⟩, .int .i64 0, .int .i64 0, .string ⟨#[]⟩, .int .i64 0, .int .i64 0, .string ⟨#[]⟩, .int .i64 0, .int .i64 0, .string ⟨#[]⟩, .int .i64 0, .int .i64 0, .string ⟨#[]⟩, .int .i64 0, .int .i64 0, .string ⟨#[]⟩] := rfl
 rw [hR1] at cD1
 rw [hR2] at cD2 cD3
 rw [hR4] at cD4
 rw [hR5] at cD5
 clear hR1 hR2 hR4 hR5 hb1 hb2 hb4 hb5
 have cCh := fun (a b : Option Addr) (c d : Nat) (W : World) h1 h2 => changes_any a b 2 2 c d [(5, 2), (6, 0)] [(5, 2), (6, 0)] W h1 h2 (by decide) (by decide)
 rw [decide_eq_true rfl] at cCh
 have hl5 : ([(5, 2), (6, 0)] : List (Int × Int)).length = 2 := rfl
 rw [hl5] at cD5
 obtain ⟨X5, hX5⟩ : ∃ X : List (Int × Int), X = [(5, 2), (6, 0)] := ⟨_, rfl⟩
 rw [← hX5] at cD5 cCh
 have hlb := Lib.hid fun (w0 w : World) (F : List Nat) (L : List Ch) (hS : St w0 F L w) (i h T : Nat) hi => blk_lst hS i (h := h) (T := T) hi
 rw [← hX5] at hlb
 have hX2 : X5.length = 2 := by rw [hX5]; rfl
 have hlr := Lib.hid fun (w0 w : World) (F : List Nat) (L : List Ch) (hS : St w0 F L w) (i : Nat) (a : Option Addr) (c : Nat) (hi : L[i]? = some (Ch.row 48 2 (.slice a 2 c) 2 (chRows X5))) => show Lst chRow (fun _ => True) w a 2 c X5 from hS.lst i hi hX2 (fun _ _ => trivial)
 clear hX5 hX2 hl5 hRP ok0 ok1 ok2 ok3 ok4 ht
 generalize hq0 : BkS.new = b0 at *
 have cN2 := Lib.hid fun W => show Calls Tryz.prog 9 #[] W fun e w' => ∃ g gs gm, e = .returned (.pointer (some ⟨g, 0, none⟩)) ∧ St W [] (bkV g gs gm b0 pv0) w' from by rw [← hq0]; exact cN W
 clear cN hq0
 generalize exB1 = b1 at *
 generalize exB2 = b2 at *
 generalize exB3 = b3 at *
 generalize exB4 = b4 at *
 generalize exB5 = b5 at *
 replace cD1 := Lib.hid cD1
 replace cD2 := Lib.hid cD2
 replace cD3 := Lib.hid cD3
 replace cD4 := Lib.hid cD4
 replace cD5 := Lib.hid cD5
 replace cCh := Lib.hid cCh
 replace hO := Lib.hid hO
 go_enter Tryz.func8, Tryz.ntmps8
 go_wp2_with (first | (go_at_call 9; (with_reducible refine (cN2.out _).mono ?_); rintro _ w3 ⟨g, gs, gm, rfl, hk9⟩; have hS1 := hS.made hk9; clear hS hk9; have hS := hS1; clear hS1) | (with_reducible refine wpList_alloc_st (t := 42) hS rfl rfl ep ?_; clear hS; intro gp w1 hS) | ((with_reducible refine wpList_storerow_st (t := 42) (n := 26) 0 hS rfl rfl rfl rfl (by kernel_rfl) rfl rfl rfl (by kernel_rfl) ?_); intro w1 hS1; clear hS; have hS : St w [] ([Ch.blk gp 42 #[.int .u32 1, .int .u32 0, .int .i64 0, .int .i64 0, .string ⟨#[]⟩, .int .i64 0, .int .i64 0, .string ⟨#[]⟩, .int .i64 0, .int .i64 0, .string ⟨#[]⟩, .int .i64 0, .int .i64 0, .string ⟨#[]⟩, .int .i64 0, .int .i64 0, .string ⟨#[]⟩, .int .i64 0, .int .i64 0, .string ⟨#[]⟩, .int .i64 0, .int .i64 0, .string ⟨#[]⟩, .int .i64 0, .int .i64 0, .string ⟨#[]⟩]] ++ (bkV g gs gm b0 pv0 ++ [])) w1 := hS1; clear hS1) | (go_at_call 11; (with_reducible refine (cD1.out g gs gm pv0 _ [] _ hS hO.out).mono ?_); rintro _ w3 ⟨p1, a1, c1, R1, rfl, hk9, hk8⟩; clear hS hO; have hS := hk9; have hO := Lib.hid hk8; clear hk9 hk8) | (go_at_call 11; (with_reducible refine (cD2.out g gs gm p1 _ (_ :: R1) _ hS hO.out).mono ?_); rintro _ w3 ⟨p2, a2, c2, R2, rfl, hk9, hk8⟩; clear hS hO; have hS := hk9; have hO := Lib.hid hk8; clear hk9 hk8) | (go_at_call 11; (with_reducible refine (cD3.out g gs gm p2 _ (_ :: R2) _ hS hO.out).mono ?_); rintro _ w3 ⟨p3, a3, c3, R3, rfl, hk9, hk8⟩; clear hS hO; have hS := hk9; have hO := Lib.hid hk8; clear hk9 hk8) | (go_at_call 11; (with_reducible refine (cD4.out g gs gm p3 _ (_ :: R3) _ hS hO.out).mono ?_); rintro _ w3 ⟨p4, a4, c4, R4, rfl, hk9, hk8⟩; clear hS hO; have hS := hk9; have hO := Lib.hid hk8; clear hk9 hk8) | (go_at_call 11; (with_reducible refine (cD5.out g gs gm p4 _ (_ :: R4) _ hS hO.out).mono ?_); rintro _ w3 ⟨p5, a5, c5, R5, rfl, hk9, hk8⟩; clear hS hO; have hS := hk9; have hO := Lib.hid hk8; clear hk9 hk8) | (refine wpList_of_op fun K hK => op_buildr_st (by with_unfolding_all rfl) hS hB2 rfl rfl ?_; intro gr w3 hS1; refine hK _ _ ?_; clear hK hS; have hS := hS1; clear hS1) | (go_at_call 27; (with_reducible refine (cCh.out _ _ _ _ _ (hlr.out _ _ _ _ hS 6 _ _ rfl) (hlb.out _ _ _ _ hS 0 _ _ rfl)).mono ?_); rintro _ w3 ⟨rfl, hk9⟩; replace hS := hS.keepB hk9; clear hk9) | (with_reducible refine lda 0 hS rfl rfl rfl rfl ?_))
 go_ret
 exact ⟨rfl, hS.below⟩
end Go.Proofs.YtneolmnpebiifaaGreatDoor
end
section
namespace Go.Proofs.YtneolmnpebiifaaGreatDoor
open Go.RowKit Go.Ofp
set_option maxHeartbeats 4000000
def longE (l : List Ed) : Bool := decide (120 < l.length) || l.any fun x => largeF x.p.f
def largeC (l : List Cd) : Bool := l.any fun x => largeF x.f
theorem any_drop {α : Type} (l : List α) (f : α → Bool) (j : Nat) (h : j < l.length) : (l.drop j).any f = (f l[j] || (l.drop (j + 1)).any f) := by rw [List.drop_eq_getElem_cons h, List.any_cons]
theorem long20_any (a : Option Addr) (n c : Nat) (l : List Ed) (w : World) (hl : Lst edRow EdIn w a n c l) :
 Calls Tryz.prog 7 #[.slice a n c] w fun e w' => e = .returned (.bool (longE l)) ∧ Below w.heap.size w w' := by
 have hS := St.start w
 unfold longE
 rw [hl.len]
 have hle := hl.le
 have hcm := hl.cm
 by_cases hbig : 120 < n
 · rw [decide_eq_true hbig, Bool.true_or]
   clear hl
   have d1 : decide ((120 : Int) < (n : Int)) = true := decide_eq_true (by omega)
   go_enter Tryz.func7, Tryz.ntmps7
   go_wp2_with fail
   go_ret
   exact ⟨rfl, hS.below⟩
 rw [decide_eq_false hbig, Bool.false_or]
 have hb2 : n ≤ 120 := by omega
 have d1 : decide ((120 : Int) < (n : Int)) = false := decide_eq_false (by omega)
 have cL := Lib.hid fun f hf W => large6_any f hf W
 have hlen := Lib.hid hl.len
 have hlens := Lib.hid (show ∀ x ∈ l, (edRow x).length = 29 from fun x hx => edRow_len x (hl.mem x hx).p.len)
 have hbase := Lib.hid (hl.base (by decide) hlens.out)
 have hmem := Lib.hid hl.mem
 replace hl := Lib.hid hl
 clear hbig
 go_enter Tryz.func7, Tryz.ntmps7
 go_wp2_with fail
 clear d1
 go_loopg [3] n (fun gk vx wr => ∃ j : Nat, j + gk = n ∧ vx = .int .i64 j ∧ Hid ((l.any fun x => largeF x.p.f) = ((l.drop j).any fun x => largeF x.p.f)) ∧ St w [] [] wr)
 case atStart => exact ⟨0, Nat.zero_add _, rfl, Lib.hid rfl, hS⟩
 case round =>
  clear hS
  obtain ⟨j, hj, rfl, hr, hS⟩ := hrel
  by_cases hlt : j < n
  case neg =>
   obtain rfl : j = n := by omega
   have hr2 := hr.out
   rw [List.drop_of_length_le (by rw [hlen.out]; exact Nat.le_refl _)] at hr2
   replace hr2 := Lib.hid hr2
   go_wp2_with fail
   go_ret
   exact ⟨by rw [hr2.out]; rfl, hS.below⟩
  have hjl : j < l.length := by rw [hlen.out]; exact hlt
  have hr2 := hr.out
  rw [any_drop l _ j hjl] at hr2
  obtain ⟨b, off, rfl⟩ := hbase.out (by omega)
  have hrow := hl.out.rowb hlens.out j hjl
  have hf8 := (hmem.out _ (List.getElem_mem hjl)).p.len
  have cL2 := Lib.hid fun W => cL.out l[j].p.f hf8 W
  have hFl2 : (flRow l[j].p.f).length = 24 := by rw [flRow_length, hf8]
  have zF : w.rangeAt b (off + j * 29 + 5) (flRow l[j].p.f) := fun k v hk => by
   have := hrow (5 + k) v (by rw [Nat.add_comm]; exact hk)
   rw [← Nat.add_assoc] at this
   exact this
  clear hrow
  generalize flRow l[j].p.f = FM at *
  generalize largeF l[j].p.f = lm at *
  cases lm
  case true =>
   rw [Bool.true_or] at hr2
   replace hr2 := Lib.hid hr2
   go_wp2_with (first | (go_at_call 32; (with_reducible refine (cL2.out _).mono ?_); rintro _ w3 ⟨rfl, hk9⟩; replace hS := hS.keepB hk9; clear hk9) | (with_reducible refine wpList_rangerow (t := 40) (n := 24) (range_old hS zF) rfl rfl rfl (by kernel_rfl) (by kernel_rfl) hFl2 ?_))
   go_ret
   exact ⟨by rw [hr2.out]; rfl, hS.below⟩
  rw [Bool.false_or] at hr2
  replace hr2 := Lib.hid hr2
  go_wp2_with (first | (go_at_call 32; (with_reducible refine (cL2.out _).mono ?_); rintro _ w3 ⟨rfl, hk9⟩; replace hS := hS.keepB hk9; clear hk9) | (with_reducible refine wpList_rangerow (t := 40) (n := 24) (range_old hS zF) rfl rfl rfl (by kernel_rfl) (by kernel_rfl) hFl2 ?_))
  go_roundg (n - (j + 1))
  case measure => omega
  case rel => exact ⟨j + 1, by omega, by go_num, hr2, hS⟩
end Go.Proofs.YtneolmnpebiifaaGreatDoor
end
section
namespace Go.Ofp
def bkz : BkS := ⟨0, ⟨0, [], []⟩, []⟩
theorem BkOk.trim {n : Nat} {b : BkS} (h : BkOk n b) (q : Int) : BkOk n ⟨b.seq, b.sh.trim q, b.ks⟩ := ⟨h.sh.trim q, h.ks, h.seq⟩
end Go.Ofp
namespace Go.Proofs.YtneolmnpebiifaaGreatDoor
open Go.RowKit Go.Ofp
set_option maxHeartbeats 8000000
theorem longE_len {l : List Ed} (h : longE l = false) : l.length ≤ 120 := by
 unfold longE at h
 simp at h
 omega
abbrev rv0 : RV := ⟨none, 0, none, 0, none, 0, []⟩
theorem rv0_at (w : World) : rv0.at BkS.new w := ⟨rfl, ⟨Sl.nil _ _, rfl, Nat.le_refl _, by decide, by simp [BkS.new, ShS.new]⟩, ⟨Sl.nil _ _, rfl, Nat.le_refl _, by decide, by simp [BkS.new, ShS.new]⟩, deep_nil w⟩
theorem rv0_z (w : World) : rv0.at bkz w := ⟨rfl, ⟨Sl.nil _ _, rfl, Nat.le_refl _, by decide, by simp [bkz]⟩, ⟨Sl.nil _ _, rfl, Nat.le_refl _, by decide, by simp [bkz]⟩, deep_nil w⟩
theorem elem_rb : Elem Tryz.prog 53 (.agg #[.int .i64 0, .int .i64 0, .slice none 0 0, .slice none 0 0, .slice none 0 0]) 5 88 := Elem.mk (by kernel_rfl) (by rfl) (by decide)
theorem build_rb1 (w : World) : (Instr.build 53 #[(1, .agg #[.int .i64 1, .slice none 0 0, .slice none 0 0])]).run Tryz.prog w = .ok (.agg #[.int .i64 0, .int .i64 1, .slice none 0 0, .slice none 0 0, .slice none 0 0]) w := by kernel_rfl
theorem build_rs2 (w : World) : (Instr.build 51 #[(0, .int .i64 1)]).run Tryz.prog w = .ok (.agg #[.int .i64 1, .slice none 0 0, .slice none 0 0]) w := by kernel_rfl
theorem rbnew_any (w : World) : Calls Tryz.prog 14 #[] w fun e w' => e = .returned (.agg #[.int .i64 0, .int .i64 1, .slice none 0 0, .slice none 0 0, .slice none 0 0]) ∧ Below w.heap.size w w' := by
 have hS := St.start w
 have er := elem_rb
 have h1 := build_rb1
 have h2 := build_rs2
 go_enter Tryz.func14, Tryz.ntmps14
 go_wp2_with (first | (with_reducible refine al hS rfl rfl ?_; clear hS; intro g1 w1 hS) | (with_reducible refine stor 0 hS rfl rfl rfl rfl rfl rfl rfl rfl ?_; clear hS; intro w1 hS))
 exact bodyPost_ret (v := .agg #[.int .i64 0, .int .i64 1, .slice none 0 0, .slice none 0 0, .slice none 0 0]) (results_blk Tryz.results14 rfl hS 0 rfl (by kernel_rfl) (by kernel_rfl)) rfl ⟨rfl, hS.below⟩
structure Bth (w0 : World) (b : BkS) (p : PV) (r : RV) (R : List Ch) (m : Nat) : Prop where
 op : Ovr w0 (p.at b) R
 or : Ovr w0 (r.at b) R
 ok : BkOk m b
theorem Bth.new (w0 : World) : Bth w0 BkS.new pv0 rv0 [] 0 := ⟨pv0_ovr w0 [], fun A B W hW => rv0_at W, BkOk.new 0⟩
theorem Bth.doesBoth {w0 : World} {b : BkS} {p : PV} {r : RV} {R : List Ch} {m : Nat} (h : Bth w0 b p r R m) (e : Ed) (he : EdIn e) (hm : m ≤ 400) (htab : Tab w0) {g gs gm g2 : Nat} {W : World} (hS : St w0 [] (bkV g gs gm b p ++ (rbV g2 b r :: R)) W) :
 Calls Tryz.prog 15 #[.pointer (some ⟨g, 0, none⟩), .pointer (some ⟨g2, 0, none⟩), .agg (edRow e).toArray] W fun x W' => x = .returned (.bool true) ∧ ∃ (p' : PV) (r' : RV) (R' : List Ch), St w0 [] (bkV g gs gm (b.does e).1 p' ++ (rbV g2 (b.does e).1 r' :: R')) W' ∧ Bth w0 (b.does e).1 p' r' R' (m + 1) := by
 refine (does_law (A := []) e he hS h.op h.or h.ok hm htab).mono ?_
 rintro x W' ⟨h1, p', r', L, h2, h3, h4⟩
 exact ⟨h1, p', r', L ++ R, h2, h3, h4, h.ok.does e he.p.lab hm⟩
end Go.Proofs.YtneolmnpebiifaaGreatDoor
end
section
namespace Go.Ofp
def memQ (ks : List Key) (x : Int) (q : Nat) : Bool := ks.any fun k => decide (k.1.toNat = q) && Ids.has k.2 x
theorem ofK_ext {ks ks' : List Key} {x : Int} (h : ∀ q, memQ ks x q = memQ ks' x q) : ofK ks x = ofK ks' x := by
 apply Nat.eq_of_testBit_eq
 intro q
 unfold ofK
 rw [ofFrom_bit, ofFrom_bit]
 exact congrArg _ (h q)
theorem memQ_append (A B : List Key) (x : Int) (q : Nat) : memQ (A ++ B) x q = (memQ A x q || memQ B x q) := List.any_append
theorem memQ_cons (k : Key) (B : List Key) (x : Int) (q : Nat) : memQ (k :: B) x q = ((decide (k.1.toNat = q) && Ids.has k.2 x) || memQ B x q) := rfl
theorem open_of {n : Nat} {ks : List Key} (h : KN n ks) {g : Int} (he : (openK ks g).1 = 0) (x : Int) : ofK (openK ks g).2 x = ofK ks x := by
 obtain ⟨-, e, -⟩ := h.open he
 rw [e]
 apply ofK_ext
 intro q
 generalize Ids.place (knos ks) g = p
 conv => rhs; rw [← List.take_append_drop p ks]
 rw [memQ_append, memQ_append, memQ_cons]
 have : Ids.has ((g, []) : Key).2 x = false := rfl
 rw [this, Bool.and_false, Bool.false_or]
theorem split_at {ks : List Key} {g : Int} (hu : Ids.Up (knos ks)) (hh : Ids.has (knos ks) g = true) : ks = ks.take (Ids.place (knos ks) g) ++ (g, memAt ks g) :: ks.drop (Ids.place (knos ks) g + 1) ∧ Ids.place (knos ks) g < ks.length := by
 have hp := Ids.has_lt (knos ks) g hu hh
 have hpk : Ids.place (knos ks) g < ks.length := by simpa [knos] using hp
 have hgk : ks[Ids.place (knos ks) g].1 = g := by
  have := Ids.has_place (knos ks) g hu
  rw [hh, dif_pos hp] at this
  have := of_decide_eq_true this.symm
  simpa [knos] using this
 have hmA : memAt ks g = ks[Ids.place (knos ks) g].2 := by
  unfold memAt
  rw [List.getD_eq_getElem?_getD, List.getElem?_eq_getElem hpk]
  rfl
 have e : ks[Ids.place (knos ks) g] = (g, memAt ks g) := Prod.ext hgk hmA.symm
 refine ⟨?_, hpk⟩
 rw [← e, ← List.drop_eq_getElem_cons hpk, List.take_append_drop]
theorem close_of {n : Nat} {ks : List Key} (h : KN n ks) {g : Int} (he : (closeK ks g).1 = 0) {x : Int} (hx : x ∉ membersK ks g) : ofK (closeK ks g).2 x = ofK ks x := by
 obtain ⟨-, e, -, -, hh⟩ := h.close he
 obtain ⟨hs, -⟩ := split_at ((chkK_iff _).1 h.chk).1 hh
 rw [e]
 apply ofK_ext
 intro q
 conv => rhs; rw [hs]
 rw [memQ_append, memQ_append, memQ_cons]
 have : Ids.has ((g, memAt ks g) : Key).2 x = false := by
  unfold membersK at hx
  rw [hh, if_pos rfl] at hx
  rw [← Bool.not_eq_true, Ids.has_iff]
  exact hx
 rw [this, Bool.and_false, Bool.false_or]
theorem set_of {ks : List Key} {g : Int} {m : List Int} (hu : Ids.Up (knos ks)) (hh : Ids.has (knos ks) g = true) {x : Int} (hx : Ids.has m x = Ids.has (memAt ks g) x) : ofK (ks.set (Ids.place (knos ks) g) (g, m)) x = ofK ks x := by
 obtain ⟨hs, hp⟩ := split_at hu hh
 apply ofK_ext
 intro q
 rw [List.set_eq_take_append_cons_drop, if_pos hp]
 conv => rhs; rw [hs]
 rw [memQ_append, memQ_append, memQ_cons, memQ_cons]
 have : Ids.has ((g, m) : Key).2 x = Ids.has ((g, memAt ks g) : Key).2 x := hx
 rw [this]
theorem has_put {m : List Int} (h : Ids.Up m) {id x : Int} (h1 : 1 ≤ id) (h2 : id < 1073741824) (hx : x ≠ id) : Ids.has (Ids.put m id) x = Ids.has m x := by
 rw [Bool.eq_iff_iff, Ids.has_iff, Ids.has_iff, Ids.mem_put m id x h h1 h2]
 exact ⟨fun h => h.resolve_left hx, .inr⟩
theorem has_drop {m : List Int} {id x : Int} (hx : x ≠ id) : Ids.has (Ids.drop m id) x = Ids.has m x := by
 rw [Bool.eq_iff_iff, Ids.has_iff, Ids.has_iff]
 unfold Ids.drop
 rw [List.mem_filter]
 exact ⟨fun h => h.1, fun h => ⟨h, by simpa using hx⟩⟩
theorem join_of {n : Nat} {ks : List Key} (h : KN n ks) {g id : Int} (he : (joinK ks g id).1 = 0) {x : Int} (hx : x ≠ id) : ofK (joinK ks g id).2 x = ofK ks x := by
 obtain ⟨-, e, hh, h1, h2⟩ := h.join he
 have hu := (chkK_iff _).1 h.chk
 have hri : Ids.Rise (memAt ks g) := hu.2.2 (g, memAt ks g) (mem_at hu.1 hh)
 rw [e]
 exact set_of hu.1 hh (has_put hri.1 h1 h2 hx)
theorem quit_of {n : Nat} {ks : List Key} (h : KN n ks) {g id : Int} (he : (quitK ks g id).1 = 0) {x : Int} (hx : x ≠ id) : ofK (quitK ks g id).2 x = ofK ks x := by
 obtain ⟨-, e, hh⟩ := h.quit he
 rw [e]
 exact set_of ((chkK_iff _).1 h.chk).1 hh (has_drop hx)
theorem leave_of (ks : List Key) {id x : Int} (hx : x ≠ id) : ofK (leaveK ks id) x = ofK ks x := by
 apply ofK_ext
 intro q
 unfold memQ leaveK
 rw [List.any_map]
 congr 1
 funext k
 show (decide (k.1.toNat = q) && Ids.has (Ids.drop k.2 id) x) = _
 rw [has_drop hx]
theorem get_same {s t : ShS} {x : Int} (h : lookC t.m x = lookC s.m x) : (t.get x).1 = (s.get x).1 ∧ ((s.get x).2 = 0 → (t.get x).2 = 0) := by
 cases hl : lookC s.m x with
 | none =>
  rw [get_none hl, get_none (h.trans hl)]
  refine ⟨rfl, fun h => ?_⟩
  dsimp only at h
  split at h <;> cases h
 | some c =>
  rw [get_some hl, get_some (h.trans hl)]
  exact ⟨rfl, fun _ => rfl⟩
theorem add_look {s : ShS} (hs : ShOk s) {p : Pt} {x : Int} (hx : x ≠ (s.add p).2.1.id) : lookC (s.add p).1.m x = lookC s.m x := by
 unfold ShS.add at *
 split
 · rfl
 · rename_i h1
   rw [if_neg h1] at hx
   split
   · rfl
   · rename_i h2
     rw [if_neg h2] at hx
     show lookC (s.m ++ [p.fresh s.next]) x = _
     rw [lookC_snoc (fun d hd => by rw [fresh_id]; have := (hs.id d hd).2; omega), if_neg hx]
theorem write_look {s : ShS} {id : Int} {p : Pt} {x : Int} (hx : x ≠ id) : lookC (s.write id p).1.m x = lookC s.m x := by
 unfold ShS.write
 split
 · rfl
 · split
   · rfl
   · split
     · rfl
     · rename_i h1 h2 h3
       have hid := (look_mem (get_ok (Decidable.not_not.1 h2))).2
       show lookC (putC s.m ((s.get id).1.merge p)) x = _
       rw [lookC_putC, if_neg (by rw [merge_id, hid]; exact hx)]
theorem drop_look {s : ShS} {id q : Int} {x : Int} (hx : x ≠ id) : lookC (s.drop id q).1.m x = lookC s.m x := by
 unfold ShS.drop
 split
 · rfl
 · split
   · rfl
   · show lookC (dropC s.m id) x = _
     rw [lookC_dropC, if_neg hx]
theorem act_others {n : Nat} {b : BkS} (h : BkOk n b) (e : Ed) (he : (b.act e).1 = 0) {x : Int} (hx : x ∉ (b.act e).2.1) : lookC (b.act e).2.2.1.m x = lookC b.sh.m x ∧ ofK (b.act e).2.2.2 x = ofK b.ks x := by
 unfold BkS.act at he hx ⊢
 split
 · rename_i h1
   rw [if_pos h1] at hx
   exact ⟨add_look h.sh (by simpa using hx), rfl⟩
 · rename_i h1
   rw [if_neg h1] at hx he
   split
   · rename_i h2
     rw [if_pos h2] at hx
     exact ⟨write_look (by simpa using hx), rfl⟩
   · rename_i h2
     rw [if_neg h2] at hx he
     split
     · rename_i h3
       rw [if_pos h3] at hx
       have hx : x ≠ e.id := by simpa using hx
       exact ⟨drop_look hx, leave_of _ hx⟩
     · rename_i h3
       rw [if_neg h3] at hx he
       split
       · rename_i h4
         rw [if_pos h4] at he
         exact ⟨rfl, open_of h.ks he x⟩
       · rename_i h4
         rw [if_neg h4] at hx he
         split
         · rename_i h5
           rw [if_pos h5] at hx he
           exact ⟨rfl, close_of h.ks he fun hm => hx (by simp [hm])⟩
         · rename_i h5
           rw [if_neg h5] at hx he
           split
           · rename_i h6
             rw [if_pos h6] at hx he
             split
             · exact ⟨rfl, rfl⟩
             · rename_i h7
               rw [if_neg h7] at hx he
               exact ⟨rfl, join_of h.ks he (by simpa using hx)⟩
           · rename_i h6
             rw [if_neg h6] at hx he
             exact ⟨rfl, quit_of h.ks he (by simpa using hx)⟩
end Go.Ofp
end
section
namespace Go.Proofs.YtneolmnpebiifaaGreatDoor
open Go.RowKit Go.Ofp
set_option maxHeartbeats 8000000
theorem build_rbof (a b : Int) (c1 : Option Addr) (n1 d1 : Nat) (c2 : Option Addr) (n2 d2 : Nat) (c3 : Option Addr) (n3 d3 : Nat) (w : World) : (Instr.build 53 #[(0, .int .i64 a), (1, .agg #[.int .i64 b, .slice c1 n1 d1, .slice c2 n2 d2]), (2, .slice c3 n3 d3)]).run Tryz.prog w = .ok (.agg #[.int .i64 a, .int .i64 b, .slice c1 n1 d1, .slice c2 n2 d2, .slice c3 n3 d3]) w := by kernel_rfl
theorem build_rsof (b : Int) (c1 : Option Addr) (n1 d1 : Nat) (c2 : Option Addr) (n2 d2 : Nat) (w : World) : (Instr.build 51 #[(0, .int .i64 b), (1, .slice c1 n1 d1), (2, .slice c2 n2 d2)]).run Tryz.prog w = .ok (.agg #[.int .i64 b, .slice c1 n1 d1, .slice c2 n2 d2]) w := by kernel_rfl
theorem rbof_any (b : BkS) (r : RV) (w : World) : Calls Tryz.prog 31 #[.agg #[.int .i64 b.seq, .int .i64 b.sh.next, .slice r.ca b.sh.m.length r.cc, .slice r.da b.sh.dead.length r.dc, .slice r.ga r.grs.length r.gc]] w fun e w' => e = .returned (.agg #[.int .i64 b.seq, .int .i64 b.sh.next, .slice r.ca b.sh.m.length r.cc, .slice r.da b.sh.dead.length r.dc, .slice r.ga r.grs.length r.gc]) ∧ Below w.heap.size w w' := by
 have hS := St.start w
 have eb := elem_rb
 have hB := build_rbof
 have hB2 := build_rsof
 generalize b.sh.m.length = n1
 generalize b.sh.dead.length = n2
 generalize r.grs.length = n3
 go_enter Tryz.func31, Tryz.ntmps31
 go_wp2_with (first | (with_reducible refine wpList_box_st hS rfl rfl rfl ?_; clear hS; intro g1 w1 hS) | (with_reducible refine al hS rfl rfl ?_; clear hS; intro g1 w1 hS) | (with_reducible refine stor 0 hS rfl rfl rfl rfl rfl rfl rfl rfl ?_; clear hS; intro w1 hS) | (with_reducible refine ld 1 hS rfl rfl rfl rfl rfl ?_))
 exact bodyPost_ret (v := .agg #[.int .i64 b.seq, .int .i64 b.sh.next, .slice r.ca n1 r.cc, .slice r.da n2 r.dc, .slice r.ga n3 r.gc]) (results_blk Tryz.results31 rfl hS 0 rfl (by kernel_rfl) (by kernel_rfl)) rfl ⟨rfl, hS.below⟩
end Go.Proofs.YtneolmnpebiifaaGreatDoor
end
