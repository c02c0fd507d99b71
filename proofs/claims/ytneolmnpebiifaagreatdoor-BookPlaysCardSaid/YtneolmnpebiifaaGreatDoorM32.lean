import Derived.Test.YtneolmnpebiifaaGreatDoorM31
set_option linter.unusedVariables false
set_option linter.unusedSimpArgs false
set_option maxRecDepth 100000
section
namespace Go.Proofs.YtneolmnpebiifaaGreatDoor
open Go.RowKit Go.Ofp
set_option maxHeartbeats 4000000
theorem rmembers_g (a : Option Addr) (gs : List Gr) (n cap : Nat) (g : Int) (w : World) (hD : Deep w a n cap gs) (hm : n ≤ 100000) (hu : Ids.Up (nos gs)) :
 Calls Tryz.prog 133 #[.slice a n cap, .int .i64 g] w fun e w' => (∃ x : Gr, (x ∈ gs ∨ x = ⟨0, none, 0, []⟩) ∧ x.mem = membersK (keys gs) g ∧ e = .returned (.slice x.a x.mem.length x.c)) ∧ w = w' := by
 have cP := rgplace_any a gs n cap g w hD hm hu
 have hlt := Ids.has_lt (nos gs) g hu
 unfold membersK memAt
 rw [← nos_keys]
 generalize Ids.has (nos gs) g = hb at cP hlt ⊢
 generalize Ids.place (nos gs) g = p at cP hlt ⊢
 cases hb with
 | false =>
  rw [if_neg (by simp)]
  rw [show plR false p = -1 from rfl] at cP
  replace cP := Lib.hid cP
  clear hD hu hlt
  go_enter Tryz.func133, Tryz.ntmps133
  go_wp2_with (go_at_call 159; (with_reducible refine cP.out.mono ?_); rintro _ _ ⟨rfl, rfl⟩)
  go_ret
  exact ⟨⟨⟨0, none, 0, []⟩, .inr rfl, rfl, rfl⟩, rfl⟩
 | true =>
  rw [if_pos rfl]
  rw [show plR true p = (p : Int) from rfl] at cP
  have hpn := hlt rfl
  have hpg : p < gs.length := by simpa [nos] using hpn
  obtain ⟨b, off, rfl, c0, c1⟩ := hD.get p hpg
  have hin := List.getElem_mem hpg
  have hln := hD.len
  have hmem : ((keys gs).getD p (0, [])).2 = gs[p].mem := by
   unfold keys
   simp [List.getD_eq_getElem?_getD, hpg, Gr.key]
  rw [hmem]
  generalize gs[p] = gp0 at c0 c1 hin
  have hpn2 : p < n := by omega
  have h0 : (0 : Int) ≤ (p : Int) := by omega
  replace cP := Lib.hid cP
  replace hin := Lib.hid hin
  clear hD hu hlt hpn hpg hmem c0 hln
  go_enter Tryz.func133, Tryz.ntmps133
  go_wp2_with (go_at_call 159; (with_reducible refine cP.out.mono ?_); rintro _ _ ⟨rfl, rfl⟩)
  go_ret
  exact ⟨⟨gp0, .inl hin.out, rfl, rfl⟩, rfl⟩
theorem rstep_any (g : Nat) (q : Int) (v c1 c2 c3 : Value) (a : Option Addr) (n c : Nat) (X : List (Int × Int)) (id : Int) (w : World) (hA : St w (feet [Ch.blk g 53 #[.int .i64 q, c1, c2, c3, v], Ch.row 48 2 (.slice a n c) n (chRows X)]) [Ch.blk g 53 #[.int .i64 q, c1, c2, c3, v], Ch.row 48 2 (.slice a n c) n (chRows X)] w) (hn : n ≤ 100000) (hq : 0 ≤ q ∧ q ≤ 4611686018427387904) :
 Calls Tryz.prog 89 #[.pointer (some ⟨g, 0, none⟩), .slice a n c, .int .i64 id] w fun e w' => ∃ a' c', e = .returned (.slice a' (n + 1 : Nat) c') ∧ St w (feet [Ch.blk g 53 #[.int .i64 q, c1, c2, c3, v], Ch.row 48 2 (.slice a n c) n (chRows X)]) [Ch.blk g 53 #[.int .i64 (q + 1), c1, c2, c3, v], Ch.row 48 2 (.slice a' (n + 1 : Nat) c') (n + 1) (chRows (X ++ [(q + 1, id)]))] w' := by
 have hS := hA
 have ech := elem_ch
 have hB := build_ch
 have hw1 : IntKind.i64.wrap (q + 1) = q + 1 := IntWalk.i64_in _ (by omega)
 have hnr : chRows (X ++ [(q + 1, id)]) = chRows X ++ [.int .i64 (q + 1), .int .i64 id] := chRows_snoc _ _ _
 replace hnr := Lib.hid hnr
 clear hA
 generalize feet [Ch.blk g 53 #[.int .i64 q, c1, c2, c3, v], Ch.row 48 2 (.slice a n c) n (chRows X)] = F at *
 generalize chRows X = XR at *
 go_enter Tryz.func89, Tryz.ntmps89
 go_wp2_with (first | (refine wpList_of_op fun K hK => op_build1_st (by with_unfolding_all rfl) hS rfl Tryz.underlying33 ech (cs := #[.int .i64 (q + 1), .int .i64 id]) rfl rfl (by decide) ?_; intro g3 w3 hS1; refine hK _ _ ?_; clear hK hS; have hS := hS1; clear hS1) | (at_builtin; (with_reducible refine wpList_app_st (news := [.int .i64 (q + 1), .int .i64 id]) (m := 1) 2 hS rfl rfl rfl Tryz.underlying33 ech rfl (Src.slice Tryz.underlying33 (hS.blksl2 0 rfl) rfl) rfl (by simp [Value.oneCell']) (by omega) (by unfold maxLen; omega) ?_); intro v6 w6 hS1; clear hS; simp only [List.set_cons_zero, List.set_cons_succ] at hS1; obtain ⟨a6, c6, rfl, -⟩ := hS1.row 2 rfl; have hS := hS1.drop; clear hS1) | (with_reducible refine ld 0 hS rfl rfl rfl rfl rfl ?_) | (with_reducible refine sto 0 hS rfl rfl rfl rfl rfl rfl ?_; clear hS; intro w1 hS))
 go_ret
 rw [hnr.out]
 exact ⟨a6, c6, rfl, hS⟩
theorem rbOutV_no {g : Nat} {b : BkS} {p : RV} {er : Int} {w w' : World} {F : List Nat} (hS : St w F [rbV g b p] w') : RbOutV g b p (b, [], er) w F (.returned (.tuple #[.slice none 0 0, .int .i64 er])) w' :=
 ⟨p, none, 0, [], rfl, (hS.nilrow 48 2).swap, Stp.same _ _⟩
theorem rbclose_any (m g : Nat) (b : BkS) (p : RV) (gn : Int) (w : World) (hA : St w [g] [rbV g b p] w) (hok : BkOk m b) (hm : m ≤ 2000) (hp : ∀ W, Fr [g] w W → p.at b W) :
 Calls Tryz.prog 87 #[.pointer (some ⟨g, 0, none⟩), .int .i64 gn] w (RbOutV g b p (b.fin ((closeK b.ks gn).1, membersK b.ks gn ++ [0], b.sh, (closeK b.ks gn).2)) w [g]) := by
 have hS := hA
 have ech := elem_ch
 have hsq := hok.seq
 have hG := (hp w (Fr.refl _ _)).ks
 have hkk : OkK (keys p.grs) := by rw [hG]; exact hok.ks.ok hm
 have hml := membersK_len hok.ks gn
 have cL := fun W h => rclose_k p.ga p.grs p.grs.length p.gc gn W h (by have := hkk.nn; omega) hkk.up
 have cM := fun W h => rmembers_g p.ga p.grs p.grs.length p.gc gn W h (by have := hkk.nn; omega) hkk.up
 rw [hG] at cL cM
 have hD := Lib.hid fun W h => (hp W h).deep
 have hLC := Lib.hid fun W (h : p.at b W) => h.lc
 have hend := Lib.hid fun (ks' : List Key) (a3 : Option Addr) (c3 : Nat) (gr3 : List Gr) (L3 : List Ch) (hk3 : keys gr3 = ks') (hK3 : GsK p.grs a3 gr3.length c3 gr3 L3) (q : Int) =>
  show Stp (p.at b) ((RV.mk p.ca p.cc p.da p.dc a3 c3 gr3).at ⟨q, b.sh, ks'⟩) L3 from fun w0 F0 A B W hW h => ⟨hk3, h.lc, h.ld, hK3 w0 F0 A B W hW h.deep.mem⟩
 have hno := Lib.hid fun (er : Int) (w' : World) (hS : St w [g] [rbV g b p] w') => rbOutV_no (er := er) hS
 clear hA hok hkk hp hLC
 have hfn : ∀ (er : Int) (T : List Int) (s1 : ShS) (k1 : List Key), er ≠ 0 → b.fin (er, T, s1, k1) = (b, [], er) := fun er T s1 k1 h => if_pos h
 have hfp : ∀ (T : List Int) (k1 : List Key), b.fin (0, T, b.sh, k1) = (⟨b.seq + T.length, b.sh, k1⟩, stepsL b.seq T, 0) := fun T k1 => rfl
 have hrow : ∀ (q : Int) (V : Value), rbB g (.int .i64 q) V (rsRow b.sh p.ca p.cc p.da p.dc) = Ch.blk g 53 #[.int .i64 q, .int .i64 b.sh.next, .slice p.ca b.sh.m.length p.cc, .slice p.da b.sh.dead.length p.dc, V] := fun _ _ => rfl
 simp only [rbV, hrow] at hS hno
 generalize closeK b.ks gn = QK at *
 generalize membersK b.ks gn = M at *
 obtain ⟨er, k1⟩ := QK
 simp only at *
 have hml2 : M.length ≤ 2000 := by omega
 have hfin := Lib.hid (hfn er (M ++ [0]) b.sh k1)
 have hfi0 := Lib.hid (hfp (M ++ [0]) k1)
 have cS := fun (a : Option Addr) (j c : Nat) (X : List (Int × Int)) (q : Int) (V : Value) (i : Int) (W : World) h h2 h3 => rstep_any g q V (.int .i64 b.sh.next) (.slice p.ca b.sh.m.length p.cc) (.slice p.da b.sh.dead.length p.dc) a j c X i W h h2 h3
 replace cS := Lib.hid cS
 replace cL := Lib.hid cL
 replace cM := Lib.hid cM
 clear hG hml hm hfn hfp
 replace hrow := Lib.hid hrow
 by_cases her : er = 0
 case neg =>
  have b1 : (er != 0) = true := by simpa using her
  replace hfin := Lib.hid (hfin.out her)
  clear her
  go_enter Tryz.func87, Tryz.ntmps87
  go_wp2_with (first | (go_at_call 133; (with_reducible refine (cM.out _ (hD.out _ hS.fr)).mono ?_); rintro _ _ ⟨⟨x, hx, hxm, rfl⟩, rfl⟩; replace hx := Lib.hid hx; replace hxm := Lib.hid hxm) | (go_at_call 134; (with_reducible refine (cL.out _ (hD.out _ hS.fr)).mono ?_); rintro _ w3 ⟨a3, c3, gr3, L3, hk3, rfl, hK3, hk9⟩; have hS1 := St.rot (A := L3) (hS.made hk9); simp only [List.cons_append, List.nil_append] at hS1; clear hS hk9; replace hk3 := Lib.hid hk3; replace hK3 := Lib.hid hK3; have hS := hS1; clear hS1) | (with_reducible refine ld 0 hS rfl rfl rfl rfl rfl ?_))
  go_ret2
  rw [hfin.out]
  exact hno.out _ _ (St.fore (A := [_]) hS)
 subst her
 go_enter Tryz.func87, Tryz.ntmps87
 go_wp2_with (first | (go_at_call 133; (with_reducible refine (cM.out _ (hD.out _ hS.fr)).mono ?_); rintro _ _ ⟨⟨x, hx, hxm, rfl⟩, rfl⟩; replace hx := Lib.hid hx; replace hxm := Lib.hid hxm) | (go_at_call 134; (with_reducible refine (cL.out _ (hD.out _ hS.fr)).mono ?_); rintro _ w3 ⟨a3, c3, gr3, L3, hk3, rfl, hK3, hk9⟩; have hS1 := St.rot (A := L3) (hS.made hk9); simp only [List.cons_append, List.nil_append] at hS1; clear hS hk9; replace hk3 := Lib.hid hk3; replace hK3 := Lib.hid hK3; have hS := hS1; clear hS1) | ((with_reducible refine wpList_build0_st hS rfl rfl Tryz.underlying33 ech ?_); intro g1 w3 hS1; clear hS; have hS := hS1.swap; clear hS1) | (with_reducible refine ld 0 hS rfl rfl rfl rfl rfl ?_))
 have hxs := Lib.hid fun W (h : Fr [g] w W) => show Sl W x.a (x.mem.map vi) by
  rcases hx.out with h1 | h1
  · exact ((hD.out W h).mem x h1).sl
  · subst h1; exact Sl.nil _ _
 obtain ⟨xn, xa, xc, xm⟩ := x
 simp only at *
 obtain rfl := hxm.out
 clear hxm hx hD cM cL
 have hbase : 0 < xm.length → ∃ b o, xa = some ⟨b, o, none⟩ := fun h => Sl.cells (hxs.out w (Fr.refl _ _)) (by intro e; have h2 := congrArg List.length e; rw [List.length_map] at h2; rw [h2] at h; exact absurd h (Nat.lt_irrefl 0))
 replace hbase := Lib.hid hbase
 go_loopg [9, 10] xm.length (fun gk vo vx wr => ∃ (j : Nat) (a : Option Addr) (c : Nat), j + gk = xm.length ∧ vx = .int .i64 j ∧ vo = .slice a j c ∧ St w [g] (Ch.blk g 53 #[.int .i64 (b.seq + j), .int .i64 b.sh.next, .slice p.ca b.sh.m.length p.cc, .slice p.da b.sh.dead.length p.dc, .slice p.ga p.grs.length p.gc] :: Ch.row 48 2 (.slice a j c) j (chRows (stepsL b.seq (xm.take j))) :: L3) wr)
 case atStart => exact ⟨0, _, _, Nat.zero_add _, rfl, rfl, by rw [show b.seq + ((0 : Nat) : Int) = b.seq by omega]; exact hS⟩
 case round =>
  clear hS
  obtain ⟨j, a, c, hj, rfl, rfl, hS⟩ := hrel
  by_cases hlt : j < xm.length
  · obtain ⟨b1, o1, rfl⟩ := hbase.out (by omega)
    have z0 : wr.cell? ⟨b1, o1 + j, none⟩ = some (.int .i64 xm[j]) := by
     have := (hxs.out wr hS.fr).add j (.int .i64 xm[j]) (by simp [vi, hlt])
     rwa [Addr.add_lit] at this
    have hnx := Lib.hid (stepsL_take xm b.seq j hlt)
    generalize xm[j] = tj at *
    go_wp2_with ((go_at_call 89; have q1 := hS.preM (A := []) (B := [_, _]) (R := L3); (with_reducible refine (cS.out _ _ _ _ _ _ _ _ q1 (by omega) (by omega)).mono ?_); clear q1; rintro _ w9 ⟨a9, c9, rfl, hk9⟩; have hS1 := hS.callM (A := []) (B := [_, _]) (R := L3) hk9; clear hS hk9; have hS := hS1; clear hS1))
    go_roundg (xm.length - (j + 1))
    case measure => omega
    case rel => exact ⟨j + 1, a9, c9, by omega, by go_num, rfl, by rw [hnx.out, show b.seq + ((j + 1 : Nat) : Int) = b.seq + (j : Int) + 1 by omega]; exact hS⟩
  · have hjk : j = xm.length := by omega
    subst hjk
    have hst := Lib.hid (stepsL_snoc xm b.seq 0)
    rw [List.take_length] at hS
    go_wp2_with (first | (go_at_call 89; have q1 := hS.preM (A := []) (B := [_, _]) (R := L3); (with_reducible refine (cS.out _ _ _ _ _ _ _ _ q1 (by omega) (by omega)).mono ?_); clear q1; rintro _ w9 ⟨a9, c9, rfl, hk9⟩; have hS1 := hS.callM (A := []) (B := [_, _]) (R := L3) hk9; clear hS hk9; have hS := hS1; clear hS1) | (with_reducible refine sto 0 hS rfl rfl rfl rfl rfl rfl ?_; clear hS; intro w1 hS))
    go_ret2
    have hq2 : b.seq + ((xm ++ [0]).length : Int) = b.seq + xm.length + 1 := by simp; omega
    have hq3 : (stepsL b.seq xm ++ [(b.seq + xm.length + 1, (0 : Int))]).length = xm.length + 1 := by rw [List.length_append, stepsL_len]; rfl
    rw [hfi0.out, hst.out]
    refine ⟨⟨p.ca, p.cc, p.da, p.dc, a3, c3, gr3⟩, a9, c9, L3, ?_, ?_, hend.out _ _ _ _ _ hk3.out hK3.out _⟩
    · show Ending.returned (.tuple #[.slice a9 (xm.length + 1) c9, .int .i64 0]) = _
      simp only [hq3]
    · simp only [hq3, hq2]
      exact hS
end Go.Proofs.YtneolmnpebiifaaGreatDoor
end
section
namespace Go.Ofp
theorem act4 (b : BkS) (e : Ed) (h : e.kind = 4) : b.act e = ((openK b.ks e.group).1, [0], b.sh, (openK b.ks e.group).2) := by unfold BkS.act; rw [h]; rfl
theorem act6 (b : BkS) (e : Ed) (h : e.kind = 6) : b.act e = (if (b.sh.get e.id).2 ≠ 0 then ((b.sh.get e.id).2, [], b.sh, b.ks) else ((joinK b.ks e.group e.id).1, [e.id], b.sh, (joinK b.ks e.group e.id).2)) := by unfold BkS.act; rw [h]; rfl
theorem act7 (b : BkS) (e : Ed) (h : e.kind = 7) : b.act e = ((quitK b.ks e.group e.id).1, [e.id], b.sh, (quitK b.ks e.group e.id).2) := by unfold BkS.act; rw [h]; rfl
theorem act1 (b : BkS) (e : Ed) (h : e.kind = 1) : b.act e = ((b.sh.add e.p).2.2, [(b.sh.add e.p).2.1.id], (b.sh.add e.p).1, b.ks) := by unfold BkS.act; rw [h]; rfl
theorem act2 (b : BkS) (e : Ed) (h : e.kind = 2) : b.act e = ((b.sh.write e.id e.p).2.2, [e.id], (b.sh.write e.id e.p).1, b.ks) := by unfold BkS.act; rw [h]; rfl
theorem act3 (b : BkS) (e : Ed) (h : e.kind = 3) : b.act e = ((b.sh.drop e.id (b.seq + 1)).2, [e.id], (b.sh.drop e.id (b.seq + 1)).1, leaveK b.ks e.id) := by unfold BkS.act; rw [h]; rfl
theorem act5 (b : BkS) (e : Ed) (h : e.kind = 5) : b.act e = ((closeK b.ks e.group).1, membersK b.ks e.group ++ [0], b.sh, (closeK b.ks e.group).2) := by unfold BkS.act; rw [h]; rfl
theorem check4 {e : Ed} (hk : e.kind = 4) (hc : e.check = 0) : e.id = 0 := by
 unfold Ed.check at hc
 rw [hk] at hc
 have h1 : hasI 4 = false := rfl
 rw [h1] at hc
 split at hc
 · cases hc
 · split at hc
   · cases hc
   · split at hc
     · cases hc
     · rename_i h2
       have := not_or.1 h2
       simpa using this.2
end Go.Ofp
namespace Go.Proofs.YtneolmnpebiifaaGreatDoor
open Go.RowKit Go.Ofp
set_option maxHeartbeats 8000000
theorem rstep_nil (g : Nat) (q : Int) (v c1 c2 c3 : Value) (id : Int) (w : World) (hA : St w (feet [Ch.blk g 53 #[.int .i64 q, c1, c2, c3, v], Ch.row 48 2 (.slice none 0 0) 0 []]) [Ch.blk g 53 #[.int .i64 q, c1, c2, c3, v], Ch.row 48 2 (.slice none 0 0) 0 []] w) (hq : 0 ≤ q ∧ q ≤ 1099511628776) :
 Calls Tryz.prog 89 #[.pointer (some ⟨g, 0, none⟩), .slice none 0 0, .int .i64 id] w fun e w' => ∃ a' c', e = .returned (.slice a' 1 c') ∧ St w (feet [Ch.blk g 53 #[.int .i64 q, c1, c2, c3, v], Ch.row 48 2 (.slice none 0 0) 0 []]) [Ch.blk g 53 #[.int .i64 (q + 1), c1, c2, c3, v], Ch.row 48 2 (.slice a' 1 c') 1 (chRows [(q + 1, id)])] w' :=
 rstep_any g q v c1 c2 c3 none 0 0 [] id w hA (by omega) ⟨hq.1, by omega⟩
theorem rbgroups4_any (m g : Nat) (b : BkS) (p : RV) (e : Ed) (he : EdIn e) (hk : e.kind = 4) (h0 : e.id = 0) (w : World) (hA : St w [g] [rbV g b p] w) (hok : BkOk m b) (hm : m ≤ 2000) (hp : ∀ W, Fr [g] w W → p.at b W) :
 Calls Tryz.prog 88 #[.pointer (some ⟨g, 0, none⟩), .agg (edRow e).toArray] w (RbOutV g b p (b.fin (b.act e)) w [g]) := by
 have hS := hA
 have hsq := hok.seq
 have hpl := ptRow_len e.p he.p.len
 have hG := (hp w (Fr.refl _ _)).ks
 have hkk : OkK (keys p.grs) := by rw [hG]; exact hok.ks.ok hm
 have cL := fun W h => ropen_k p.ga p.grs p.grs.length p.gc e.group W h (by have := hkk.nn; omega) hkk.up
 rw [hG] at cL
 rw [act4 b e hk]
 have hD := Lib.hid fun W h => (hp W h).deep
 have hend := Lib.hid fun (ks' : List Key) (a3 : Option Addr) (c3 : Nat) (gr3 : List Gr) (L3 : List Ch) (hk3 : keys gr3 = ks') (hK3 : GsK p.grs a3 gr3.length c3 gr3 L3) (q : Int) =>
  show Stp (p.at b) ((RV.mk p.ca p.cc p.da p.dc a3 c3 gr3).at ⟨q, b.sh, ks'⟩) L3 from fun w0 F0 A B W hW h => ⟨hk3, h.lc, h.ld, hK3 w0 F0 A B W hW h.deep.mem⟩
 have hno := Lib.hid fun (er : Int) (w' : World) (hS : St w [g] [rbV g b p] w') => rbOutV_no (er := er) hS
 have cS := Lib.hid fun (V : Value) (i : Int) (W : World) h => rstep_nil g b.seq V (.int .i64 b.sh.next) (.slice p.ca b.sh.m.length p.cc) (.slice p.da b.sh.dead.length p.dc) i W h hsq
 have hfn : ∀ (er : Int) (T : List Int) (s1 : ShS) (k1 : List Key), er ≠ 0 → b.fin (er, T, s1, k1) = (b, [], er) := fun er T s1 k1 h => if_pos h
 have hfp : ∀ (i : Int) (k1 : List Key), b.fin (0, [i], b.sh, k1) = (⟨b.seq + 1, b.sh, k1⟩, [(b.seq + 1, i)], 0) := fun _ _ => rfl
 have hrow : ∀ (q : Int) (V : Value), rbB g (.int .i64 q) V (rsRow b.sh p.ca p.cc p.da p.dc) = Ch.blk g 53 #[.int .i64 q, .int .i64 b.sh.next, .slice p.ca b.sh.m.length p.cc, .slice p.da b.sh.dead.length p.dc, V] := fun _ _ => rfl
 simp only [rbV, hrow] at hS hno
 replace hrow := Lib.hid hrow
 replace hfn := Lib.hid hfn
 replace hfp := Lib.hid hfp
 obtain ⟨kd, i, gn, pt⟩ := e
 have e0 : edRow ⟨kd, i, gn, pt⟩ = .int .i64 kd :: .int .i64 i :: .int .i64 gn :: ptRow pt := rfl
 rw [e0]
 simp only at *
 subst hk
 subst h0
 clear e0 he hok hA hkk hm hG hp
 generalize ptRow pt = PR at *
 generalize openK b.ks gn = QK at *
 obtain ⟨er, k1⟩ := QK
 simp only at *
 replace cL := Lib.hid cL
 go_enter Tryz.func88, Tryz.ntmps88
 go_wp2_with (first | (with_reducible refine wpList_box_st hS rfl rfl rfl ?_; clear hS; intro g1 w1 hS) | (with_reducible refine ld 0 hS rfl rfl rfl rfl rfl ?_) | (with_reducible refine ld 1 hS rfl rfl rfl rfl rfl ?_))
 refine mixs_beginC2 (by kernel_rfl) hS ?_
 clear hS
 intro w2 hS hC
 have kb := hC.kblk 0 rfl
 have kg := hC.kblk 1 rfl
 refine tk 0 ?_
 refine tk 1 ?_
 refine tk 2 ?_
 refine tk 3 ?_
 refine tk 4 ?_
 refine tk 5 ?_
 refine mixs_one 6 (by kernel_rfl) rfl (fun K hK => ?_)
 go_simp
 (go_at_call 135; (with_reducible refine (cL.out _ (hD.out _ hS.fr)).mono ?_); rintro _ w3 ⟨a3, c3, gr3, L3, hk3, rfl, hK3, hk9⟩; have hS1 := St.rot (A := L3) (hS.made hk9); simp only [List.cons_append, List.nil_append] at hS1; clear hS hk9; replace hk3 := Lib.hid hk3; replace hK3 := Lib.hid hK3; have hS := hS1; clear hS1)
 try clear hC
 refine cl hK (fun hC => ?_)
 clear hK K
 refine tk 7 ?_
 refine tk 8 ?_
 refine tk 9 ?_
 refine tk 10 ?_
 refine tk 11 ?_
 refine wpAnyH_done (by kernel_rfl) ?_ _
 clear kb kg
 by_cases her : er = 0
 case neg =>
  have hfin := Lib.hid (hfn.out er [0] b.sh k1 her)
  have b1 : (er != 0) = true := by simpa using her
  clear her
  go_wp2_with fail
  go_ret2
  rw [hfin.out]
  exact hno.out _ _ (St.fore (A := [_]) hS.drop)
 subst her
 go_wp2_with (first | (go_at_call 89; have hS2 := St.mid (A := []) (B := [_]) (C := [_, _]) (R := L3) (hS.nilrow 48 2); have q1 := hS2.preM (A := [_]) (B := [_, _]) (R := L3); (with_reducible refine (cS.out _ _ _ q1).mono ?_); clear q1; rintro _ w9 ⟨a9, c9, rfl, hk9⟩; have hS1 := hS2.callM (A := [_]) (B := [_, _]) (R := L3) hk9; clear hS hS2 hk9; have hS := hS1; clear hS1) | (with_reducible refine ld 0 hS rfl rfl rfl rfl rfl ?_) | (with_reducible refine sto 1 hS rfl rfl rfl rfl rfl rfl ?_; clear hS; intro w1 hS))
 go_ret2
 rw [hfp.out]
 refine ⟨⟨p.ca, p.cc, p.da, p.dc, a3, c3, gr3⟩, a9, c9, L3, rfl, ?_, hend.out _ _ _ _ _ hk3.out hK3.out _⟩
 simp only [rbV, hrow.out]
 exact hS.drop
theorem rbgroups6_any (m g : Nat) (b : BkS) (p : RV) (e : Ed) (he : EdIn e) (hk : e.kind = 6) (w : World) (hA : St w [g] [rbV g b p] w) (hok : BkOk m b) (hm : m ≤ 2000) (hp : ∀ W, Fr [g] w W → p.at b W) :
 Calls Tryz.prog 88 #[.pointer (some ⟨g, 0, none⟩), .agg (edRow e).toArray] w (RbOutV g b p (b.fin (b.act e)) w [g]) := by
 have hS := hA
 have hsq := hok.seq
 have hpl := ptRow_len e.p he.p.len
 have hG := (hp w (Fr.refl _ _)).ks
 have hkk : OkK (keys p.grs) := by rw [hG]; exact hok.ks.ok hm
 have cL := fun W h => rjoin_k p.ga p.grs p.grs.length p.gc e.group e.id W h (by have := hkk.nn; omega) hkk.mm hkk.up
 rw [hG] at cL
 have hgf := get_f hok.sh e.id
 have hgl := cdRow_lenT _ hgf
 have cG := fun W h => rsget_any b.sh p.ca p.cc p.da p.dc e.id W (hp W h).lc (hp W h).ld
 have hgV : sgV (b.sh.get e.id) = .tuple #[.agg (cdRow (b.sh.get e.id).1).toArray, .int .i64 (b.sh.get e.id).2] := rfl
 have hR : rsRow b.sh p.ca p.cc p.da p.dc = [.int .i64 b.sh.next, .slice p.ca b.sh.m.length p.cc, .slice p.da b.sh.dead.length p.dc] := rfl
 rw [hgV, hR] at cG
 rw [act6 b e hk]
 have hD := Lib.hid fun W h => (hp W h).deep
 have hend := Lib.hid fun (ks' : List Key) (a3 : Option Addr) (c3 : Nat) (gr3 : List Gr) (L3 : List Ch) (hk3 : keys gr3 = ks') (hK3 : GsK p.grs a3 gr3.length c3 gr3 L3) (q : Int) =>
  show Stp (p.at b) ((RV.mk p.ca p.cc p.da p.dc a3 c3 gr3).at ⟨q, b.sh, ks'⟩) L3 from fun w0 F0 A B W hW h => ⟨hk3, h.lc, h.ld, hK3 w0 F0 A B W hW h.deep.mem⟩
 have hno := Lib.hid fun (er : Int) (w' : World) (hS : St w [g] [rbV g b p] w') => rbOutV_no (er := er) hS
 have cS := Lib.hid fun (V : Value) (i : Int) (W : World) h => rstep_nil g b.seq V (.int .i64 b.sh.next) (.slice p.ca b.sh.m.length p.cc) (.slice p.da b.sh.dead.length p.dc) i W h hsq
 have hfn : ∀ (er : Int) (T : List Int) (s1 : ShS) (k1 : List Key), er ≠ 0 → b.fin (er, T, s1, k1) = (b, [], er) := fun er T s1 k1 h => if_pos h
 have hfp : ∀ (i : Int) (k1 : List Key), b.fin (0, [i], b.sh, k1) = (⟨b.seq + 1, b.sh, k1⟩, [(b.seq + 1, i)], 0) := fun _ _ => rfl
 have hrow : ∀ (q : Int) (V : Value), rbB g (.int .i64 q) V (rsRow b.sh p.ca p.cc p.da p.dc) = Ch.blk g 53 #[.int .i64 q, .int .i64 b.sh.next, .slice p.ca b.sh.m.length p.cc, .slice p.da b.sh.dead.length p.dc, V] := fun _ _ => rfl
 simp only [rbV, hrow] at hS hno
 replace hrow := Lib.hid hrow
 replace hfn := Lib.hid hfn
 replace hfp := Lib.hid hfp
 obtain ⟨kd, i, gn, pt⟩ := e
 have e0 : edRow ⟨kd, i, gn, pt⟩ = .int .i64 kd :: .int .i64 i :: .int .i64 gn :: ptRow pt := rfl
 rw [e0]
 simp only at *
 subst hk
 clear e0 he hok hA hkk hm hG hp
 generalize ptRow pt = PR at *
 generalize cdRow (b.sh.get i).1 = GR at *
 generalize (b.sh.get i).2 = ge at *
 replace cG := Lib.hid cG
 clear hR hgV
 generalize joinK b.ks gn i = QK at *
 obtain ⟨er, k1⟩ := QK
 simp only at *
 obtain ⟨IF, hIF⟩ : ∃ IF, (if ge ≠ 0 then (ge, ([] : List Int), b.sh, b.ks) else (er, [i], b.sh, k1)) = IF := ⟨_, rfl⟩
 rw [hIF]
 replace hIF := Lib.hid hIF
 replace cL := Lib.hid cL
 go_enter Tryz.func88, Tryz.ntmps88
 go_wp2_with (first | (with_reducible refine wpList_box_st hS rfl rfl rfl ?_; clear hS; intro g1 w1 hS) | (with_reducible refine ld 0 hS rfl rfl rfl rfl rfl ?_) | (with_reducible refine ld 1 hS rfl rfl rfl rfl rfl ?_))
 refine mixs_beginC2 (by kernel_rfl) hS ?_
 clear hS
 intro w2 hS hC
 have kb := hC.kblk 0 rfl
 have kg := hC.kblk 1 rfl
 have kr := hC.krow (P := Tryz.prog) (j := 1) 1 rfl (t := 51) (by kernel_rfl) (n := 3) (by kernel_rfl) (vs := [.int .i64 b.sh.next, .slice p.ca b.sh.m.length p.cc, .slice p.da b.sh.dead.length p.dc]) rfl rfl
 refine tk 0 ?_
 refine tk 1 ?_
 refine tk 2 ?_
 refine tkr 3 kr ?_
 refine tk 4 ?_
 refine tk 5 ?_
 refine mixs_one 6 (by kernel_rfl) rfl (fun K hK => ?_)
 go_simp
 (go_at_call 17; (with_reducible refine (cG.out _ hS.fr).mono ?_); rintro _ w3 ⟨rfl, hk9⟩; replace hS := hS.keepB hk9; clear hk9)
 try clear hC
 refine cl hK (fun hC => ?_)
 clear hK K
 refine tk 7 ?_
 refine tk 8 ?_
 refine tk 9 ?_
 refine tk 10 ?_
 refine wpAnyH_done (by kernel_rfl) ?_ _
 clear kb kg kr hC
 by_cases hge : ge = 0
 case neg =>
  have hIp := hIF.out
  rw [if_pos hge] at hIp
  subst hIp
  clear hIF
  have hfin0 := Lib.hid (hfn.out ge [] b.sh b.ks hge)
  have b1 : (ge != 0) = true := by simpa using hge
  have b2 : (ge == 0) = false := by simpa using hge
  clear hge
  go_wp2_with fail
  go_ret2
  rw [hfin0.out]
  exact hno.out _ _ hS.drop
 subst hge
 have hIp := hIF.out
 rw [if_neg (by simp)] at hIp
 subst hIp
 clear hIF
 go_wp2_with fail
 refine mixs_beginC2 (by kernel_rfl) hS ?_
 clear hS
 intro w2 hS hC
 have kb := hC.kblk 0 rfl
 have kg := hC.kblk 1 rfl
 refine tk 0 ?_
 refine tk 1 ?_
 refine tk 2 ?_
 refine tk 3 ?_
 refine tk 4 ?_
 refine tk 5 ?_
 refine tk 6 ?_
 refine tk 7 ?_
 refine mixs_one 8 (by kernel_rfl) rfl (fun K hK => ?_)
 go_simp
 (go_at_call 136; (with_reducible refine (cL.out _ (hD.out _ hS.fr)).mono ?_); rintro _ w3 ⟨a3, c3, gr3, L3, hk3, rfl, hK3, hk9⟩; have hS1 := St.rot (A := L3) (hS.made hk9); simp only [List.cons_append, List.nil_append] at hS1; clear hS hk9; replace hk3 := Lib.hid hk3; replace hK3 := Lib.hid hK3; have hS := hS1; clear hS1)
 try clear hC
 refine cl hK (fun hC => ?_)
 clear hK K
 refine tk 9 ?_
 refine tk 10 ?_
 refine tk 11 ?_
 refine tk 12 ?_
 refine tk 13 ?_
 refine wpAnyH_done (by kernel_rfl) ?_ _
 clear kb kg
 by_cases her : er = 0
 case neg =>
  have hfin := Lib.hid (hfn.out er [i] b.sh k1 her)
  have b1 : (er != 0) = true := by simpa using her
  clear her
  go_wp2_with fail
  go_ret2
  rw [hfin.out]
  exact hno.out _ _ (St.fore (A := [_]) hS.drop)
 subst her
 go_wp2_with (first | (go_at_call 89; have hS2 := St.mid (A := []) (B := [_]) (C := [_, _]) (R := L3) (hS.nilrow 48 2); have q1 := hS2.preM (A := [_]) (B := [_, _]) (R := L3); (with_reducible refine (cS.out _ _ _ q1).mono ?_); clear q1; rintro _ w9 ⟨a9, c9, rfl, hk9⟩; have hS1 := hS2.callM (A := [_]) (B := [_, _]) (R := L3) hk9; clear hS hS2 hk9; have hS := hS1; clear hS1) | (with_reducible refine ld 0 hS rfl rfl rfl rfl rfl ?_) | (with_reducible refine sto 1 hS rfl rfl rfl rfl rfl rfl ?_; clear hS; intro w1 hS))
 go_ret2
 rw [hfp.out]
 refine ⟨⟨p.ca, p.cc, p.da, p.dc, a3, c3, gr3⟩, a9, c9, L3, rfl, ?_, hend.out _ _ _ _ _ hk3.out hK3.out _⟩
 simp only [rbV, hrow.out]
 exact hS.drop
theorem rbgroups7_any (m g : Nat) (b : BkS) (p : RV) (e : Ed) (he : EdIn e) (hk : e.kind = 7) (w : World) (hA : St w [g] [rbV g b p] w) (hok : BkOk m b) (hm : m ≤ 2000) (hp : ∀ W, Fr [g] w W → p.at b W) :
 Calls Tryz.prog 88 #[.pointer (some ⟨g, 0, none⟩), .agg (edRow e).toArray] w (RbOutV g b p (b.fin (b.act e)) w [g]) := by
 have hS := hA
 have hsq := hok.seq
 have hpl := ptRow_len e.p he.p.len
 have hG := (hp w (Fr.refl _ _)).ks
 have hkk : OkK (keys p.grs) := by rw [hG]; exact hok.ks.ok hm
 have cL := fun W h => rquit_k p.ga p.grs p.grs.length p.gc e.group e.id W h (by have := hkk.nn; omega) hkk.mm hkk.up
 rw [hG] at cL
 rw [act7 b e hk]
 have hD := Lib.hid fun W h => (hp W h).deep
 have hend := Lib.hid fun (ks' : List Key) (a3 : Option Addr) (c3 : Nat) (gr3 : List Gr) (L3 : List Ch) (hk3 : keys gr3 = ks') (hK3 : GsK p.grs a3 gr3.length c3 gr3 L3) (q : Int) =>
  show Stp (p.at b) ((RV.mk p.ca p.cc p.da p.dc a3 c3 gr3).at ⟨q, b.sh, ks'⟩) L3 from fun w0 F0 A B W hW h => ⟨hk3, h.lc, h.ld, hK3 w0 F0 A B W hW h.deep.mem⟩
 have hno := Lib.hid fun (er : Int) (w' : World) (hS : St w [g] [rbV g b p] w') => rbOutV_no (er := er) hS
 have cS := Lib.hid fun (V : Value) (i : Int) (W : World) h => rstep_nil g b.seq V (.int .i64 b.sh.next) (.slice p.ca b.sh.m.length p.cc) (.slice p.da b.sh.dead.length p.dc) i W h hsq
 have hfn : ∀ (er : Int) (T : List Int) (s1 : ShS) (k1 : List Key), er ≠ 0 → b.fin (er, T, s1, k1) = (b, [], er) := fun er T s1 k1 h => if_pos h
 have hfp : ∀ (i : Int) (k1 : List Key), b.fin (0, [i], b.sh, k1) = (⟨b.seq + 1, b.sh, k1⟩, [(b.seq + 1, i)], 0) := fun _ _ => rfl
 have hrow : ∀ (q : Int) (V : Value), rbB g (.int .i64 q) V (rsRow b.sh p.ca p.cc p.da p.dc) = Ch.blk g 53 #[.int .i64 q, .int .i64 b.sh.next, .slice p.ca b.sh.m.length p.cc, .slice p.da b.sh.dead.length p.dc, V] := fun _ _ => rfl
 simp only [rbV, hrow] at hS hno
 replace hrow := Lib.hid hrow
 replace hfn := Lib.hid hfn
 replace hfp := Lib.hid hfp
 obtain ⟨kd, i, gn, pt⟩ := e
 have e0 : edRow ⟨kd, i, gn, pt⟩ = .int .i64 kd :: .int .i64 i :: .int .i64 gn :: ptRow pt := rfl
 rw [e0]
 simp only at *
 subst hk
 clear e0 he hok hA hkk hm hG hp
 generalize ptRow pt = PR at *
 generalize quitK b.ks gn i = QK at *
 obtain ⟨er, k1⟩ := QK
 simp only at *
 replace cL := Lib.hid cL
 go_enter Tryz.func88, Tryz.ntmps88
 go_wp2_with (first | (with_reducible refine wpList_box_st hS rfl rfl rfl ?_; clear hS; intro g1 w1 hS) | (with_reducible refine ld 0 hS rfl rfl rfl rfl rfl ?_) | (with_reducible refine ld 1 hS rfl rfl rfl rfl rfl ?_))
 refine mixs_beginC2 (by kernel_rfl) hS ?_
 clear hS
 intro w2 hS hC
 have kb := hC.kblk 0 rfl
 have kg := hC.kblk 1 rfl
 refine tk 0 ?_
 refine tk 1 ?_
 refine tk 2 ?_
 refine tk 3 ?_
 refine tk 4 ?_
 refine tk 5 ?_
 refine tk 6 ?_
 refine tk 7 ?_
 refine mixs_one 8 (by kernel_rfl) rfl (fun K hK => ?_)
 go_simp
 (go_at_call 137; (with_reducible refine (cL.out _ (hD.out _ hS.fr)).mono ?_); rintro _ w3 ⟨a3, c3, gr3, L3, hk3, rfl, hK3, hk9⟩; have hS1 := St.rot (A := L3) (hS.made hk9); simp only [List.cons_append, List.nil_append] at hS1; clear hS hk9; replace hk3 := Lib.hid hk3; replace hK3 := Lib.hid hK3; have hS := hS1; clear hS1)
 try clear hC
 refine cl hK (fun hC => ?_)
 clear hK K
 refine tk 9 ?_
 refine tk 10 ?_
 refine tk 11 ?_
 refine tk 12 ?_
 refine tk 13 ?_
 refine wpAnyH_done (by kernel_rfl) ?_ _
 clear kb kg
 by_cases her : er = 0
 case neg =>
  have hfin := Lib.hid (hfn.out er [i] b.sh k1 her)
  have b1 : (er != 0) = true := by simpa using her
  clear her
  go_wp2_with fail
  go_ret2
  rw [hfin.out]
  exact hno.out _ _ (St.fore (A := [_]) hS.drop)
 subst her
 go_wp2_with (first | (go_at_call 89; have hS2 := St.mid (A := []) (B := [_]) (C := [_, _]) (R := L3) (hS.nilrow 48 2); have q1 := hS2.preM (A := [_]) (B := [_, _]) (R := L3); (with_reducible refine (cS.out _ _ _ q1).mono ?_); clear q1; rintro _ w9 ⟨a9, c9, rfl, hk9⟩; have hS1 := hS2.callM (A := [_]) (B := [_, _]) (R := L3) hk9; clear hS hS2 hk9; have hS := hS1; clear hS1) | (with_reducible refine ld 0 hS rfl rfl rfl rfl rfl ?_) | (with_reducible refine sto 1 hS rfl rfl rfl rfl rfl rfl ?_; clear hS; intro w1 hS))
 go_ret2
 rw [hfp.out]
 refine ⟨⟨p.ca, p.cc, p.da, p.dc, a3, c3, gr3⟩, a9, c9, L3, rfl, ?_, hend.out _ _ _ _ _ hk3.out hK3.out _⟩
 simp only [rbV, hrow.out]
 exact hS.drop
end Go.Proofs.YtneolmnpebiifaaGreatDoor
end
