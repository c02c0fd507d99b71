import Derived.Deep.CutRange
import Derived.Test.YtneolmnpebiifaaGreatDoorM35
set_option linter.unusedVariables false
set_option linter.unusedSimpArgs false
set_option maxRecDepth 100000
section
namespace Go.Proofs.YtneolmnpebiifaaGreatDoor
open Go.RowKit Go.Ofp
set_option maxHeartbeats 4000000
theorem rsdrop_b (g : Nat) (q0 v : Value) (s : ShS) (ca : Option Addr) (cc : Nat) (da : Option Addr) (dc : Nat) (id q : Int) (hq : I64 q) (w : World) (hS : St w [g] [rbB g q0 v (rsRow s ca cc da dc)] w) (hl : ∀ W, Fr [g] w W → LC W s ca cc) (hd : ∀ W, Fr [g] w W → LD W s da dc) (hok : ShOk s) :
 Calls Tryz.prog 85 #[.pointer (some ⟨g, 1, none⟩), .int .i64 id, .int .i64 q] w fun e w' => e = .returned (.int .i64 (s.drop id q).2) ∧ ∃ ca' cc' da' dc' L', St w [g] (rbB g q0 v (rsRow (s.drop id q).1 ca' cc' da' dc') :: L') w' ∧ RsK s (s.drop id q).1 ca cc da dc ca' cc' da' dc' L' := by
 have ec := elem_card
 have ed := elem_dd
 have cG := fun W h1 h2 => rsget_any s ca cc da dc id W h1 h2
 have cP := fun W h => splace_any s ca cc da dc id W h
 have hgf := get_f hok id
 have hdr : s.drop id q = if (s.get id).2 ≠ 0 then (s, (s.get id).2) else if s.seqBad q = true then (s, 1) else (⟨s.next, dropC s.m id, lastD (s.dead ++ [⟨id, (s.get id).1.ver, q⟩])⟩, 0) := rfl
 have hgV : sgV (s.get id) = .tuple #[.agg (cdRow (s.get id).1).toArray, .int .i64 (s.get id).2] := rfl
 have hcl := cdRow_lenT _ hgf
 have hco := cdRow_oneT (s.get id).1
 have hfin : (s.get id).2 = 0 → plV s.m id = (placeC s.m id : Int) ∧ placeC s.m id < s.m.length ∧ s.m.take (placeC s.m id) ++ s.m.drop (placeC s.m id + 1) = dropC s.m id := fun h => by
  have hl := get_ok h
  have h1 : (lookC s.m id).isSome = true := by rw [hl]; rfl
  refine ⟨?_, placeC_lt.2 h1, cut_dropC hok.ris⟩
  unfold plV
  rw [if_pos h1]
 obtain ⟨CT, hCT⟩ : ∃ CT, cdRow (s.get id).1 = .int .i64 (s.get id).1.id :: .int .i64 (s.get id).1.ver :: CT := ⟨_, rfl⟩
 rw [hdr]
 rw [hgV] at cG
 rw [hCT] at cG hcl hco
 have hR : rsRow s ca cc da dc = [.int .i64 s.next, .slice ca s.m.length cc, .slice da s.dead.length dc] := rfl
 have hsame : ∀ W (L : List Ch), St w [g] (rbB g q0 v (rsRow s ca cc da dc) :: L) W → ∃ ca' cc' da' dc' L', St w [g] (rbB g q0 v (rsRow s ca' cc' da' dc') :: L') W ∧ RsK s s ca cc da dc ca' cc' da' dc' L' := fun W L h => ⟨ca, cc, da, dc, [], h.one 0 rfl, RsK.same s ca cc da dc []⟩
 rw [hR] at cG cP hS hsame
 simp only [rbB, List.cons_append, List.nil_append] at hS hsame
 replace hsame := Lib.hid hsame
 replace cG := Lib.hid cG
 replace cP := Lib.hid cP
 replace hl := Lib.hid hl
 clear hdr hgV hR hCT hgf
 generalize (s.get id).1.id = ci at *
 generalize (s.get id).1.ver = cv at *
 generalize (s.get id).2 = er at *
 by_cases her : er = 0
 case neg =>
  rw [if_pos her]
  have b2 : (er != 0) = true := by simpa using her
  clear her hfin
  replace hd := Lib.hid hd
  go_enter Tryz.func85, Tryz.ntmps85
  go_wp2_with (first | ((with_reducible refine wpList_loadrow_st (t := 51) (n := 3) (j := 1) (vs := [.int .i64 s.next, .slice ca s.m.length cc, .slice da s.dead.length dc]) 0 hS rfl rfl rfl rfl (by kernel_rfl) (by kernel_rfl) rfl rfl ?_)) | (go_at_call 17; (with_reducible refine (cG.out _ (hl.out _ hS.fr) (hd.out _ hS.fr)).mono ?_); rintro _ w3 ⟨rfl, hk9⟩; replace hS := hS.keepB hk9; clear hk9) | ((with_reducible refine wpList_storerow_st (t := 58) (n := 27) (vs := Value.int .i64 ci :: .int .i64 cv :: CT) 0 hS rfl rfl rfl rfl (by kernel_rfl) rfl hcl hco (by kernel_rfl) ?_); clear hS; intro w1 hS; try simp only [List.set_cons_zero, List.set_cons_succ, List.setIfInBounds_toArray, List.take_succ_cons, List.take_zero, List.drop_succ_cons, List.drop_zero, List.nil_append, List.cons_append, List.append_nil, List.drop_nil, List.take_nil, List.length_cons, List.length_nil, Nat.zero_add, Nat.add_zero, Nat.reduceAdd] at hS) | (with_reducible refine al hS rfl rfl ?_; clear hS; intro g1 w1 hS))
  go_ret
  exact ⟨rfl, hsame.out _ _ hS.drop⟩
 rw [if_neg (by simp [her])]
 subst her
 obtain ⟨f1, f2, f3⟩ := hfin rfl
 rw [f1] at cP
 clear hfin f1
 have hml := hok.len
 obtain ⟨b2, o2, hca⟩ := (hl.out w (Fr.refl _ _)).base (k := 27) (by decide) (fun y hy => cdRow_lenT y (hok.fl y hy)) (by omega)
 subst hca
 obtain ⟨R1, hR1⟩ : ∃ R, ((s.m.take (placeC s.m id)).map cdRow).flatten = R := ⟨_, rfl⟩
 obtain ⟨R2, hR2⟩ : ∃ R, ((s.m.drop (placeC s.m id + 1)).map cdRow).flatten = R := ⟨_, rfl⟩
 have hR12 : R1 ++ R2 = ((dropC s.m id).map cdRow).flatten := by rw [← f3, List.map_append, List.flatten_append, hR1, hR2]
 have hdcl : (dropC s.m id).length = placeC s.m id + (s.m.length - (placeC s.m id + 1)) := by rw [← f3, List.length_append, List.length_take, List.length_drop, Nat.min_eq_left (by omega)]
 have hr1l : R1.length = placeC s.m id * 27 := by rw [← hR1, rows_len27 fun y hy => hok.fl y (List.mem_of_mem_take hy), List.length_take, Nat.min_eq_left (by omega)]
 have hr2l : R2.length = (s.m.length - (placeC s.m id + 1)) * 27 := by rw [← hR2, rows_len27 fun y hy => hok.fl y (List.mem_of_mem_drop hy), List.length_drop]
 have hr1o : ∀ u ∈ R1, u.oneCell' = true := by rw [← hR1]; exact rows_one
 have hr2o : ∀ u ∈ R2, u.oneCell' = true := by rw [← hR2]; exact rows_one
 have hsl1 : ∀ W, Fr [g] w W → Sl W (some ⟨b2, o2, none⟩) R1 := fun W h => by
  have := (hl.out W h).sl.take (placeC s.m id * 27)
  rw [(rows_takeC hok.fl _ (by omega)).1, hR1] at this
  exact this
 have hsl2 : ∀ W, Fr [g] w W → Sl W (if cc = placeC s.m id + 1 then some ⟨b2, o2, none⟩ else some ⟨b2, o2 + (placeC s.m id + 1) * 27, none⟩) R2 := fun W h => by
  have h1 := (hl.out W h).sl.drop ((placeC s.m id + 1) * 27)
  rw [(rows_takeC hok.fl _ (by omega)).2, hR2] at h1
  refine h1.cutn fun e => ?_
  have := (hl.out W h).le
  exact List.eq_nil_of_length_eq_zero (by rw [hr2l]; omega)
 have hcc := (hl.out w (Fr.refl _ _)).le
 have hcm := (hl.out w (Fr.refl _ _)).cm
 unfold maxLen at hcm
 have hdcf : ∀ x ∈ dropC s.m id, x.f.length = 8 := fun x hx => hok.fl x (List.mem_filter.1 hx).1
 replace hR12 := Lib.hid hR12
 replace hdcl := Lib.hid hdcl
 replace hr1l := Lib.hid hr1l
 replace hr2l := Lib.hid hr2l
 replace hr1o := Lib.hid hr1o
 replace hr2o := Lib.hid hr2o
 replace hsl1 := Lib.hid hsl1
 replace hsl2 := Lib.hid hsl2
 replace hdcf := Lib.hid hdcf
 clear f3 hR1 hR2
 generalize placeC s.m id = pl at *
 have hi1 : (0 : Int) ≤ (pl : Int) := Int.natCast_nonneg _
 have hi2 : (pl : Int) < (s.m.length : Int) := by omega
 have hi3 : (pl : Int) ≤ (cc : Int) := by omega
 have hi4 : (pl : Int) + 1 ≤ (s.m.length : Int) := by omega
 have hi8 : (0 : Int) ≤ (pl : Int) + 1 := by omega
 have hi5 : pl ≤ cc := by omega
 have hi6 : pl + 1 ≤ s.m.length := by omega
 have hi7 : IntKind.i64.wrap ((pl : Int) + 1) = (pl : Int) + 1 := IntWalk.i64_in _ (by omega)
 have hdl := hok.dlen
 have hfl := Lib.hid hok.fl
 obtain ⟨nx, M, D⟩ := s
 dsimp only at *
 dsimp only [LD] at hd
 have e0 : ∀ M D ca cc da dc, rsRow ⟨nx, M, D⟩ ca cc da dc = [.int .i64 nx, .slice ca M.length cc, .slice da D.length dc] := fun _ _ _ _ _ _ => rfl
 obtain ⟨DR, hDR⟩ : ∃ R : ShS × Int, (if ShS.seqBad ⟨nx, M, D⟩ q = true then (ShS.mk nx M D, 1) else (⟨nx, dropC M id, lastD (D ++ [⟨id, cv, q⟩])⟩, 0)) = R := ⟨_, rfl⟩
 rw [hDR]
 obtain ⟨BB, hBB⟩ : ∃ b, ShS.seqBad ⟨nx, M, D⟩ q = b := ⟨_, rfl⟩
 rw [hBB] at hDR
 replace hDR := Lib.hid hDR
 replace hBB := Lib.hid hBB
 have hd0 := Lib.hid hd
 replace hd := Lib.hid hd
 replace e0 := Lib.hid e0
 have hnw := dRow_len D
 have hn1 := Lib.hid (dRow_one D)
 have hn2 : (0 : Int) ≤ (D.length : Int) := Int.natCast_nonneg _
 go_enter Tryz.func85, Tryz.ntmps85
 go_upto_region 4 with (first | ((with_reducible refine wpList_loadrow_st (t := 51) (n := 3) (j := 1) (vs := [.int .i64 nx, .slice (some ⟨b2, o2, none⟩) M.length cc, .slice da D.length dc]) 0 hS rfl rfl rfl rfl (by kernel_rfl) (by kernel_rfl) rfl rfl ?_)) | (go_at_call 17; (with_reducible refine (cG.out _ (hl.out _ hS.fr) (hd.out _ hS.fr)).mono ?_); rintro _ w3 ⟨rfl, hk9⟩; replace hS := hS.keepB hk9; clear hk9) | ((with_reducible refine wpList_storerow_st (t := 58) (n := 27) (vs := Value.int .i64 ci :: .int .i64 cv :: CT) 0 hS rfl rfl rfl rfl (by kernel_rfl) rfl hcl hco (by kernel_rfl) ?_); clear hS; intro w1 hS; try simp only [List.set_cons_zero, List.set_cons_succ, List.setIfInBounds_toArray, List.take_succ_cons, List.take_zero, List.drop_succ_cons, List.drop_zero, List.nil_append, List.cons_append, List.append_nil, List.drop_nil, List.take_nil, List.length_cons, List.length_nil, Nat.zero_add, Nat.add_zero, Nat.reduceAdd] at hS) | (with_reducible refine al hS rfl rfl ?_; clear hS; intro g1 w1 hS))
 go_cut [52] from 22 to 52 (fun v52 wc => v52 = .bool BB ∧ St w [g] [Ch.blk g1 58 (Value.int .i64 ci :: .int .i64 cv :: CT).toArray, Ch.blk g 53 #[q0, .int .i64 nx, .slice (some ⟨b2, o2, none⟩) M.length cc, .slice da D.length dc, v]] wc)
 case first =>
  have kg := hS.kblk 1 rfl
  by_cases h1 : q < 0
  · have d1 : decide (q < 0) = true := decide_eq_true h1
    have hb : BB = true := by rw [← hBB.out]; simp [ShS.seqBad, h1]
    subst hb
    clear h1
    refine mixs_begin (by kernel_rfl) hS ?_
    clear hS
    intro w2 hS
    refine tk 0 ?_
    refine tk 1 ?_
    refine tk 2 ?_
    refine sk 3 ?_
    refine sk 4 ?_
    refine tk 5 ?_
    refine tk 6 ?_
    refine sk 7 ?_
    refine sk 8 ?_
    refine sk 9 ?_
    refine sk 10 ?_
    refine sk 11 ?_
    refine sk 12 ?_
    refine sk 13 ?_
    refine sk 14 ?_
    refine sk 15 ?_
    refine sk 16 ?_
    refine sk 17 ?_
    refine sk 18 ?_
    refine sk 19 ?_
    refine sk 20 ?_
    refine sk 21 ?_
    refine sk 22 ?_
    refine sk 23 ?_
    refine sk 24 ?_
    refine sk 25 ?_
    refine sk 26 ?_
    refine sk 27 ?_
    refine sk 28 ?_
    refine sk 29 ?_
    refine tk 30 ?_
    refine wpAnyH_done (by kernel_rfl) ?_ _
    clear kg
    go_wp2_with fail
    go_meet
    exact ⟨rfl, hS⟩
  have d1 : decide (q < 0) = false := decide_eq_false h1
  by_cases h2 : 1099511627776 < q
  · have d2 : decide (1099511627776 < q) = true := decide_eq_true h2
    have hb : BB = true := by rw [← hBB.out]; simp [ShS.seqBad, h2]
    subst hb
    clear h2 h1
    refine mixs_begin (by kernel_rfl) hS ?_
    clear hS
    intro w2 hS
    refine tk 0 ?_
    refine tk 1 ?_
    refine tk 2 ?_
    refine tk 3 ?_
    refine tk 4 ?_
    refine tk 5 ?_
    refine tk 6 ?_
    refine sk 7 ?_
    refine sk 8 ?_
    refine sk 9 ?_
    refine sk 10 ?_
    refine sk 11 ?_
    refine sk 12 ?_
    refine sk 13 ?_
    refine sk 14 ?_
    refine sk 15 ?_
    refine sk 16 ?_
    refine sk 17 ?_
    refine sk 18 ?_
    refine sk 19 ?_
    refine sk 20 ?_
    refine sk 21 ?_
    refine sk 22 ?_
    refine sk 23 ?_
    refine sk 24 ?_
    refine sk 25 ?_
    refine sk 26 ?_
    refine sk 27 ?_
    refine sk 28 ?_
    refine sk 29 ?_
    refine tk 30 ?_
    refine wpAnyH_done (by kernel_rfl) ?_ _
    clear kg
    go_wp2_with fail
    go_meet
    exact ⟨rfl, hS⟩
  have d2 : decide (1099511627776 < q) = false := decide_eq_false h2
  rcases List.eq_nil_or_concat D with hD | ⟨A, x, hD⟩
  · have hb : BB = false := by rw [← hBB.out, hD, seqBad_nil, d1, d2]; rfl
    subst hb
    have hn0 : D.length = 0 := by rw [hD]; rfl
    have d3 : decide ((0 : Int) < (D.length : Int)) = false := decide_eq_false (by omega)
    have d4 : decide (0 < D.length) = false := decide_eq_false (by omega)
    clear h1 h2 hD hn0
    refine mixs_begin (by kernel_rfl) hS ?_
    clear hS
    intro w2 hS
    refine tk 0 ?_
    refine tk 1 ?_
    refine tk 2 ?_
    refine tk 3 ?_
    refine tk 4 ?_
    refine tk 5 ?_
    refine tk 6 ?_
    refine tk 7 ?_
    refine tk 8 ?_
    refine tk 9 ?_
    refine tk 10 ?_
    refine tk 11 ?_
    refine tk 12 ?_
    refine tk 13 ?_
    refine sk 14 ?_
    refine sk 15 ?_
    refine sk 16 ?_
    refine sk 17 ?_
    refine sk 18 ?_
    refine sk 19 ?_
    refine sk 20 ?_
    refine sk 21 ?_
    refine sk 22 ?_
    refine sk 23 ?_
    refine sk 24 ?_
    refine sk 25 ?_
    refine sk 26 ?_
    refine sk 27 ?_
    refine sk 28 ?_
    refine tk 29 ?_
    refine tk 30 ?_
    refine wpAnyH_done (by kernel_rfl) ?_ _
    clear kg
    go_wp2_with fail
    go_meet
    exact ⟨rfl, hS⟩
  · rw [List.concat_eq_append] at hD
    have hn0 : D.length = A.length + 1 := by rw [hD]; simp
    have d3 : decide ((0 : Int) < (D.length : Int)) = true := decide_eq_true (by omega)
    have d4 : decide (0 < D.length) = true := decide_eq_true (by omega)
    have hsub : IntKind.i64.wrap ((D.length : Int) - 1) = (A.length : Int) := by rw [IntWalk.i64_in _ (by omega)]; omega
    have hkn : A.length < D.length := by omega
    have hkn2 : (A.length : Int) < (D.length : Int) := by omega
    obtain ⟨b1, o1, rfl⟩ := (hd.out w (Fr.refl _ _)).base (k := 3) (by decide) (fun y _ => ddRow_len y) (by omega)
    have hlc : ∀ (W : World), Fr [g] w W → W.cell? ⟨b1, o1 + A.length * 3 + 2, none⟩ = some (.int .i64 x.seq) := fun W h => by
     have q1 := dRow_at D A.length (by omega)
     have q2 : D[A.length]'(by omega) = x := by simp [hD]
     rw [q2] at q1
     exact sl_range (hd.out W h).sl q1 2 _ rfl
    have ky := hS.kcellfr hlc
    clear hlc
    by_cases h3 : q < x.seq
    · have hb : BB = true := by rw [← hBB.out, hD, seqBad_snoc]; simp [h3]
      subst hb
      have d5 : decide (q < x.seq) = true := decide_eq_true h3
      clear h1 h2 h3 hD hn0
      generalize x.seq = xq at *
      refine mixs_begin (by kernel_rfl) hS ?_
      clear hS
      intro w2 hS
      refine tk 0 ?_
      refine tk 1 ?_
      refine tk 2 ?_
      refine tk 3 ?_
      refine tk 4 ?_
      refine tk 5 ?_
      refine tk 6 ?_
      refine tk 7 ?_
      refine tk 8 ?_
      refine tk 9 ?_
      refine tk 10 ?_
      refine tk 11 ?_
      refine tk 12 ?_
      refine tk 13 ?_
      refine tk 14 ?_
      refine tk 15 ?_
      refine tk 16 ?_
      refine tk 17 ?_
      refine tk 18 ?_
      refine tk 19 ?_
      refine tk 20 ?_
      refine tk 21 ?_
      refine tk 22 ?_
      refine tk 23 ?_
      refine tk 24 ?_
      refine tk 25 ?_
      refine tk 26 ?_
      refine tk 27 ?_
      refine tk 28 ?_
      refine tk 29 ?_
      refine tk 30 ?_
      clear ky
      refine wpAnyH_done (by kernel_rfl) ?_ _
      clear kg
      go_wp2_with fail
      go_meet
      exact ⟨rfl, hS⟩
    · have hb : BB = false := by rw [← hBB.out, hD, seqBad_snoc, d1, d2]; simp [h3]
      subst hb
      have d5 : decide (q < x.seq) = false := decide_eq_false h3
      clear h1 h2 h3 hD hn0
      generalize x.seq = xq at *
      refine mixs_begin (by kernel_rfl) hS ?_
      clear hS
      intro w2 hS
      refine tk 0 ?_
      refine tk 1 ?_
      refine tk 2 ?_
      refine tk 3 ?_
      refine tk 4 ?_
      refine tk 5 ?_
      refine tk 6 ?_
      refine tk 7 ?_
      refine tk 8 ?_
      refine tk 9 ?_
      refine tk 10 ?_
      refine tk 11 ?_
      refine tk 12 ?_
      refine tk 13 ?_
      refine tk 14 ?_
      refine tk 15 ?_
      refine tk 16 ?_
      refine tk 17 ?_
      refine tk 18 ?_
      refine tk 19 ?_
      refine tk 20 ?_
      refine tk 21 ?_
      refine tk 22 ?_
      refine tk 23 ?_
      refine tk 24 ?_
      refine tk 25 ?_
      refine tk 26 ?_
      refine tk 27 ?_
      refine tk 28 ?_
      refine tk 29 ?_
      refine tk 30 ?_
      refine wpAnyH_done (by kernel_rfl) ?_ _
      clear kg ky
      go_wp2_with fail
      go_meet
      exact ⟨rfl, hS⟩
 case rest =>
  clear hS
  obtain ⟨rfl, hS⟩ := hcut
  clear hBB
  cases BB
  case true =>
   have hb := hDR.out
   rw [if_pos rfl] at hb
   replace hb := Lib.hid hb
   go_wp2_with fail
   go_ret
   exact ⟨by rw [← hb.out]; rfl, by rw [← hb.out]; exact hsame.out _ _ hS.drop⟩
  have hb := hDR.out
  rw [if_neg (by simp)] at hb
  replace hb := Lib.hid hb.symm
  clear hDR
  go_wp2_with (first | ((with_reducible refine wpList_loadrow_st (t := 51) (n := 3) (j := 1) (vs := [.int .i64 nx, .slice (some ⟨b2, o2, none⟩) M.length cc, .slice da D.length dc]) 1 hS rfl rfl rfl rfl (by kernel_rfl) (by kernel_rfl) rfl rfl ?_)) | (go_at_call 50; (with_reducible refine (cP.out _ (hl.out _ hS.fr)).mono ?_); rintro _ w3 ⟨rfl, hk9⟩; replace hS := hS.keepB hk9; clear hk9))
  revert hS
  apply wp_cut5
  · intro hS
    refine mixs_beginC 0 (by kernel_rfl) hS rfl ?_
    clear hS
    intro w2 hS hC
    have kC := hC.kblk 0 rfl
    refine tk 0 ?_
    refine tk 2 ?_
    refine tk 3 ?_
    refine tk 4 ?_
    refine tk 6 ?_
    refine tk 9 ?_
    refine tk 10 ?_
    refine tk 11 ?_
    refine tk 13 ?_
    refine tk 14 ?_
    refine mixs_three 1 5 12 (by kernel_rfl) rfl rfl rfl (fun K hK => ?_) (fun K hK => ?_) (fun K hK => ?_)
    ·
     (refine op_build0w_st (by kernel_rfl) hS rfl Tryz.underlying27 ec ?_; clear hS; intro g3 w3 hS)
     try clear hC
     refine cl hK (fun hC => ?_)
     clear hK K
     refine mixs_two 5 12 (by kernel_rfl) rfl rfl (fun K hK => ?_) (fun K hK => ?_)
     ·
      refine op_load_st (by kernel_rfl) 2 hS rfl rfl rfl (by simp [scalarB, go_sem]) rfl ?_
      try clear hC
      refine cl hK (fun hC => ?_)
      clear hK K
      refine tk 7 ?_
      refine mixs_two 8 12 (by kernel_rfl) rfl rfl (fun K hK => ?_) (fun K hK => ?_)
      ·
       (refine op_app_st (by kernel_rfl) 0 (m := pl) (news := R1) hS rfl rfl Tryz.underlying27 ec rfl (Src.slice Tryz.underlying27 (hsl1.out _ hS.fr) hr1l.out) rfl hr1o.out (by omega) (by unfold maxLen; omega) ?_; intro v6 w6 hS1; clear hS; simp only [List.set_cons_zero, Nat.zero_add, List.nil_append] at hS1; obtain ⟨a5, c5, rfl, -⟩ := hS1.row 0 rfl; have hS := hS1; clear hS1)
       try clear hC
       refine cl hK (fun hC => ?_)
       clear hK K
       refine mixs_one 12 (by kernel_rfl) rfl (fun K hK => ?_)
       refine op_load_st (by kernel_rfl) 2 hS rfl rfl rfl (by simp [scalarB, go_sem]) rfl ?_
       try clear hC
       refine cl hK (fun hC => ?_)
       clear hK K
       refine tk 15 ?_
       refine mixs_one 16 (by kernel_rfl) rfl (fun K hK => ?_)
       (refine op_app_st (by kernel_rfl) 0 (m := M.length - (pl + 1)) (news := R2) hS rfl rfl Tryz.underlying27 ec rfl (Src.slice Tryz.underlying27 (hsl2.out _ hS.fr) hr2l.out) rfl hr2o.out (by omega) (by unfold maxLen; omega) ?_; intro v6 w6 hS1; clear hS; simp only [List.set_cons_zero] at hS1; obtain ⟨a6, c6, rfl, -⟩ := hS1.row 0 rfl; have hS := hS1; clear hS1)
       try clear hC
       refine cl hK (fun hC => ?_)
       clear hK K
       refine tk 17 ?_
       refine tk 18 ?_
       refine mixs_one 19 (by kernel_rfl) rfl (fun K hK => ?_)
       refine op_store_st (by kernel_rfl) 2 hS rfl rfl rfl (by kernel_rfl) rfl rfl ?_
       clear hS; intro w1 hS; try simp only [List.set_cons_zero, List.set_cons_succ, List.setIfInBounds_toArray, List.take_succ_cons, List.take_zero, List.drop_succ_cons, List.drop_zero, List.nil_append, List.cons_append, List.append_nil, List.drop_nil, List.take_nil, List.length_cons, List.length_nil, Nat.zero_add, Nat.add_zero, Nat.reduceAdd] at hS
       try clear hC
       refine cl hK (fun hC => ?_)
       clear hK K
       refine wpAnyH_done (by kernel_rfl) ?_ _
       exact ⟨g3, a5, c5, a6, c6, rfl, hS⟩
      ·
       refine op_load_st (by kernel_rfl) 2 hS rfl rfl rfl (by simp [scalarB, go_sem]) rfl ?_
       try clear hC
       refine cl hK (fun hC => ?_)
       clear hK K
       refine tk 15 ?_
       refine mixs_one 8 (by kernel_rfl) rfl (fun K hK => ?_)
       (refine op_app_st (by kernel_rfl) 0 (m := pl) (news := R1) hS rfl rfl Tryz.underlying27 ec rfl (Src.slice Tryz.underlying27 (hsl1.out _ hS.fr) hr1l.out) rfl hr1o.out (by omega) (by unfold maxLen; omega) ?_; intro v6 w6 hS1; clear hS; simp only [List.set_cons_zero, Nat.zero_add, List.nil_append] at hS1; obtain ⟨a5, c5, rfl, -⟩ := hS1.row 0 rfl; have hS := hS1; clear hS1)
       try clear hC
       refine cl hK (fun hC => ?_)
       clear hK K
       refine mixs_one 16 (by kernel_rfl) rfl (fun K hK => ?_)
       (refine op_app_st (by kernel_rfl) 0 (m := M.length - (pl + 1)) (news := R2) hS rfl rfl Tryz.underlying27 ec rfl (Src.slice Tryz.underlying27 (hsl2.out _ hS.fr) hr2l.out) rfl hr2o.out (by omega) (by unfold maxLen; omega) ?_; intro v6 w6 hS1; clear hS; simp only [List.set_cons_zero] at hS1; obtain ⟨a6, c6, rfl, -⟩ := hS1.row 0 rfl; have hS := hS1; clear hS1)
       try clear hC
       refine cl hK (fun hC => ?_)
       clear hK K
       refine tk 17 ?_
       refine tk 18 ?_
       refine mixs_one 19 (by kernel_rfl) rfl (fun K hK => ?_)
       refine op_store_st (by kernel_rfl) 2 hS rfl rfl rfl (by kernel_rfl) rfl rfl ?_
       clear hS; intro w1 hS; try simp only [List.set_cons_zero, List.set_cons_succ, List.setIfInBounds_toArray, List.take_succ_cons, List.take_zero, List.drop_succ_cons, List.drop_zero, List.nil_append, List.cons_append, List.append_nil, List.drop_nil, List.take_nil, List.length_cons, List.length_nil, Nat.zero_add, Nat.add_zero, Nat.reduceAdd] at hS
       try clear hC
       refine cl hK (fun hC => ?_)
       clear hK K
       refine wpAnyH_done (by kernel_rfl) ?_ _
       exact ⟨g3, a5, c5, a6, c6, rfl, hS⟩
     ·
      refine op_load_st (by kernel_rfl) 2 hS rfl rfl rfl (by simp [scalarB, go_sem]) rfl ?_
      try clear hC
      refine cl hK (fun hC => ?_)
      clear hK K
      refine tk 15 ?_
      refine mixs_one 5 (by kernel_rfl) rfl (fun K hK => ?_)
      refine op_load_st (by kernel_rfl) 2 hS rfl rfl rfl (by simp [scalarB, go_sem]) rfl ?_
      try clear hC
      refine cl hK (fun hC => ?_)
      clear hK K
      refine tk 7 ?_
      refine mixs_one 8 (by kernel_rfl) rfl (fun K hK => ?_)
      (refine op_app_st (by kernel_rfl) 0 (m := pl) (news := R1) hS rfl rfl Tryz.underlying27 ec rfl (Src.slice Tryz.underlying27 (hsl1.out _ hS.fr) hr1l.out) rfl hr1o.out (by omega) (by unfold maxLen; omega) ?_; intro v6 w6 hS1; clear hS; simp only [List.set_cons_zero, Nat.zero_add, List.nil_append] at hS1; obtain ⟨a5, c5, rfl, -⟩ := hS1.row 0 rfl; have hS := hS1; clear hS1)
      try clear hC
      refine cl hK (fun hC => ?_)
      clear hK K
      refine mixs_one 16 (by kernel_rfl) rfl (fun K hK => ?_)
      (refine op_app_st (by kernel_rfl) 0 (m := M.length - (pl + 1)) (news := R2) hS rfl rfl Tryz.underlying27 ec rfl (Src.slice Tryz.underlying27 (hsl2.out _ hS.fr) hr2l.out) rfl hr2o.out (by omega) (by unfold maxLen; omega) ?_; intro v6 w6 hS1; clear hS; simp only [List.set_cons_zero] at hS1; obtain ⟨a6, c6, rfl, -⟩ := hS1.row 0 rfl; have hS := hS1; clear hS1)
      try clear hC
      refine cl hK (fun hC => ?_)
      clear hK K
      refine tk 17 ?_
      refine tk 18 ?_
      refine mixs_one 19 (by kernel_rfl) rfl (fun K hK => ?_)
      refine op_store_st (by kernel_rfl) 2 hS rfl rfl rfl (by kernel_rfl) rfl rfl ?_
      clear hS; intro w1 hS; try simp only [List.set_cons_zero, List.set_cons_succ, List.setIfInBounds_toArray, List.take_succ_cons, List.take_zero, List.drop_succ_cons, List.drop_zero, List.nil_append, List.cons_append, List.append_nil, List.drop_nil, List.take_nil, List.length_cons, List.length_nil, Nat.zero_add, Nat.add_zero, Nat.reduceAdd] at hS
      try clear hC
      refine cl hK (fun hC => ?_)
      clear hK K
      refine wpAnyH_done (by kernel_rfl) ?_ _
      exact ⟨g3, a5, c5, a6, c6, rfl, hS⟩
    ·
     refine op_load_st (by kernel_rfl) 1 hS rfl rfl rfl (by simp [scalarB, go_sem]) rfl ?_
     try clear hC
     refine cl hK (fun hC => ?_)
     clear hK K
     refine tk 7 ?_
     refine mixs_two 1 12 (by kernel_rfl) rfl rfl (fun K hK => ?_) (fun K hK => ?_)
     ·
      (refine op_build0w_st (by kernel_rfl) hS rfl Tryz.underlying27 ec ?_; clear hS; intro g3 w3 hS)
      try clear hC
      refine cl hK (fun hC => ?_)
      clear hK K
      refine mixs_two 8 12 (by kernel_rfl) rfl rfl (fun K hK => ?_) (fun K hK => ?_)
      ·
       (refine op_app_st (by kernel_rfl) 0 (m := pl) (news := R1) hS rfl rfl Tryz.underlying27 ec rfl (Src.slice Tryz.underlying27 (hsl1.out _ hS.fr) hr1l.out) rfl hr1o.out (by omega) (by unfold maxLen; omega) ?_; intro v6 w6 hS1; clear hS; simp only [List.set_cons_zero, Nat.zero_add, List.nil_append] at hS1; obtain ⟨a5, c5, rfl, -⟩ := hS1.row 0 rfl; have hS := hS1; clear hS1)
       try clear hC
       refine cl hK (fun hC => ?_)
       clear hK K
       refine mixs_one 12 (by kernel_rfl) rfl (fun K hK => ?_)
       refine op_load_st (by kernel_rfl) 2 hS rfl rfl rfl (by simp [scalarB, go_sem]) rfl ?_
       try clear hC
       refine cl hK (fun hC => ?_)
       clear hK K
       refine tk 15 ?_
       refine mixs_one 16 (by kernel_rfl) rfl (fun K hK => ?_)
       (refine op_app_st (by kernel_rfl) 0 (m := M.length - (pl + 1)) (news := R2) hS rfl rfl Tryz.underlying27 ec rfl (Src.slice Tryz.underlying27 (hsl2.out _ hS.fr) hr2l.out) rfl hr2o.out (by omega) (by unfold maxLen; omega) ?_; intro v6 w6 hS1; clear hS; simp only [List.set_cons_zero] at hS1; obtain ⟨a6, c6, rfl, -⟩ := hS1.row 0 rfl; have hS := hS1; clear hS1)
       try clear hC
       refine cl hK (fun hC => ?_)
       clear hK K
       refine tk 17 ?_
       refine tk 18 ?_
       refine mixs_one 19 (by kernel_rfl) rfl (fun K hK => ?_)
       refine op_store_st (by kernel_rfl) 2 hS rfl rfl rfl (by kernel_rfl) rfl rfl ?_
       clear hS; intro w1 hS; try simp only [List.set_cons_zero, List.set_cons_succ, List.setIfInBounds_toArray, List.take_succ_cons, List.take_zero, List.drop_succ_cons, List.drop_zero, List.nil_append, List.cons_append, List.append_nil, List.drop_nil, List.take_nil, List.length_cons, List.length_nil, Nat.zero_add, Nat.add_zero, Nat.reduceAdd] at hS
       try clear hC
       refine cl hK (fun hC => ?_)
       clear hK K
       refine wpAnyH_done (by kernel_rfl) ?_ _
       exact ⟨g3, a5, c5, a6, c6, rfl, hS⟩
      ·
       refine op_load_st (by kernel_rfl) 2 hS rfl rfl rfl (by simp [scalarB, go_sem]) rfl ?_
       try clear hC
       refine cl hK (fun hC => ?_)
       clear hK K
       refine tk 15 ?_
       refine mixs_one 8 (by kernel_rfl) rfl (fun K hK => ?_)
       (refine op_app_st (by kernel_rfl) 0 (m := pl) (news := R1) hS rfl rfl Tryz.underlying27 ec rfl (Src.slice Tryz.underlying27 (hsl1.out _ hS.fr) hr1l.out) rfl hr1o.out (by omega) (by unfold maxLen; omega) ?_; intro v6 w6 hS1; clear hS; simp only [List.set_cons_zero, Nat.zero_add, List.nil_append] at hS1; obtain ⟨a5, c5, rfl, -⟩ := hS1.row 0 rfl; have hS := hS1; clear hS1)
       try clear hC
       refine cl hK (fun hC => ?_)
       clear hK K
       refine mixs_one 16 (by kernel_rfl) rfl (fun K hK => ?_)
       (refine op_app_st (by kernel_rfl) 0 (m := M.length - (pl + 1)) (news := R2) hS rfl rfl Tryz.underlying27 ec rfl (Src.slice Tryz.underlying27 (hsl2.out _ hS.fr) hr2l.out) rfl hr2o.out (by omega) (by unfold maxLen; omega) ?_; intro v6 w6 hS1; clear hS; simp only [List.set_cons_zero] at hS1; obtain ⟨a6, c6, rfl, -⟩ := hS1.row 0 rfl; have hS := hS1; clear hS1)
       try clear hC
       refine cl hK (fun hC => ?_)
       clear hK K
       refine tk 17 ?_
       refine tk 18 ?_
       refine mixs_one 19 (by kernel_rfl) rfl (fun K hK => ?_)
       refine op_store_st (by kernel_rfl) 2 hS rfl rfl rfl (by kernel_rfl) rfl rfl ?_
       clear hS; intro w1 hS; try simp only [List.set_cons_zero, List.set_cons_succ, List.setIfInBounds_toArray, List.take_succ_cons, List.take_zero, List.drop_succ_cons, List.drop_zero, List.nil_append, List.cons_append, List.append_nil, List.drop_nil, List.take_nil, List.length_cons, List.length_nil, Nat.zero_add, Nat.add_zero, Nat.reduceAdd] at hS
       try clear hC
       refine cl hK (fun hC => ?_)
       clear hK K
       refine wpAnyH_done (by kernel_rfl) ?_ _
       exact ⟨g3, a5, c5, a6, c6, rfl, hS⟩
     ·
      refine op_load_st (by kernel_rfl) 1 hS rfl rfl rfl (by simp [scalarB, go_sem]) rfl ?_
      try clear hC
      refine cl hK (fun hC => ?_)
      clear hK K
      refine tk 15 ?_
      refine mixs_one 1 (by kernel_rfl) rfl (fun K hK => ?_)
      (refine op_build0w_st (by kernel_rfl) hS rfl Tryz.underlying27 ec ?_; clear hS; intro g3 w3 hS)
      try clear hC
      refine cl hK (fun hC => ?_)
      clear hK K
      refine mixs_one 8 (by kernel_rfl) rfl (fun K hK => ?_)
      (refine op_app_st (by kernel_rfl) 0 (m := pl) (news := R1) hS rfl rfl Tryz.underlying27 ec rfl (Src.slice Tryz.underlying27 (hsl1.out _ hS.fr) hr1l.out) rfl hr1o.out (by omega) (by unfold maxLen; omega) ?_; intro v6 w6 hS1; clear hS; simp only [List.set_cons_zero, Nat.zero_add, List.nil_append] at hS1; obtain ⟨a5, c5, rfl, -⟩ := hS1.row 0 rfl; have hS := hS1; clear hS1)
      try clear hC
      refine cl hK (fun hC => ?_)
      clear hK K
      refine mixs_one 16 (by kernel_rfl) rfl (fun K hK => ?_)
      (refine op_app_st (by kernel_rfl) 0 (m := M.length - (pl + 1)) (news := R2) hS rfl rfl Tryz.underlying27 ec rfl (Src.slice Tryz.underlying27 (hsl2.out _ hS.fr) hr2l.out) rfl hr2o.out (by omega) (by unfold maxLen; omega) ?_; intro v6 w6 hS1; clear hS; simp only [List.set_cons_zero] at hS1; obtain ⟨a6, c6, rfl, -⟩ := hS1.row 0 rfl; have hS := hS1; clear hS1)
      try clear hC
      refine cl hK (fun hC => ?_)
      clear hK K
      refine tk 17 ?_
      refine tk 18 ?_
      refine mixs_one 19 (by kernel_rfl) rfl (fun K hK => ?_)
      refine op_store_st (by kernel_rfl) 2 hS rfl rfl rfl (by kernel_rfl) rfl rfl ?_
      clear hS; intro w1 hS; try simp only [List.set_cons_zero, List.set_cons_succ, List.setIfInBounds_toArray, List.take_succ_cons, List.take_zero, List.drop_succ_cons, List.drop_zero, List.nil_append, List.cons_append, List.append_nil, List.drop_nil, List.take_nil, List.length_cons, List.length_nil, Nat.zero_add, Nat.add_zero, Nat.reduceAdd] at hS
      try clear hC
      refine cl hK (fun hC => ?_)
      clear hK K
      refine wpAnyH_done (by kernel_rfl) ?_ _
      exact ⟨g3, a5, c5, a6, c6, rfl, hS⟩
    ·
     refine op_load_st (by kernel_rfl) 1 hS rfl rfl rfl (by simp [scalarB, go_sem]) rfl ?_
     try clear hC
     refine cl hK (fun hC => ?_)
     clear hK K
     refine tk 15 ?_
     refine mixs_two 1 5 (by kernel_rfl) rfl rfl (fun K hK => ?_) (fun K hK => ?_)
     ·
      (refine op_build0w_st (by kernel_rfl) hS rfl Tryz.underlying27 ec ?_; clear hS; intro g3 w3 hS)
      try clear hC
      refine cl hK (fun hC => ?_)
      clear hK K
      refine mixs_one 5 (by kernel_rfl) rfl (fun K hK => ?_)
      refine op_load_st (by kernel_rfl) 2 hS rfl rfl rfl (by simp [scalarB, go_sem]) rfl ?_
      try clear hC
      refine cl hK (fun hC => ?_)
      clear hK K
      refine tk 7 ?_
      refine mixs_one 8 (by kernel_rfl) rfl (fun K hK => ?_)
      (refine op_app_st (by kernel_rfl) 0 (m := pl) (news := R1) hS rfl rfl Tryz.underlying27 ec rfl (Src.slice Tryz.underlying27 (hsl1.out _ hS.fr) hr1l.out) rfl hr1o.out (by omega) (by unfold maxLen; omega) ?_; intro v6 w6 hS1; clear hS; simp only [List.set_cons_zero, Nat.zero_add, List.nil_append] at hS1; obtain ⟨a5, c5, rfl, -⟩ := hS1.row 0 rfl; have hS := hS1; clear hS1)
      try clear hC
      refine cl hK (fun hC => ?_)
      clear hK K
      refine mixs_one 16 (by kernel_rfl) rfl (fun K hK => ?_)
      (refine op_app_st (by kernel_rfl) 0 (m := M.length - (pl + 1)) (news := R2) hS rfl rfl Tryz.underlying27 ec rfl (Src.slice Tryz.underlying27 (hsl2.out _ hS.fr) hr2l.out) rfl hr2o.out (by omega) (by unfold maxLen; omega) ?_; intro v6 w6 hS1; clear hS; simp only [List.set_cons_zero] at hS1; obtain ⟨a6, c6, rfl, -⟩ := hS1.row 0 rfl; have hS := hS1; clear hS1)
      try clear hC
      refine cl hK (fun hC => ?_)
      clear hK K
      refine tk 17 ?_
      refine tk 18 ?_
      refine mixs_one 19 (by kernel_rfl) rfl (fun K hK => ?_)
      refine op_store_st (by kernel_rfl) 2 hS rfl rfl rfl (by kernel_rfl) rfl rfl ?_
      clear hS; intro w1 hS; try simp only [List.set_cons_zero, List.set_cons_succ, List.setIfInBounds_toArray, List.take_succ_cons, List.take_zero, List.drop_succ_cons, List.drop_zero, List.nil_append, List.cons_append, List.append_nil, List.drop_nil, List.take_nil, List.length_cons, List.length_nil, Nat.zero_add, Nat.add_zero, Nat.reduceAdd] at hS
      try clear hC
      refine cl hK (fun hC => ?_)
      clear hK K
      refine wpAnyH_done (by kernel_rfl) ?_ _
      exact ⟨g3, a5, c5, a6, c6, rfl, hS⟩
     ·
      refine op_load_st (by kernel_rfl) 1 hS rfl rfl rfl (by simp [scalarB, go_sem]) rfl ?_
      try clear hC
      refine cl hK (fun hC => ?_)
      clear hK K
      refine tk 7 ?_
      refine mixs_one 1 (by kernel_rfl) rfl (fun K hK => ?_)
      (refine op_build0w_st (by kernel_rfl) hS rfl Tryz.underlying27 ec ?_; clear hS; intro g3 w3 hS)
      try clear hC
      refine cl hK (fun hC => ?_)
      clear hK K
      refine mixs_one 8 (by kernel_rfl) rfl (fun K hK => ?_)
      (refine op_app_st (by kernel_rfl) 0 (m := pl) (news := R1) hS rfl rfl Tryz.underlying27 ec rfl (Src.slice Tryz.underlying27 (hsl1.out _ hS.fr) hr1l.out) rfl hr1o.out (by omega) (by unfold maxLen; omega) ?_; intro v6 w6 hS1; clear hS; simp only [List.set_cons_zero, Nat.zero_add, List.nil_append] at hS1; obtain ⟨a5, c5, rfl, -⟩ := hS1.row 0 rfl; have hS := hS1; clear hS1)
      try clear hC
      refine cl hK (fun hC => ?_)
      clear hK K
      refine mixs_one 16 (by kernel_rfl) rfl (fun K hK => ?_)
      (refine op_app_st (by kernel_rfl) 0 (m := M.length - (pl + 1)) (news := R2) hS rfl rfl Tryz.underlying27 ec rfl (Src.slice Tryz.underlying27 (hsl2.out _ hS.fr) hr2l.out) rfl hr2o.out (by omega) (by unfold maxLen; omega) ?_; intro v6 w6 hS1; clear hS; simp only [List.set_cons_zero] at hS1; obtain ⟨a6, c6, rfl, -⟩ := hS1.row 0 rfl; have hS := hS1; clear hS1)
      try clear hC
      refine cl hK (fun hC => ?_)
      clear hK K
      refine tk 17 ?_
      refine tk 18 ?_
      refine mixs_one 19 (by kernel_rfl) rfl (fun K hK => ?_)
      refine op_store_st (by kernel_rfl) 2 hS rfl rfl rfl (by kernel_rfl) rfl rfl ?_
      clear hS; intro w1 hS; try simp only [List.set_cons_zero, List.set_cons_succ, List.setIfInBounds_toArray, List.take_succ_cons, List.take_zero, List.drop_succ_cons, List.drop_zero, List.nil_append, List.cons_append, List.append_nil, List.drop_nil, List.take_nil, List.length_cons, List.length_nil, Nat.zero_add, Nat.add_zero, Nat.reduceAdd] at hS
      try clear hC
      refine cl hK (fun hC => ?_)
      clear hK K
      refine wpAnyH_done (by kernel_rfl) ?_ _
      exact ⟨g3, a5, c5, a6, c6, rfl, hS⟩
  intro g3 a5 c5 a6 c6 w6 hS
  generalize (if cc = pl + 1 then some (⟨b2, o2, none⟩ : Addr) else some ⟨b2, o2 + (pl + 1) * 27, none⟩) = cx
  rw [← hdcl.out, hR12.out] at hS
  rw [← hdcl.out]
  go_wp2_with fail
  have hS1 := hS.rot3
  clear hS
  have hS := hS1
  clear hS1
  revert hS
  apply wp_cut6
  · intro hS
    refine mixs_beginC2 (by kernel_rfl) hS ?_
    clear hS
    intro w2 hS hC
    have kc := hC.kblk 0 rfl
    have kg := hC.kblk 1 rfl
    --FORE3
    refine tk 1 ?_
    refine tk 2 ?_
    refine tk 3 ?_
    refine tk 4 ?_
    refine tk 6 ?_
    refine tk 7 ?_
    refine tk 8 ?_
    refine tk 9 ?_
    refine tk 10 ?_
    refine mixs_two 0 11 (by kernel_rfl) rfl rfl (fun K hK => ?_) (fun K hK => ?_)
    ·
     (refine op_build0w_st (by kernel_rfl) hS rfl Tryz.underlying28 ed ?_; clear hS; intro g3 w3 hS)
     try clear hC
     refine cl hK (fun hC => ?_)
     clear hK K
     refine mixs_two 5 11 (by kernel_rfl) rfl rfl (fun K hK => ?_) (fun K hK => ?_)
     ·
      (refine op_app_st (by kernel_rfl) 0 (m := D.length) (news := dRow D) hS rfl rfl Tryz.underlying28 ed rfl (Src.slice Tryz.underlying28 (hd.out _ hS.fr).sl hnw) rfl hn1.out (by omega) (by unfold maxLen; omega) ?_; intro v6 w6 hS1; clear hS; simp only [List.set_cons_zero, Nat.zero_add, List.nil_append] at hS1; obtain ⟨a7, c7, rfl, -⟩ := hS1.row 0 rfl; have hS := hS1; clear hS1)
      try clear hC
      refine cl hK (fun hC => ?_)
      clear hK K
      refine mixs_one 11 (by kernel_rfl) rfl (fun K hK => ?_)
      (refine op_build1_st (by kernel_rfl) hS rfl Tryz.underlying28 ed (cs := #[.int .i64 id, .int .i64 cv, .int .i64 q]) rfl rfl (by decide) ?_; clear hS; intro g4 w4 hS)
      try clear hC
      refine cl hK (fun hC => ?_)
      clear hK K
      refine mixs_one 12 (by kernel_rfl) rfl (fun K hK => ?_)
      (refine op_app_st (by kernel_rfl) 1 (m := 1) (news := [.int .i64 id, .int .i64 cv, .int .i64 q]) hS rfl rfl Tryz.underlying28 ed rfl (Src.slice Tryz.underlying28 (hS.blksl2 0 rfl) rfl) rfl (by simp [Value.oneCell']) (by omega) (by unfold maxLen; omega) ?_; intro v6 w6 hS1; clear hS; simp only [List.set_cons_zero, List.set_cons_succ] at hS1; obtain ⟨a8, c8, rfl, -⟩ := hS1.row 1 rfl; have hS := hS1.drop; clear hS1)
      try clear hC
      refine cl hK (fun hC => ?_)
      clear hK K
      refine tk 13 ?_
      refine wpAnyH_done (by kernel_rfl) ?_ _
      exact ⟨g3, a7, c7, g4, a8, c8, rfl, hS⟩
     ·
      (refine op_build1_st (by kernel_rfl) hS rfl Tryz.underlying28 ed (cs := #[.int .i64 id, .int .i64 cv, .int .i64 q]) rfl rfl (by decide) ?_; clear hS; intro g4 w4 hS)
      try clear hC
      refine cl hK (fun hC => ?_)
      clear hK K
      refine mixs_one 5 (by kernel_rfl) rfl (fun K hK => ?_)
      (refine op_app_st (by kernel_rfl) 1 (m := D.length) (news := dRow D) hS rfl rfl Tryz.underlying28 ed rfl (Src.slice Tryz.underlying28 (hd.out _ hS.fr).sl hnw) rfl hn1.out (by omega) (by unfold maxLen; omega) ?_; intro v6 w6 hS1; clear hS; simp only [List.set_cons_zero, List.set_cons_succ, Nat.zero_add, List.nil_append] at hS1; obtain ⟨a7, c7, rfl, -⟩ := hS1.row 1 rfl; have hS := hS1; clear hS1)
      try clear hC
      refine cl hK (fun hC => ?_)
      clear hK K
      refine mixs_one 12 (by kernel_rfl) rfl (fun K hK => ?_)
      (refine op_app_st (by kernel_rfl) 1 (m := 1) (news := [.int .i64 id, .int .i64 cv, .int .i64 q]) hS rfl rfl Tryz.underlying28 ed rfl (Src.slice Tryz.underlying28 (hS.blksl2 0 rfl) rfl) rfl (by simp [Value.oneCell']) (by omega) (by unfold maxLen; omega) ?_; intro v6 w6 hS1; clear hS; simp only [List.set_cons_zero, List.set_cons_succ] at hS1; obtain ⟨a8, c8, rfl, -⟩ := hS1.row 1 rfl; have hS := hS1.drop; clear hS1)
      try clear hC
      refine cl hK (fun hC => ?_)
      clear hK K
      refine tk 13 ?_
      refine wpAnyH_done (by kernel_rfl) ?_ _
      exact ⟨g3, a7, c7, g4, a8, c8, rfl, hS⟩
    ·
     (refine op_build1_st (by kernel_rfl) hS rfl Tryz.underlying28 ed (cs := #[.int .i64 id, .int .i64 cv, .int .i64 q]) rfl rfl (by decide) ?_; clear hS; intro g4 w4 hS)
     try clear hC
     refine cl hK (fun hC => ?_)
     clear hK K
     refine mixs_one 0 (by kernel_rfl) rfl (fun K hK => ?_)
     (refine op_build0w_st (by kernel_rfl) hS rfl Tryz.underlying28 ed ?_; clear hS; intro g3 w3 hS)
     try clear hC
     refine cl hK (fun hC => ?_)
     clear hK K
     refine mixs_one 5 (by kernel_rfl) rfl (fun K hK => ?_)
     (refine op_app_st (by kernel_rfl) 0 (m := D.length) (news := dRow D) hS rfl rfl Tryz.underlying28 ed rfl (Src.slice Tryz.underlying28 (hd.out _ hS.fr).sl hnw) rfl hn1.out (by omega) (by unfold maxLen; omega) ?_; intro v6 w6 hS1; clear hS; simp only [List.set_cons_zero, Nat.zero_add, List.nil_append] at hS1; obtain ⟨a7, c7, rfl, -⟩ := hS1.row 0 rfl; have hS := hS1; clear hS1)
     try clear hC
     refine cl hK (fun hC => ?_)
     clear hK K
     refine mixs_one 12 (by kernel_rfl) rfl (fun K hK => ?_)
     (refine op_app_st (by kernel_rfl) 0 (m := 1) (news := [.int .i64 id, .int .i64 cv, .int .i64 q]) hS rfl rfl Tryz.underlying28 ed rfl (Src.slice Tryz.underlying28 (hS.blksl2 1 rfl) rfl) rfl (by simp [Value.oneCell']) (by omega) (by unfold maxLen; omega) ?_; intro v6 w6 hS1; clear hS; simp only [List.set_cons_zero] at hS1; obtain ⟨a8, c8, rfl, -⟩ := hS1.row 0 rfl; have hS := hS1.drop1; clear hS1)
     try clear hC
     refine cl hK (fun hC => ?_)
     clear hK K
     refine tk 13 ?_
     refine wpAnyH_done (by kernel_rfl) ?_ _
     exact ⟨g3, a7, c7, g4, a8, c8, rfl, hS⟩
  intro g4 a7 c7 g5 a8 c8 w8 hS
  have hdn : dRow (D ++ [Dd.mk id cv q]) = dRow D ++ [.int .i64 id, .int .i64 cv, .int .i64 q] := by simp [dRow, ddRow]
  have hlD : lastD (D ++ [Dd.mk id cv q]) = if 40 < D.length + 1 then (D ++ [Dd.mk id cv q]).drop 1 else D ++ [Dd.mk id cv q] := by
   unfold lastD
   rw [List.length_append]
   rfl
  rw [← hdn] at hS
  replace hdn := Lib.hid hdn
  replace hlD := Lib.hid hlD
  by_cases h40 : 40 < D.length + 1
  · have d7 : decide ((40 : Int) < ((D.length + 1 : Nat) : Int)) = true := decide_eq_true (by omega)
    have d8 : decide ((40 : Int) < (D.length : Int) + 1) = true := decide_eq_true (by omega)
    have d9 : decide (40 < D.length + 1) = true := decide_eq_true h40
    obtain ⟨a9, c9, e9, hs9, -, hc9, hm9⟩ := hS.row 0 rfl
    cases e9
    obtain ⟨b7, o7, ha7⟩ := Sl.cells hs9 (by intro e; have := congrArg List.length e; rw [dRow_len] at this; simp at this)
    subst ha7
    have hne : ¬ c8 = 1 := by omega
    have hi9 : (1 : Int) ≤ (D.length : Int) + 1 := by omega
    clear hs9 h40
    go_wp2_with ((with_reducible refine sto 2 hS rfl rfl rfl rfl rfl rfl ?_; clear hS; intro w1 hS))
    go_ret
    rw [hb.out]
    have hl1 : (lastD (D ++ [Dd.mk id cv q])).length = D.length := by rw [hlD.out, if_pos (of_decide_eq_true d9)]; simp
    refine ⟨rfl, a6, c6, some ⟨b7, o7 + 3, none⟩, c8 - 1, [Ch.row 58 27 (.slice a6 (dropC M id).length c6) (dropC M id).length ((dropC M id).map cdRow).flatten, Ch.row 91 3 (.slice (some ⟨b7, o7, none⟩) (D.length + 1) c8) (D.length + 1) (dRow (D ++ [Dd.mk id cv q]))], ?_, RsK.both hdcf.out fun W hW => ?_⟩
    · rw [e0.out, hl1]
      exact hS.re4d
    · have h1 := (row_lstD hW (by simp)).tailD
      unfold LD
      dsimp only
      rw [hl1, hlD.out, if_pos (of_decide_eq_true d9)]
      exact h1
  · have d7 : decide ((40 : Int) < ((D.length + 1 : Nat) : Int)) = false := decide_eq_false (by omega)
    have d8 : decide ((40 : Int) < (D.length : Int) + 1) = false := decide_eq_false (by omega)
    have d9 : decide (40 < D.length + 1) = false := decide_eq_false h40
    clear h40
    go_wp2_with ((with_reducible refine sto 2 hS rfl rfl rfl rfl rfl rfl ?_; clear hS; intro w1 hS))
    go_ret
    rw [hb.out]
    have hl1 : (lastD (D ++ [Dd.mk id cv q])).length = D.length + 1 := by rw [hlD.out, if_neg (of_decide_eq_false d9)]; simp
    refine ⟨rfl, a6, c6, a8, c8, [Ch.row 58 27 (.slice a6 (dropC M id).length c6) (dropC M id).length ((dropC M id).map cdRow).flatten, Ch.row 91 3 (.slice a8 (D.length + 1) c8) (D.length + 1) (dRow (D ++ [Dd.mk id cv q]))], ?_, RsK.both hdcf.out fun W hW => ?_⟩
    · rw [e0.out, hl1]
      exact hS.re4d
    · have h1 := row_lstD hW (by simp)
      unfold LD
      dsimp only
      rw [hl1, hlD.out, if_neg (of_decide_eq_false d9)]
      exact h1
end Go.Proofs.YtneolmnpebiifaaGreatDoor
end
section
namespace Go.Proofs.YtneolmnpebiifaaGreatDoor
open Go.RowKit Go.Ofp
abbrev rbC (g : Nat) (q v : Value) (s : ShS) (ca : Option Addr) (cc : Nat) (da : Option Addr) (dc : Nat) : Ch := Ch.blk g 53 #[q, .int .i64 s.next, .slice ca s.m.length cc, .slice da s.dead.length dc, v]
theorem rbC_eq (g : Nat) (q v : Value) (s : ShS) (ca : Option Addr) (cc : Nat) (da : Option Addr) (dc : Nat) : rbB g q v (rsRow s ca cc da dc) = rbC g q v s ca cc da dc := rfl
def RsQ (g : Nat) (q v : Value) (s s' : ShS) (ca : Option Addr) (cc : Nat) (da : Option Addr) (dc : Nat) (w w' : World) : Prop := ∃ ca' cc' da' dc' L', St w [g] (rbC g q v s' ca' cc' da' dc' :: L') w' ∧ RsK s s' ca cc da dc ca' cc' da' dc' L'
theorem RsCb.rsq {g : Nat} {q v : Value} {s s' : ShS} {ca : Option Addr} {cc : Nat} {da : Option Addr} {dc : Nat} {w w' : World} (h : RsCb g q v s s' ca cc da dc w w') (hd : s'.dead = s.dead) (hm : ∀ x ∈ s'.m, x.f.length = 8) : RsQ g q v s s' ca cc da dc w w' := by
 obtain ⟨ca', cc', L', hS, ⟨rfl, h2, rfl, rfl⟩ | rfl⟩ := h
 · refine ⟨_, _, da, dc, [], hS, fun w0 F A B W _ => ⟨fun h => ?_, fun h => ?_⟩⟩
   · unfold LC at h ⊢; rw [h2]; exact h
   · unfold LD at h ⊢; rw [hd]; exact h
 · exact ⟨_, _, da, dc, _, hS, RsK.cards hd hm⟩
theorem rsadd_q (g : Nat) (q v : Value) (s : ShS) (ca : Option Addr) (cc : Nat) (da : Option Addr) (dc : Nat) (p : Pt) (hp : PtIn p) (hok : ShOk s) (w : World) (hS : St w [g] [rbC g q v s ca cc da dc] w) (hl : ∀ W, Fr [g] w W → LC W s ca cc) :
 Calls Tryz.prog 83 #[.pointer (some ⟨g, 1, none⟩), .agg (ptRow p).toArray] w fun e w' => e = .returned (sgV (s.add p).2) ∧ RsQ g q v s (s.add p).1 ca cc da dc w w' := by
 have hn := hok.next
 refine (rsadd_b g q v s ca cc da dc p hp w hS hl ⟨by omega, by omega⟩).mono ?_
 rintro e w' ⟨h1, h2⟩
 exact ⟨h1, h2.rsq (add_dead s p) (hok.add p hp.lab).fl⟩
theorem rswrite_q (g : Nat) (q v : Value) (s : ShS) (ca : Option Addr) (cc : Nat) (da : Option Addr) (dc : Nat) (id : Int) (p : Pt) (hp : PtIn p) (hok : ShOk s) (w : World) (hS : St w [g] [rbC g q v s ca cc da dc] w) (hl : ∀ W, Fr [g] w W → LC W s ca cc) (hd : ∀ W, Fr [g] w W → LD W s da dc) :
 Calls Tryz.prog 84 #[.pointer (some ⟨g, 1, none⟩), .int .i64 id, .agg (ptRow p).toArray] w fun e w' => e = .returned (sgV (s.write id p).2) ∧ RsQ g q v s (s.write id p).1 ca cc da dc w w' := by
 refine (rswrite_b g q v s ca cc da dc id p hp w hS hl hd hok).mono ?_
 rintro e w' ⟨h1, h2⟩
 exact ⟨h1, h2.rsq (write_dead s id p) (hok.write id p hp.lab).fl⟩
theorem rsdrop_q (g : Nat) (q v : Value) (s : ShS) (ca : Option Addr) (cc : Nat) (da : Option Addr) (dc : Nat) (id sq : Int) (hq : I64 sq) (hok : ShOk s) (w : World) (hS : St w [g] [rbC g q v s ca cc da dc] w) (hl : ∀ W, Fr [g] w W → LC W s ca cc) (hd : ∀ W, Fr [g] w W → LD W s da dc) :
 Calls Tryz.prog 85 #[.pointer (some ⟨g, 1, none⟩), .int .i64 id, .int .i64 sq] w fun e w' => e = .returned (.int .i64 (s.drop id sq).2) ∧ RsQ g q v s (s.drop id sq).1 ca cc da dc w w' :=
 rsdrop_b g q v s ca cc da dc id sq hq w hS hl hd hok
theorem rstrim_q (g : Nat) (q v : Value) (s : ShS) (ca : Option Addr) (cc : Nat) (da : Option Addr) (dc : Nat) (sq : Int) (hok : ShOk s) (w : World) (hS : St w [g] [rbC g q v s ca cc da dc] w) (hd : ∀ W, Fr [g] w W → LD W s da dc) :
 Calls Tryz.prog 23 #[.pointer (some ⟨g, 1, none⟩), .int .i64 sq] w fun e w' => e = .returned (.tuple #[]) ∧ RsQ g q v s (s.trim sq) ca cc da dc w w' := by
 refine (rstrim_b g q v s ca cc da dc sq w hS hd (by have := hok.dlen; omega)).mono ?_
 rintro e w' ⟨h1, da', dc', h2⟩
 exact ⟨h1, ca, cc, da', dc', _, h2, RsK.deads rfl⟩
end Go.Proofs.YtneolmnpebiifaaGreatDoor
end
