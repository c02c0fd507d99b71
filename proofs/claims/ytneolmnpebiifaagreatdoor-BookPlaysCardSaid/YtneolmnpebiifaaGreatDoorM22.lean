import Derived.Test.YtneolmnpebiifaaGreatDoorM21
set_option linter.unusedVariables false
set_option linter.unusedSimpArgs false
set_option maxRecDepth 100000
section
namespace Go.Ofp
theorem seqBad_nil (nx : Int) (m : List Cd) (q : Int) : ShS.seqBad ⟨nx, m, []⟩ q = (decide (q < 0) || decide (1099511627776 < q)) := by simp [ShS.seqBad]
theorem seqBad_snoc (nx : Int) (m : List Cd) (A : List Dd) (x : Dd) (q : Int) : ShS.seqBad ⟨nx, m, A ++ [x]⟩ q = (decide (q < 0) || decide (1099511627776 < q) || decide (q < x.seq)) := by simp [ShS.seqBad]
open Go.RowKit
theorem wp_cutxyz {P : Program} {c : Code} {Q : Exit → Act → World → Prop} {a : Act} {w w0 : World} {F : List Nat} {X Y Z : Type} {T : X → Y → Z → Act} {L0 : List Ch} {L : X → Y → Z → List Ch} (h : St w0 F L0 w → c.wp P (CutQ fun a w => ∃ u v z, a = T u v z ∧ St w0 F (L u v z) w) a w) (k : ∀ u v z w, St w0 F (L u v z) w → Q .normal (T u v z) w) : St w0 F L0 w → c.wp P Q a w := fun h0 =>
 wp_cutQ (h h0) fun _ w ⟨u, v, z, h, hS⟩ => h ▸ k u v z w hS
theorem St.re5d {w0 w : World} {F : List Nat} {a b c d e : Ch} (h : St w0 F [a, b, c, d, e] w) : St w0 F [c, d, a] w := by
 refine h.pick (fun i => if i = 0 then 2 else if i = 1 then 3 else 0) ?_ ?_
 · intro i x hx
   match i with
   | 0 => exact hx
   | 1 => exact hx
   | 2 => exact hx
   | i + 3 => simp at hx
 · intro i j hi hj hij
   simp only [List.length_cons, List.length_nil] at hi hj
   split <;> split <;> (repeat' split) <;> omega
end Go.Ofp
namespace Go.Proofs.YtneolmnpebiifaaGreatDoor
open Go.RowKit Go.Ofp
set_option maxHeartbeats 4000000
theorem build_dd (a b c : Int) (w : World) : (Instr.build 91 #[(0, .int .i64 a), (1, .int .i64 b), (2, .int .i64 c)]).run Tryz.prog w = .ok (.agg #[.int .i64 a, .int .i64 b, .int .i64 c]) w := by kernel_rfl
theorem sdrop_any (g gm : Nat) (s : ShS) (da : Option Addr) (dc : Nat) (id q : Int) (hid : I64 id) (hq : I64 q) (w : World) (hA : St w (feet (shA g gm s da dc)) (shA g gm s da dc) w) (hok : ShOk s) :
 Calls Tryz.prog 73 #[.pointer (some ⟨g, 0, none⟩), .int .i64 id, .int .i64 q] w fun e w' => e = .returned (.int .i64 (s.drop id q).2) ∧ ∃ da' dc', St w (feet (shA g gm s da dc)) (shA g gm (s.drop id q).1 da' dc') w' := by
 have hS := hA
 have ec := elem_card
 have ed := elem_dd
 have cG := Lib.hid fun W h => sget_any g gm s da dc id hid W h hok
 have hB := fun (v : Int) (W : World) => build_dd id v q W
 have hgf := get_f hok id
 have hgid : (s.get id).2 = 0 → (lookC s.m id).isSome = true := fun h => by rw [get_ok h]; rfl
 have hwf := id_wf hok
 have hml := hok.len
 have hdl := hok.dlen
 have hdr : s.drop id q = if (s.get id).2 ≠ 0 then (s, (s.get id).2) else if s.seqBad q = true then (s, 1) else (⟨s.next, dropC s.m id, lastD (s.dead ++ [⟨id, (s.get id).1.ver, q⟩])⟩, 0) := rfl
 have hgV : sgV (s.get id) = .tuple #[.agg (cdRow (s.get id).1).toArray, .int .i64 (s.get id).2] := rfl
 have hcl := cdRow_lenT _ hgf
 have hco := cdRow_oneT (s.get id).1
 have hdel := cdM_dropC cdRow s.m id
 have hpr := dropC_ris hok.ris id
 have hpw : ∀ c ∈ dropC s.m id, (Lit.int .i64 c.id).wf = true := fun c hc => hwf c (List.mem_filter.1 hc).1
 have hwk := wf_of_i64 hid
 rw [hdr]
 rw [hgV] at cG
 generalize feet (shA g gm s da dc) = F at *
 obtain ⟨CT, hCT⟩ : ∃ CT, cdRow (s.get id).1 = .int .i64 (s.get id).1.id :: .int .i64 (s.get id).1.ver :: CT := ⟨_, rfl⟩
 rw [hCT] at cG hcl hco
 generalize (s.get id).1.id = ci at *
 generalize (s.get id).1.ver = cv at *
 generalize (s.get id).2 = er at *
 have e0 : ∀ M D da dc, shA g gm ⟨s.next, M, D⟩ da dc = [Ch.blk g 101 #[.int .i64 s.next, .map (some gm), .slice da D.length dc], Ch.map Tryz.prog 3 gm M.length (cdM cdRow M), Ch.row 91 3 (.slice da D.length dc) D.length (dRow D)] := fun _ _ _ _ => rfl
 obtain ⟨nx, M, D⟩ := s
 dsimp only at *
 rw [e0] at hS
 have hAt : ∀ (w0 w : World) (F : List Nat) (a : Ch), St w0 F (a :: shA g gm ⟨nx, M, D⟩ da dc) w → ShAt w g gm ⟨nx, M, D⟩ da dc := fun _ _ _ _ h => shAt_st h 1 2 3 rfl rfl rfl
 have hAt0 : ∀ (w0 w : World) (F : List Nat), St w0 F (shA g gm ⟨nx, M, D⟩ da dc) w → ShAt w g gm ⟨nx, M, D⟩ da dc := fun _ _ _ h => shAt_st h 0 1 2 rfl rfl rfl
 rw [e0] at hAt hAt0
 replace hAt := Lib.hid hAt
 replace hAt0 := Lib.hid hAt0
 replace hdel := Lib.hid hdel
 replace hpr := Lib.hid hpr
 replace hpw := Lib.hid hpw
 clear hA hok hdr hgV hCT hgf hwf hid hgid
 by_cases her : er = 0
 case neg =>
  rw [if_pos her]
  have b2 : (er != 0) = true := by simpa using her
  clear her
  go_enter Tryz.func73, Tryz.ntmps73
  go_wp2_with (first | (go_at_call 49; (with_reducible refine (cG.out _ (hAt0.out _ _ _ hS)).mono ?_); rintro _ w3 ⟨rfl, hk9⟩; replace hS := hS.keepB hk9; clear hk9) | ((with_reducible refine wpList_storerow_st (t := 58) (n := 27) (vs := Value.int .i64 ci :: .int .i64 cv :: CT) 0 hS rfl rfl rfl rfl (by kernel_rfl) rfl hcl hco (by kernel_rfl) ?_); clear hS; intro w1 hS; try simp only [List.set_cons_zero, List.set_cons_succ, List.setIfInBounds_toArray, List.take_succ_cons, List.take_zero, List.drop_succ_cons, List.drop_zero, List.nil_append, List.cons_append, List.append_nil, List.drop_nil, List.take_nil, List.length_cons, List.length_nil, Nat.zero_add, Nat.add_zero, Nat.reduceAdd] at hS) | (with_reducible refine al hS rfl rfl ?_; clear hS; intro g1 w1 hS))
  go_ret
  exact ⟨rfl, da, dc, by rw [e0]; exact hS.drop⟩
 rw [if_neg (by simp [her])]
 subst her
 by_cases h1 : q < 0
 · have d1 : decide (q < 0) = true := decide_eq_true h1
   rw [if_pos (by simp [ShS.seqBad, h1])]
   clear h1
   go_enter Tryz.func73, Tryz.ntmps73
   go_wp2_with (first | (go_at_call 49; (with_reducible refine (cG.out _ (hAt0.out _ _ _ hS)).mono ?_); rintro _ w3 ⟨rfl, hk9⟩; replace hS := hS.keepB hk9; clear hk9) | ((with_reducible refine wpList_storerow_st (t := 58) (n := 27) (vs := Value.int .i64 ci :: .int .i64 cv :: CT) 0 hS rfl rfl rfl rfl (by kernel_rfl) rfl hcl hco (by kernel_rfl) ?_); clear hS; intro w1 hS; try simp only [List.set_cons_zero, List.set_cons_succ, List.setIfInBounds_toArray, List.take_succ_cons, List.take_zero, List.drop_succ_cons, List.drop_zero, List.nil_append, List.cons_append, List.append_nil, List.drop_nil, List.take_nil, List.length_cons, List.length_nil, Nat.zero_add, Nat.add_zero, Nat.reduceAdd] at hS) | (with_reducible refine al hS rfl rfl ?_; clear hS; intro g1 w1 hS) | (with_reducible refine ld 1 hS rfl rfl rfl rfl rfl ?_))
   go_ret
   exact ⟨rfl, da, dc, by rw [e0]; exact hS.drop⟩
 have d1 : decide (q < 0) = false := decide_eq_false h1
 by_cases h2 : 1099511627776 < q
 · have d2 : decide (1099511627776 < q) = true := decide_eq_true h2
   rw [if_pos (by simp [ShS.seqBad, h2])]
   clear h2
   go_enter Tryz.func73, Tryz.ntmps73
   go_wp2_with (first | (go_at_call 49; (with_reducible refine (cG.out _ (hAt0.out _ _ _ hS)).mono ?_); rintro _ w3 ⟨rfl, hk9⟩; replace hS := hS.keepB hk9; clear hk9) | ((with_reducible refine wpList_storerow_st (t := 58) (n := 27) (vs := Value.int .i64 ci :: .int .i64 cv :: CT) 0 hS rfl rfl rfl rfl (by kernel_rfl) rfl hcl hco (by kernel_rfl) ?_); clear hS; intro w1 hS; try simp only [List.set_cons_zero, List.set_cons_succ, List.setIfInBounds_toArray, List.take_succ_cons, List.take_zero, List.drop_succ_cons, List.drop_zero, List.nil_append, List.cons_append, List.append_nil, List.drop_nil, List.take_nil, List.length_cons, List.length_nil, Nat.zero_add, Nat.add_zero, Nat.reduceAdd] at hS) | (with_reducible refine al hS rfl rfl ?_; clear hS; intro g1 w1 hS) | (with_reducible refine ld 1 hS rfl rfl rfl rfl rfl ?_))
   go_ret
   exact ⟨rfl, da, dc, by rw [e0]; exact hS.drop⟩
 have d2 : decide (1099511627776 < q) = false := decide_eq_false h2
 have hnw := dRow_len D
 have hn1 := dRow_one D
 have hn2 : (0 : Int) ≤ (D.length : Int) := Int.natCast_nonneg _
 rcases List.eq_nil_or_concat D with hD | ⟨A, x, hD⟩
 · rw [if_neg (by rw [hD, seqBad_nil, d1, d2]; simp)]
   have hn0 : D.length = 0 := by rw [hD]; rfl
   have d3 : decide ((0 : Int) < (D.length : Int)) = false := decide_eq_false (by omega)
   have d4 : decide (0 < D.length) = false := decide_eq_false (by omega)
   clear h1 h2 hD hn0
   replace e0 := Lib.hid e0
   have hEE := Lib.hid fun D' da' dc' => e0.out (dropC M id) D' da' dc'
   have hlD : lastD (D ++ [Dd.mk id cv q]) = if 40 < D.length + 1 then (D ++ [Dd.mk id cv q]).drop 1 else D ++ [Dd.mk id cv q] := by
    unfold lastD
    rw [List.length_append]
    rfl
   replace hlD := Lib.hid hlD
   go_enter Tryz.func73, Tryz.ntmps73
   go_wp2_with (first | (go_at_call 49; (with_reducible refine (cG.out _ (hAt0.out _ _ _ hS)).mono ?_); rintro _ w3 ⟨rfl, hk9⟩; replace hS := hS.keepB hk9; clear hk9) | ((with_reducible refine wpList_storerow_st (t := 58) (n := 27) (vs := Value.int .i64 ci :: .int .i64 cv :: CT) 0 hS rfl rfl rfl rfl (by kernel_rfl) rfl hcl hco (by kernel_rfl) ?_); clear hS; intro w1 hS; try simp only [List.set_cons_zero, List.set_cons_succ, List.setIfInBounds_toArray, List.take_succ_cons, List.take_zero, List.drop_succ_cons, List.drop_zero, List.nil_append, List.cons_append, List.append_nil, List.drop_nil, List.take_nil, List.length_cons, List.length_nil, Nat.zero_add, Nat.add_zero, Nat.reduceAdd] at hS) | (with_reducible refine al hS rfl rfl ?_; clear hS; intro g1 w1 hS) | (with_reducible refine ld 1 hS rfl rfl rfl rfl rfl ?_) | ((with_reducible refine wpList_mapdel_st (k := 3) 2 hS rfl rfl rfl rfl rfl Tryz.underlying3 Tryz.underlying99 hwk ?_); clear hS; intro w6 hS; try simp only [List.set_cons_zero, List.set_cons_succ, List.setIfInBounds_toArray, List.take_succ_cons, List.take_zero, List.drop_succ_cons, List.drop_zero, List.nil_append, List.cons_append, List.append_nil, List.drop_nil, List.take_nil, List.length_cons, List.length_nil, Nat.zero_add, Nat.add_zero, Nat.reduceAdd] at hS))
   clear d1 d2 d3 d4
   have hln : ((dRow D).length) = D.length * 3 := hnw
   revert hS
   apply wp_cutxyz
   · intro hS
     refine mixs_beginC 0 (by kernel_rfl) hS rfl ?_
     clear hS
     intro w2 hS hC
     have kC := hC.kblk 0 rfl
     refine tk 0 ?_
     refine tk 1 ?_
     refine tk 2 ?_
     refine tk 3 ?_
     refine tk 5 ?_
     refine tk 6 ?_
     refine tk 7 ?_
     refine tk 8 ?_
     refine tk 9 ?_
     refine mixs_two 4 10 (by kernel_rfl) rfl rfl (fun K hK => ?_) (fun K hK => ?_)
     ·
      refine op_load_st (by kernel_rfl) 1 hS rfl rfl rfl (by simp [scalarB, go_sem]) rfl ?_
      try clear hC
      refine cl hK (fun hC => ?_)
      clear hK K
      refine mixs_one 10 (by kernel_rfl) rfl (fun K hK => ?_)
      ((refine op_build1_st (by kernel_rfl) hS rfl Tryz.underlying28 ed (cs := #[.int .i64 id, .int .i64 cv, .int .i64 q]) rfl rfl (by decide) ?_; clear hS; intro g3 w3 hS))
      try clear hC
      refine cl hK (fun hC => ?_)
      clear hK K
      refine mixs_one 11 (by kernel_rfl) rfl (fun K hK => ?_)
      ((refine op_app_st (by kernel_rfl) 4 (m := 1) (news := [.int .i64 id, .int .i64 cv, .int .i64 q]) hS rfl rfl Tryz.underlying28 ed rfl (Src.slice Tryz.underlying28 (hS.blksl2 0 rfl) rfl) rfl (by simp [Value.oneCell']) (by omega) (by unfold maxLen; omega) ?_; intro v6 w6 hS1; clear hS; simp only [List.set_cons_zero, List.set_cons_succ] at hS1; obtain ⟨a6, c6, rfl, -⟩ := hS1.row 4 rfl; have hS := hS1.drop; clear hS1))
      try clear hC
      refine cl hK (fun hC => ?_)
      clear hK K
      refine tk 12 ?_
      refine tk 13 ?_
      refine mixs_one 14 (by kernel_rfl) rfl (fun K hK => ?_)
      refine op_store_st (by kernel_rfl) 1 hS rfl rfl rfl (by kernel_rfl) rfl rfl ?_
      clear hS; intro w1 hS; try simp only [List.set_cons_zero, List.set_cons_succ, List.setIfInBounds_toArray, List.take_succ_cons, List.take_zero, List.drop_succ_cons, List.drop_zero, List.nil_append, List.cons_append, List.append_nil, List.drop_nil, List.take_nil, List.length_cons, List.length_nil, Nat.zero_add, Nat.add_zero, Nat.reduceAdd] at hS
      try clear hC
      refine cl hK (fun hC => ?_)
      clear hK K
      refine wpAnyH_done (by kernel_rfl) ?_ _
      exact ⟨g3, a6, c6, rfl, hS⟩
     ·
      ((refine op_build1_st (by kernel_rfl) hS rfl Tryz.underlying28 ed (cs := #[.int .i64 id, .int .i64 cv, .int .i64 q]) rfl rfl (by decide) ?_; clear hS; intro g3 w3 hS))
      try clear hC
      refine cl hK (fun hC => ?_)
      clear hK K
      refine mixs_one 4 (by kernel_rfl) rfl (fun K hK => ?_)
      refine op_load_st (by kernel_rfl) 2 hS rfl rfl rfl (by simp [scalarB, go_sem]) rfl ?_
      try clear hC
      refine cl hK (fun hC => ?_)
      clear hK K
      refine mixs_one 11 (by kernel_rfl) rfl (fun K hK => ?_)
      ((refine op_app_st (by kernel_rfl) 4 (m := 1) (news := [.int .i64 id, .int .i64 cv, .int .i64 q]) hS rfl rfl Tryz.underlying28 ed rfl (Src.slice Tryz.underlying28 (hS.blksl2 0 rfl) rfl) rfl (by simp [Value.oneCell']) (by omega) (by unfold maxLen; omega) ?_; intro v6 w6 hS1; clear hS; simp only [List.set_cons_zero, List.set_cons_succ] at hS1; obtain ⟨a6, c6, rfl, -⟩ := hS1.row 4 rfl; have hS := hS1.drop; clear hS1))
      try clear hC
      refine cl hK (fun hC => ?_)
      clear hK K
      refine tk 12 ?_
      refine tk 13 ?_
      refine mixs_one 14 (by kernel_rfl) rfl (fun K hK => ?_)
      refine op_store_st (by kernel_rfl) 1 hS rfl rfl rfl (by kernel_rfl) rfl rfl ?_
      clear hS; intro w1 hS; try simp only [List.set_cons_zero, List.set_cons_succ, List.setIfInBounds_toArray, List.take_succ_cons, List.take_zero, List.drop_succ_cons, List.drop_zero, List.nil_append, List.cons_append, List.append_nil, List.drop_nil, List.take_nil, List.length_cons, List.length_nil, Nat.zero_add, Nat.add_zero, Nat.reduceAdd] at hS
      try clear hC
      refine cl hK (fun hC => ?_)
      clear hK K
      refine wpAnyH_done (by kernel_rfl) ?_ _
      exact ⟨g3, a6, c6, rfl, hS⟩
   intro g3 a6 c6 w6 hS
   have hdn : dRow (D ++ [Dd.mk id cv q]) = dRow D ++ [.int .i64 id, .int .i64 cv, .int .i64 q] := by simp [dRow, ddRow]
   by_cases h40 : 40 < D.length + 1
   · have d7 : decide ((40 : Int) < ((D.length + 1 : Nat) : Int)) = true := decide_eq_true (by omega)
     have d8 : decide ((40 : Int) < (D.length : Int) + 1) = true := decide_eq_true (by omega)
     have d9 : decide (40 < D.length + 1) = true := decide_eq_true h40
     obtain ⟨a7, c7, e7, hs7, -, hc7, hm7⟩ := hS.row 3 rfl
     cases e7
     rw [← hdn] at hs7
     obtain ⟨b7, o7, ha7⟩ := Sl.cells hs7 (by intro e; have := congrArg List.length e; rw [dRow_len] at this; simp at this)
     subst ha7
     have hT := hs7.drop 3
     have h13 := dRow_drop (D ++ [Dd.mk id cv q]) 1 (by simp)
     rw [Nat.one_mul] at h13
     rw [h13] at hT
     have hne : ¬ c6 = 1 := by omega
     have hTc := hT
     have cCl := Lib.hid (dclone_any (In := fun _ => True) _ ((D ++ [Dd.mk id cv q]).drop 1) D.length (c6 - 1) _ ⟨hTc, by simp, by omega, by omega, fun _ _ => trivial⟩ (by omega))
     have hi1 : (1 : Int) ≤ (D.length : Int) + 1 := by omega
     clear hs7 hT h13 hTc h40
     go_wp2_with (first | (go_at_call 67; (with_reducible refine cCl.out.mono ?_); rintro _ w9 ⟨a9, c9, rfl, hk9⟩; have hS1 := hS.made hk9; clear hS hk9; have hS := hS1; clear hS1) | (with_reducible refine ld 1 hS rfl rfl rfl rfl rfl ?_) | (with_reducible refine sto 2 hS rfl rfl rfl rfl rfl rfl ?_; clear hS; intro w1 hS))
     go_ret
     refine ⟨rfl, a9, c9, ?_⟩
     have hl1 : ((D ++ [Dd.mk id cv q]).drop 1).length = D.length := by simp
     rw [hlD.out, if_pos (of_decide_eq_true d9), hEE.out, hdel.out, hl1]
     have h9 := hS.re5d
     rw [← hdel.out] at h9
     have h8 := h9.maptight 1 rfl Tryz.underlying3 hpr.out hpw.out
     rw [hdel.out] at h8
     exact h8
   · have d7 : decide ((40 : Int) < ((D.length + 1 : Nat) : Int)) = false := decide_eq_false (by omega)
     have d8 : decide ((40 : Int) < (D.length : Int) + 1) = false := decide_eq_false (by omega)
     have d9 : decide (40 < D.length + 1) = false := decide_eq_false h40
     go_wp2_with ((with_reducible refine ld 1 hS rfl rfl rfl rfl rfl ?_))
     go_ret
     refine ⟨rfl, a6, c6, ?_⟩
     rw [hlD.out, if_neg (of_decide_eq_false d9), hEE.out, hdel.out, hdn, List.length_append]
     have h9 := hS.drop
     rw [← hdel.out] at h9
     have h8 := h9.maptight 1 rfl Tryz.underlying3 hpr.out hpw.out
     rw [hdel.out] at h8
     exact h8
 · rw [List.concat_eq_append] at hD
   have hn0 : D.length = A.length + 1 := by rw [hD]; simp
   have hlc : ∀ (b o : Nat) (W : World), Sl W (some ⟨b, o, none⟩) (dRow D) → W.cell? ⟨b, o + A.length * 3 + 2, none⟩ = some (.int .i64 x.seq) := fun _ _ _ h => by
    have q1 := dRow_at D A.length (by omega)
    have q2 : D[A.length]'(by omega) = x := by simp [hD]
    rw [q2] at q1
    have := sl_range h q1 2 _ rfl
    exact this
   have d3 : decide ((0 : Int) < (D.length : Int)) = true := decide_eq_true (by omega)
   have d4 : decide (0 < D.length) = true := decide_eq_true (by omega)
   have hsub : IntKind.i64.wrap ((D.length : Int) - 1) = (A.length : Int) := by rw [IntWalk.i64_in _ (by omega)]; omega
   have hkn : A.length < D.length := by omega
   have hkn2 : (A.length : Int) < (D.length : Int) := by omega
   obtain ⟨a1, c1, e1, hs1, -⟩ := hS.row 2 rfl
   cases e1
   obtain ⟨b1, o1, ha1⟩ := Sl.cells hs1 (by intro e; have := congrArg List.length e; rw [dRow_len] at this; simp at this; omega)
   subst ha1
   clear hs1
   replace hlc := Lib.hid hlc
   by_cases h3 : q < x.seq
   · rw [if_pos (by rw [hD, seqBad_snoc]; simp [h3])]
     have d5 : decide (q < x.seq) = true := decide_eq_true h3
     clear h1 h2 h3 hD hn0
     replace e0 := Lib.hid e0
     have hEE := Lib.hid fun D' da' dc' => e0.out (dropC M id) D' da' dc'
     have hlD : lastD (D ++ [Dd.mk id cv q]) = if 40 < D.length + 1 then (D ++ [Dd.mk id cv q]).drop 1 else D ++ [Dd.mk id cv q] := by
      unfold lastD
      rw [List.length_append]
      rfl
     replace hlD := Lib.hid hlD
     generalize x.seq = xq at *
     go_enter Tryz.func73, Tryz.ntmps73
     go_wp2_with (first | ((with_reducible refine wpList_storerow_st (t := 58) (n := 27) (vs := Value.int .i64 ci :: .int .i64 cv :: CT) 0 hS rfl rfl rfl rfl (by kernel_rfl) rfl hcl hco (by kernel_rfl) ?_); clear hS; intro w1 hS; try simp only [List.set_cons_zero, List.set_cons_succ, List.setIfInBounds_toArray, List.take_succ_cons, List.take_zero, List.drop_succ_cons, List.drop_zero, List.nil_append, List.cons_append, List.append_nil, List.drop_nil, List.take_nil, List.length_cons, List.length_nil, Nat.zero_add, Nat.add_zero, Nat.reduceAdd] at hS; have y2 : World.cell? _ ⟨g, 2, none⟩ = some (.slice (some ⟨b1, o1, none⟩) D.length dc) := hS.cell 1 rfl 2; have yz := hlc.out _ _ _ (hS.rowsl 3 rfl)) | (go_at_call 49; (with_reducible refine (cG.out _ (hAt0.out _ _ _ hS)).mono ?_); rintro _ w3 ⟨rfl, hk9⟩; replace hS := hS.keepB hk9; clear hk9) | (with_reducible refine al hS rfl rfl ?_; clear hS; intro g1 w1 hS) | (with_reducible refine ld 1 hS rfl rfl rfl rfl rfl ?_))
     go_ret
     exact ⟨rfl, _, dc, by rw [e0.out]; exact hS.drop⟩
   · rw [if_neg (by rw [hD, seqBad_snoc, d1, d2]; simp [h3])]
     have d5 : decide (q < x.seq) = false := decide_eq_false h3
     clear h1 h2 h3 hD hn0
     replace e0 := Lib.hid e0
     have hEE := Lib.hid fun D' da' dc' => e0.out (dropC M id) D' da' dc'
     have hlD : lastD (D ++ [Dd.mk id cv q]) = if 40 < D.length + 1 then (D ++ [Dd.mk id cv q]).drop 1 else D ++ [Dd.mk id cv q] := by
      unfold lastD
      rw [List.length_append]
      rfl
     replace hlD := Lib.hid hlD
     generalize x.seq = xq at *
     go_enter Tryz.func73, Tryz.ntmps73
     go_wp2_with (first | ((with_reducible refine wpList_storerow_st (t := 58) (n := 27) (vs := Value.int .i64 ci :: .int .i64 cv :: CT) 0 hS rfl rfl rfl rfl (by kernel_rfl) rfl hcl hco (by kernel_rfl) ?_); clear hS; intro w1 hS; try simp only [List.set_cons_zero, List.set_cons_succ, List.setIfInBounds_toArray, List.take_succ_cons, List.take_zero, List.drop_succ_cons, List.drop_zero, List.nil_append, List.cons_append, List.append_nil, List.drop_nil, List.take_nil, List.length_cons, List.length_nil, Nat.zero_add, Nat.add_zero, Nat.reduceAdd] at hS; have y2 : World.cell? _ ⟨g, 2, none⟩ = some (.slice (some ⟨b1, o1, none⟩) D.length dc) := hS.cell 1 rfl 2; have yz := hlc.out _ _ _ (hS.rowsl 3 rfl)) | (go_at_call 49; (with_reducible refine (cG.out _ (hAt0.out _ _ _ hS)).mono ?_); rintro _ w3 ⟨rfl, hk9⟩; replace hS := hS.keepB hk9; clear hk9) | (with_reducible refine al hS rfl rfl ?_; clear hS; intro g1 w1 hS) | (with_reducible refine ld 1 hS rfl rfl rfl rfl rfl ?_) | ((with_reducible refine wpList_mapdel_st (k := 3) 2 hS rfl rfl rfl rfl rfl Tryz.underlying3 Tryz.underlying99 hwk ?_); clear hS; intro w6 hS; try simp only [List.set_cons_zero, List.set_cons_succ, List.setIfInBounds_toArray, List.take_succ_cons, List.take_zero, List.drop_succ_cons, List.drop_zero, List.nil_append, List.cons_append, List.append_nil, List.drop_nil, List.take_nil, List.length_cons, List.length_nil, Nat.zero_add, Nat.add_zero, Nat.reduceAdd] at hS))
     clear y2 yz
     clear d1 d2 d3 d4
     have hln : ((dRow D).length) = D.length * 3 := hnw
     revert hS
     apply wp_cutxyz
     · intro hS
       refine mixs_beginC 0 (by kernel_rfl) hS rfl ?_
       clear hS
       intro w2 hS hC
       have kC := hC.kblk 0 rfl
       refine tk 0 ?_
       refine tk 1 ?_
       refine tk 2 ?_
       refine tk 3 ?_
       refine tk 5 ?_
       refine tk 6 ?_
       refine tk 7 ?_
       refine tk 8 ?_
       refine tk 9 ?_
       refine mixs_two 4 10 (by kernel_rfl) rfl rfl (fun K hK => ?_) (fun K hK => ?_)
       ·
        refine op_load_st (by kernel_rfl) 1 hS rfl rfl rfl (by simp [scalarB, go_sem]) rfl ?_
        try clear hC
        refine cl hK (fun hC => ?_)
        clear hK K
        refine mixs_one 10 (by kernel_rfl) rfl (fun K hK => ?_)
        ((refine op_build1_st (by kernel_rfl) hS rfl Tryz.underlying28 ed (cs := #[.int .i64 id, .int .i64 cv, .int .i64 q]) rfl rfl (by decide) ?_; clear hS; intro g3 w3 hS))
        try clear hC
        refine cl hK (fun hC => ?_)
        clear hK K
        refine mixs_one 11 (by kernel_rfl) rfl (fun K hK => ?_)
        ((refine op_app_st (by kernel_rfl) 4 (m := 1) (news := [.int .i64 id, .int .i64 cv, .int .i64 q]) hS rfl rfl Tryz.underlying28 ed rfl (Src.slice Tryz.underlying28 (hS.blksl2 0 rfl) rfl) rfl (by simp [Value.oneCell']) (by omega) (by unfold maxLen; omega) ?_; intro v6 w6 hS1; clear hS; simp only [List.set_cons_zero, List.set_cons_succ] at hS1; obtain ⟨a6, c6, rfl, -⟩ := hS1.row 4 rfl; have hS := hS1.drop; clear hS1))
        try clear hC
        refine cl hK (fun hC => ?_)
        clear hK K
        refine tk 12 ?_
        refine tk 13 ?_
        refine mixs_one 14 (by kernel_rfl) rfl (fun K hK => ?_)
        refine op_store_st (by kernel_rfl) 1 hS rfl rfl rfl (by kernel_rfl) rfl rfl ?_
        clear hS; intro w1 hS; try simp only [List.set_cons_zero, List.set_cons_succ, List.setIfInBounds_toArray, List.take_succ_cons, List.take_zero, List.drop_succ_cons, List.drop_zero, List.nil_append, List.cons_append, List.append_nil, List.drop_nil, List.take_nil, List.length_cons, List.length_nil, Nat.zero_add, Nat.add_zero, Nat.reduceAdd] at hS
        try clear hC
        refine cl hK (fun hC => ?_)
        clear hK K
        refine wpAnyH_done (by kernel_rfl) ?_ _
        exact ⟨g3, a6, c6, rfl, hS⟩
       ·
        ((refine op_build1_st (by kernel_rfl) hS rfl Tryz.underlying28 ed (cs := #[.int .i64 id, .int .i64 cv, .int .i64 q]) rfl rfl (by decide) ?_; clear hS; intro g3 w3 hS))
        try clear hC
        refine cl hK (fun hC => ?_)
        clear hK K
        refine mixs_one 4 (by kernel_rfl) rfl (fun K hK => ?_)
        refine op_load_st (by kernel_rfl) 2 hS rfl rfl rfl (by simp [scalarB, go_sem]) rfl ?_
        try clear hC
        refine cl hK (fun hC => ?_)
        clear hK K
        refine mixs_one 11 (by kernel_rfl) rfl (fun K hK => ?_)
        ((refine op_app_st (by kernel_rfl) 4 (m := 1) (news := [.int .i64 id, .int .i64 cv, .int .i64 q]) hS rfl rfl Tryz.underlying28 ed rfl (Src.slice Tryz.underlying28 (hS.blksl2 0 rfl) rfl) rfl (by simp [Value.oneCell']) (by omega) (by unfold maxLen; omega) ?_; intro v6 w6 hS1; clear hS; simp only [List.set_cons_zero, List.set_cons_succ] at hS1; obtain ⟨a6, c6, rfl, -⟩ := hS1.row 4 rfl; have hS := hS1.drop; clear hS1))
        try clear hC
        refine cl hK (fun hC => ?_)
        clear hK K
        refine tk 12 ?_
        refine tk 13 ?_
        refine mixs_one 14 (by kernel_rfl) rfl (fun K hK => ?_)
        refine op_store_st (by kernel_rfl) 1 hS rfl rfl rfl (by kernel_rfl) rfl rfl ?_
        clear hS; intro w1 hS; try simp only [List.set_cons_zero, List.set_cons_succ, List.setIfInBounds_toArray, List.take_succ_cons, List.take_zero, List.drop_succ_cons, List.drop_zero, List.nil_append, List.cons_append, List.append_nil, List.drop_nil, List.take_nil, List.length_cons, List.length_nil, Nat.zero_add, Nat.add_zero, Nat.reduceAdd] at hS
        try clear hC
        refine cl hK (fun hC => ?_)
        clear hK K
        refine wpAnyH_done (by kernel_rfl) ?_ _
        exact ⟨g3, a6, c6, rfl, hS⟩
     intro g3 a6 c6 w6 hS
     have hdn : dRow (D ++ [Dd.mk id cv q]) = dRow D ++ [.int .i64 id, .int .i64 cv, .int .i64 q] := by simp [dRow, ddRow]
     by_cases h40 : 40 < D.length + 1
     · have d7 : decide ((40 : Int) < ((D.length + 1 : Nat) : Int)) = true := decide_eq_true (by omega)
       have d8 : decide ((40 : Int) < (D.length : Int) + 1) = true := decide_eq_true (by omega)
       have d9 : decide (40 < D.length + 1) = true := decide_eq_true h40
       obtain ⟨a7, c7, e7, hs7, -, hc7, hm7⟩ := hS.row 3 rfl
       cases e7
       rw [← hdn] at hs7
       obtain ⟨b7, o7, ha7⟩ := Sl.cells hs7 (by intro e; have := congrArg List.length e; rw [dRow_len] at this; simp at this)
       subst ha7
       have hT := hs7.drop 3
       have h13 := dRow_drop (D ++ [Dd.mk id cv q]) 1 (by simp)
       rw [Nat.one_mul] at h13
       rw [h13] at hT
       have hne : ¬ c6 = 1 := by omega
       have hTc := hT
       have cCl := Lib.hid (dclone_any (In := fun _ => True) _ ((D ++ [Dd.mk id cv q]).drop 1) D.length (c6 - 1) _ ⟨hTc, by simp, by omega, by omega, fun _ _ => trivial⟩ (by omega))
       have hi1 : (1 : Int) ≤ (D.length : Int) + 1 := by omega
       clear hs7 hT h13 hTc h40
       go_wp2_with (first | (go_at_call 67; (with_reducible refine cCl.out.mono ?_); rintro _ w9 ⟨a9, c9, rfl, hk9⟩; have hS1 := hS.made hk9; clear hS hk9; have hS := hS1; clear hS1) | (with_reducible refine ld 1 hS rfl rfl rfl rfl rfl ?_) | (with_reducible refine sto 2 hS rfl rfl rfl rfl rfl rfl ?_; clear hS; intro w1 hS))
       go_ret
       refine ⟨rfl, a9, c9, ?_⟩
       have hl1 : ((D ++ [Dd.mk id cv q]).drop 1).length = D.length := by simp
       rw [hlD.out, if_pos (of_decide_eq_true d9), hEE.out, hdel.out, hl1]
       have h9 := hS.re5d
       rw [← hdel.out] at h9
       have h8 := h9.maptight 1 rfl Tryz.underlying3 hpr.out hpw.out
       rw [hdel.out] at h8
       exact h8
     · have d7 : decide ((40 : Int) < ((D.length + 1 : Nat) : Int)) = false := decide_eq_false (by omega)
       have d8 : decide ((40 : Int) < (D.length : Int) + 1) = false := decide_eq_false (by omega)
       have d9 : decide (40 < D.length + 1) = false := decide_eq_false h40
       go_wp2_with ((with_reducible refine ld 1 hS rfl rfl rfl rfl rfl ?_))
       go_ret
       refine ⟨rfl, a6, c6, ?_⟩
       rw [hlD.out, if_neg (of_decide_eq_false d9), hEE.out, hdel.out, hdn, List.length_append]
       have h9 := hS.drop
       rw [← hdel.out] at h9
       have h8 := h9.maptight 1 rfl Tryz.underlying3 hpr.out hpw.out
       rw [hdel.out] at h8
       exact h8
end Go.Proofs.YtneolmnpebiifaaGreatDoor
end
section
namespace Go.Ofp
theorem first_of (l : List Dd) (q : Int) : (∀ d ∈ l, q < d.seq) ∨ ∃ k, ∃ h : k < l.length, ¬ q < l[k].seq ∧ ∀ d ∈ l.take k, q < d.seq := by
 induction l with
 | nil => exact .inl (by simp)
 | cons d r ih =>
  by_cases h : q < d.seq
  · rcases ih with h1 | ⟨k, hk, h1, h2⟩
    · exact .inl fun x hx => by
       rcases List.mem_cons.1 hx with rfl | hx
       · exact h
       · exact h1 x hx
    · refine .inr ⟨k + 1, by simpa using hk, h1, fun x hx => ?_⟩
      rw [List.take_succ_cons] at hx
      rcases List.mem_cons.1 hx with rfl | hx
      · exact h
      · exact h2 x hx
  · exact .inr ⟨0, by simp, h, by simp⟩
open Go.RowKit
theorem St.neRow {w0 w : World} {F : List Nat} {L : List Ch} (h : St w0 F L w) (i j : Nat) {g1 g t e s n c m : Nat} {cs : Array Value} {xs : List Value} (hi : L[i]? = some (Ch.row e s (.slice (some ⟨g1, 0, none⟩) n c) m xs)) (hj : L[j]? = some (Ch.blk g t cs)) (hij : i ≠ j) : g ≠ g1 := fun h2 => h.apart i j _ _ hi hj hij g1 (by simp [Ch.row, Value.ownBlock]) (by simp [Ch.blk, h2])
end Go.Ofp
namespace Go.Proofs.YtneolmnpebiifaaGreatDoor
open Go.RowKit Go.Ofp
set_option maxHeartbeats 4000000
theorem strim_any (g gm : Nat) (s : ShS) (da : Option Addr) (dc : Nat) (q : Int) (w : World) (hA : St w (feet (shA g gm s da dc)) (shA g gm s da dc) w) (hok : ShOk s) :
 Calls Tryz.prog 54 #[.pointer (some ⟨g, 0, none⟩), .int .i64 q] w fun e w' => e = .returned (.tuple #[]) ∧ ∃ da' dc', St w (feet (shA g gm s da dc)) (shA g gm (s.trim q) da' dc') w' := by
 have hS := hA
 have hdl := hok.dlen
 have htr : s.trim q = ⟨s.next, s.m, keepD q s.dead⟩ := rfl
 rw [htr]
 clear htr hok hA
 generalize feet (shA g gm s da dc) = F at *
 obtain ⟨nx, M, D⟩ := s
 dsimp only at *
 have e0 : ∀ D da dc, shA g gm ⟨nx, M, D⟩ da dc = [Ch.blk g 101 #[.int .i64 nx, .map (some gm), .slice da D.length dc], Ch.map Tryz.prog 3 gm M.length (cdM cdRow M), Ch.row 91 3 (.slice da D.length dc) D.length (dRow D)] := fun _ _ _ => rfl
 rw [e0] at hS
 replace e0 := Lib.hid e0
 rcases first_of D q with hall | ⟨k, hk, hk1, hk2⟩
 · have hkeep : keepD q D = D := List.filter_eq_self.2 fun d hd => by simpa using hall d hd
   rw [hkeep]
   have cD := Lib.hid fun (B : Nat) (W : World) (hs : Sl W da (dRow D)) (hb : Boxed W B 3 (.int .i64 q)) => ddel_none D da D.length dc q B rfl (by omega) W hs hb hall
   clear hall hkeep
   go_enter Tryz.func54, Tryz.ntmps54
   go_wp2_with (first | (go_at_call 96; (with_reducible refine (cD.out _ _ (hS.rowsl 3 rfl) (hS.get 0 rfl)).mono ?_); rintro _ w9 ⟨rfl, hk9⟩; replace hS := hS.keepB hk9; clear hk9) | (with_reducible refine wpList_box1_st hS rfl rfl rfl ?_; clear hS; intro g1 w1 hS) | (with_reducible refine ld 1 hS rfl rfl rfl rfl rfl ?_) | (with_reducible refine sto 1 hS rfl rfl rfl rfl rfl rfl ?_; clear hS; intro w1 hS))
   exact bodyPost_end (results_none rfl _ _ _) rfl ⟨rfl, da, dc, by rw [e0.out]; exact hS.drop⟩
 · obtain ⟨a1, c1, e1, hs1, -⟩ := hS.row 2 rfl
   cases e1
   have hrow := hS.get 2 rfl
   obtain ⟨gd, ha1⟩ : ∃ gd, da = some ⟨gd, 0, none⟩ := by
    rcases hrow.2 with ⟨e, -⟩ | ⟨g', cap, cur, e, -⟩
    · obtain ⟨b, o, e2⟩ := Sl.cells hs1 (by intro e; have := congrArg List.length e; rw [dRow_len] at this; simp at this; omega)
      injection e with h1 h2 h3
      rw [h1] at e2
      cases e2
    · cases e
      exact ⟨g', rfl⟩
   subst ha1
   have cD : ∀ (B : Nat) (W : World), Boxed W B 3 (.int .i64 q) → B ≠ gd → St W (feet [Ch.row 91 3 (.slice (some ⟨gd, 0, none⟩) D.length dc) D.length (dRow D)]) [Ch.row 91 3 (.slice (some ⟨gd, 0, none⟩) D.length dc) D.length (dRow D)] W →
    Calls Tryz.prog 96 #[.slice (some ⟨gd, 0, none⟩) D.length dc, .func (.func 97) #[] #[.pointer (some ⟨B, 0, none⟩)]] W fun e w' => e = .returned (.slice (some ⟨gd, 0, none⟩) (keepD q D).length dc) ∧ St W (feet [Ch.row 91 3 (.slice (some ⟨gd, 0, none⟩) D.length dc) D.length (dRow D)]) [Ch.row 91 3 (.slice (some ⟨gd, 0, none⟩) (keepD q D).length dc) (keepD q D).length (dRow (keepD q D))] w' := fun B W hb hBg h => ddel_some D gd D.length dc q B rfl (by omega) W hb hBg h k hk hk1 hk2
   replace cD := Lib.hid cD
   clear hk1 hk2 hs1 hrow
   go_enter Tryz.func54, Tryz.ntmps54
   go_wp2_with (first | (go_at_call 96; (with_reducible refine (cD.out _ _ (hS.get 0 rfl) (hS.neRow 3 0 rfl rfl (by decide)) (hS.preM (A := [_, _, _]) (B := [Ch.row 91 3 (.slice (some ⟨gd, 0, none⟩) D.length dc) D.length (dRow D)]) (R := []))).mono ?_); rintro _ w9 ⟨rfl, hk9⟩; have hS1 := hS.callM (A := [_, _, _]) (B := [Ch.row 91 3 (.slice (some ⟨gd, 0, none⟩) D.length dc) D.length (dRow D)]) (R := []) hk9; clear hS hk9; have hS := hS1; clear hS1) | (with_reducible refine wpList_box1_st hS rfl rfl rfl ?_; clear hS; intro g1 w1 hS) | (with_reducible refine ld 1 hS rfl rfl rfl rfl rfl ?_) | (with_reducible refine sto 1 hS rfl rfl rfl rfl rfl rfl ?_; clear hS; intro w1 hS))
   exact bodyPost_end (results_none rfl _ _ _) rfl ⟨rfl, _, dc, by rw [e0.out]; exact hS.drop⟩
end Go.Proofs.YtneolmnpebiifaaGreatDoor
end
section
namespace Go.Ofp
open Go.RowKit
def exZ : Pt := ⟨1, 0, noF⟩
def exS1 : ShS := ⟨2, [exZ.fresh 1], []⟩
def exS2 : ShS := ⟨3, [exZ.fresh 1, exZ.fresh 2], []⟩
end Go.Ofp
namespace Go.Proofs.YtneolmnpebiifaaGreatDoor
open Go.RowKit Go.Ofp
set_option maxHeartbeats 4000000
theorem exZ_in : PtIn exZ := ⟨by decide, by decide, rfl, fun v hv => by
 have : v ∈ List.replicate 8 Vl.zero := hv
 rw [List.eq_of_mem_replicate this]
 exact ⟨by decide, by decide, Nat.zero_le _⟩⟩
theorem tab_feet {w0 w : World} {A B R : List Ch} (hS : St w0 [] (A ++ (B ++ R)) w) (ht : Tab w0) : 0 ∉ feet B := by
 intro h
 unfold feet at h
 obtain ⟨c, hc, hg⟩ := List.mem_flatMap.1 h
 have hm : c ∈ A ++ (B ++ R) := by simp [hc]
 obtain ⟨i, hi, e⟩ := List.getElem_of_mem hm
 have := (hS.own i c (by rw [List.getElem?_eq_getElem hi, e])).2 _ hg
 have h2 := ht.lt
 rcases this with h1 | h1
 · simp at h1
 · omega
theorem elem_pt : Elem Tryz.prog 42 (.agg #[.int .u32 0, .int .u32 0, .int .i64 0, .int .i64 0, .string ⟨#[]⟩, .int .i64 0, .int .i64 0, .string ⟨#[]⟩, .int .i64 0, .int .i64 0, .string ⟨#[]⟩, .int .i64 0, .int .i64 0, .string ⟨#[]⟩, .int .i64 0, .int .i64 0, .string ⟨#[]⟩, .int .i64 0, .int .i64 0, .string ⟨#[]⟩, .int .i64 0, .int .i64 0, .string ⟨#[]⟩, .int .i64 0, .int .i64 0, .string ⟨#[]⟩]) 26 264 := Elem.mk (by kernel_rfl) (by rfl) (by decide)
theorem build_pt1 (w : World) : (Instr.build 42 #[(0, .int .u32 1)]).run Tryz.prog w = .ok (.agg (ptRow exZ).toArray) w := by kernel_rfl
end Go.Proofs.YtneolmnpebiifaaGreatDoor
end
