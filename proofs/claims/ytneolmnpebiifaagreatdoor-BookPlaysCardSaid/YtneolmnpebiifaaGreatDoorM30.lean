import Derived.Test.YtneolmnpebiifaaGreatDoorM26
set_option linter.unusedVariables false
set_option linter.unusedSimpArgs false
set_option maxRecDepth 100000
section
namespace Go.Proofs.YtneolmnpebiifaaGreatDoor
open Go.RowKit Go.Ofp
set_option maxHeartbeats 4000000
abbrev rbB (g : Nat) (q v : Value) (L : List Value) : Ch := Ch.blk g 53 (q :: (L ++ [v])).toArray
def RsCb (g : Nat) (q v : Value) (s s' : ShS) (ca : Option Addr) (cc : Nat) (da : Option Addr) (dc : Nat) (w w' : World) : Prop := ∃ (ca' : Option Addr) (cc' : Nat) (L' : List Ch),
 St w [g] (rbB g q v (rsRow s' ca' cc' da dc) :: L') w' ∧ ((L' = [] ∧ s'.m = s.m ∧ ca' = ca ∧ cc' = cc) ∨ L' = [Ch.row 58 27 (.slice ca' s'.m.length cc') s'.m.length (s'.m.map cdRow).flatten])
theorem rstrim_b (g : Nat) (q0 v : Value) (s : ShS) (ca : Option Addr) (cc : Nat) (da : Option Addr) (dc : Nat) (q : Int) (w : World) (hS : St w [g] [rbB g q0 v (rsRow s ca cc da dc)] w) (hd : ∀ W, Fr [g] w W → LD W s da dc) (hdl : s.dead.length ≤ 1000) :
 Calls Tryz.prog 23 #[.pointer (some ⟨g, 1, none⟩), .int .i64 q] w fun e w' => e = .returned (.tuple #[]) ∧ ∃ da' dc', St w [g] [rbB g q0 v (rsRow (s.trim q) ca cc da' dc'), Ch.row 91 3 (.slice da' (s.trim q).dead.length dc') (s.trim q).dead.length (dRow (s.trim q).dead)] w' := by
 have ed := elem_dd
 have htr : s.trim q = ⟨s.next, s.m, keepD q s.dead⟩ := rfl
 rw [htr]
 clear htr
 obtain ⟨nx, M, D⟩ := s
 have e0 : ∀ D da dc, rsRow ⟨nx, M, D⟩ ca cc da dc = [.int .i64 nx, .slice ca M.length cc, .slice da D.length dc] := fun _ _ _ => rfl
 dsimp only [LD] at hd hdl ⊢
 rw [e0] at hS
 simp only [rbB, List.cons_append, List.nil_append] at hS
 have hlens := Lib.hid (show ∀ y ∈ D, (ddRow y).length = 3 from fun y hy => ddRow_len y)
 have hbase := Lib.hid ((hd w (Fr.refl _ _)).base (by decide) hlens.out)
 replace hd := Lib.hid hd
 replace e0 := Lib.hid e0
 generalize M.length = mn at *
 generalize hn : D.length = n at *
 replace hn := Lib.hid hn
 go_enter Tryz.func23, Tryz.ntmps23
 go_wp2_with (((with_reducible refine wpList_build0_st hS rfl rfl Tryz.underlying28 ed ?_); clear hS; intro g1 w3 hS))
 go_loopg [4, 5] n (fun gk vo vx wr => ∃ (j : Nat) (ao : Option Addr) (co : Nat), j + gk = n ∧ vx = .int .i64 j ∧ vo = .slice ao (keepD q (D.take j)).length co ∧ St w [g] [Ch.row 91 3 (.slice ao (keepD q (D.take j)).length co) (keepD q (D.take j)).length (dRow (keepD q (D.take j))), Ch.blk g 53 #[q0, .int .i64 nx, .slice ca mn cc, .slice da n dc, v]] wr)
 case atStart => exact ⟨0, _, _, Nat.zero_add _, rfl, rfl, hS⟩
 case round =>
  clear hS
  obtain ⟨j, ao, co, hj, rfl, rfl, hS⟩ := hrel
  by_cases hlt : j < n
  · have hjl : j < D.length := by rw [hn.out]; exact hlt
    obtain ⟨b, off, rfl⟩ := hbase.out (by omega)
    have hrow := (hd.out wr hS.fr).rowb hlens.out j hjl
    have z2 : wr.cell? ⟨b, off + j * 3 + 2, none⟩ = some (.int .i64 D[j].seq) := hrow 2 _ rfl
    have hnx := keepD_next D q j hjl
    have hkl : (keepD q (D.take j)).length ≤ 1000 := by
     have h1 := List.length_filter_le (fun d : Dd => decide (q < d.seq)) (D.take j)
     have h2 : (D.take j).length ≤ j := by simp; omega
     exact Nat.le_trans h1 (by omega)
    have hrl := ddRow_len D[j]
    have hro := ddRow_one D[j]
    by_cases he : q < D[j].seq
    · rw [if_pos he] at hnx
      have de : decide (q < D[j].seq) = true := decide_eq_true he
      have hq1 : dRow (keepD q (D.take (j + 1))) = dRow (keepD q (D.take j)) ++ ddRow D[j] := by rw [hnx]; simp [dRow]
      have hq2 : (keepD q (D.take (j + 1))).length = (keepD q (D.take j)).length + 1 := by rw [hnx]; simp
      replace hq1 := Lib.hid hq1
      replace hq2 := Lib.hid hq2
      clear hnx he
      generalize hKD : keepD q (D.take j) = KD at *
      generalize hKE : keepD q (D.take (j + 1)) = KE at *
      generalize dRow KD = KR at *
      generalize ddRow D[j] = RI at *
      generalize D[j].seq = sj at *
      go_wp2_with (first | (with_reducible refine wpList_rangerow (t := 91) (n := 3) hrow rfl rfl rfl (by kernel_rfl) (by kernel_rfl) hrl ?_) | (refine wpList_of_op fun K hK => op_build1_st (by with_unfolding_all rfl) hS rfl Tryz.underlying28 ed (cs := RI.toArray) rfl (by simp [hrl]) (by decide) ?_; intro g3 w3 hS1; refine hK _ _ ?_; clear hK hS; have hS := hS1; clear hS1) | ((with_reducible refine wpList_app_st (news := RI) (m := 1) 1 hS rfl rfl rfl Tryz.underlying28 ed rfl (Src.slice Tryz.underlying28 (hS.blksl2 0 rfl) (by simp [hrl])) rfl (fun u hu => List.all_eq_true.1 hro u hu) (by omega) (by unfold maxLen; omega) ?_); intro v6 w6 hS1; clear hS; simp only [List.set_cons_zero, List.set_cons_succ] at hS1; obtain ⟨a6, c6, rfl, -⟩ := hS1.row 1 rfl; have hS := hS1; clear hS1) | (with_reducible refine ld 1 hS rfl rfl rfl rfl rfl ?_))
      go_roundg (n - (j + 1))
      case measure => omega
      case rel => exact ⟨j + 1, a6, c6, by omega, by go_num, by rw [hKE, hq2.out], by rw [hKE, hq1.out, hq2.out]; exact hS.drop⟩
    · rw [if_neg he, List.append_nil] at hnx
      have de : decide (q < D[j].seq) = false := decide_eq_false he
      replace hnx := Lib.hid hnx
      clear he hrow hrl hro
      generalize D[j].seq = sj at *
      go_wp2_with ((with_reducible refine ld 1 hS rfl rfl rfl rfl rfl ?_))
      go_roundg (n - (j + 1))
      case measure => omega
      case rel => exact ⟨j + 1, ao, co, by omega, by go_num, by rw [hnx.out], by rw [hnx.out]; exact hS⟩
  · have e : D.take j = D := List.take_of_length_le (by rw [hn.out]; omega)
    rw [e] at hS
    rw [e]
    generalize hKD : keepD q D = KD at *
    replace hKD := Lib.hid hKD
    clear e
    go_wp2_with (first | (with_reducible refine ld 1 hS rfl rfl rfl rfl rfl ?_) | (with_reducible refine sto 1 hS rfl rfl rfl rfl rfl rfl ?_; clear hS; intro w1 hS))
    exact bodyPost_end (results_none rfl _ _ _) rfl ⟨rfl, ao, co, by rw [e0.out, hKD.out]; exact hS.swap⟩
theorem rsadd_b (g : Nat) (q v : Value) (s : ShS) (ca : Option Addr) (cc : Nat) (da : Option Addr) (dc : Nat) (p : Pt) (hp : PtIn p) (w : World) (hS : St w [g] [rbB g q v (rsRow s ca cc da dc)] w) (hl : ∀ W, Fr [g] w W → LC W s ca cc) (hnx : 0 ≤ s.next ∧ s.next ≤ 4611686018427387904) :
 Calls Tryz.prog 83 #[.pointer (some ⟨g, 1, none⟩), .agg (ptRow p).toArray] w fun e w' => e = .returned (sgV (s.add p).2) ∧ RsCb g q v s (s.add p).1 ca cc da dc w w' := by
 have ec := elem_card
 have cC := fun W => rcp_any p hp.len hp.mask hp.lab W
 have cF := fun W => rfr_any s.next p hp.mask hp.len W
 have hpl := ptRow_len p hp.len
 have hsz : sizeB Tryz.prog 42 (ptRow p).toArray.size = true := by rw [List.size_toArray, hpl]; kernel_rfl
 have hfl := cdRow_lenT (p.fresh s.next) (fresh_f p s.next)
 have hfo := cdRow_oneT (p.fresh s.next)
 obtain ⟨FT, hFT⟩ : ∃ FT, cdRow (p.fresh s.next) = FT := ⟨_, rfl⟩
 have hadd : s.add p = if p.check ≠ 0 then (s, Cd.none 0, p.check) else if 48 ≤ s.m.length ∨ 1073741824 ≤ s.next then (s, Cd.none 0, 8) else (⟨s.next + 1, s.m ++ [p.fresh s.next], s.dead⟩, p.fresh s.next, 0) := rfl
 have hV : sgV (p.fresh s.next, 0) = .tuple #[.agg (cdRow (p.fresh s.next)).toArray, .int .i64 0] := rfl
 have hmr : ((s.m ++ [p.fresh s.next]).map cdRow).flatten = (s.m.map cdRow).flatten ++ cdRow (p.fresh s.next) := by simp
 have hml : ∀ W, LC W s ca cc → ((s.m.map cdRow).flatten).length = s.m.length * 27 := fun W h => by
  have : ∀ l : List Cd, (∀ x ∈ l, x.f.length = 8) → ((l.map cdRow).flatten).length = l.length * 27 := by
   intro l
   induction l with
   | nil => intro _; rfl
   | cons c r ih => intro h; simp only [List.map_cons, List.flatten_cons, List.length_append, cdRow_lenT c (h c (by simp)), ih fun x hx => h x (by simp [hx]), List.length_cons]; omega
  exact this _ h.mem
 have hmo : ∀ u ∈ (s.m.map cdRow).flatten, u.oneCell' = true := by
  intro u hu
  obtain ⟨r, hr, hur⟩ := List.mem_flatten.1 hu
  obtain ⟨c, _, rfl⟩ := List.mem_map.1 hr
  exact List.all_eq_true.1 (cdRow_oneT c) u hur
 have hmn := hml w (hl w (Fr.refl _ _))
 have hsl := fun W h => (hl W h).sl
 rw [hadd]
 rw [hFT] at cF hfl hfo hV hmr
 replace cF := Lib.hid cF
 replace hV := Lib.hid hV
 replace hmr := Lib.hid hmr
 replace hmo := Lib.hid hmo
 replace hmn := Lib.hid hmn
 replace hsl := Lib.hid hsl
 clear hadd hFT hp hml hl
 obtain ⟨nx, M, D⟩ := s
 dsimp only at *
 have e0 : ∀ nx M ca cc, rsRow ⟨nx, M, D⟩ ca cc da dc = [.int .i64 nx, .slice ca M.length cc, .slice da D.length dc] := fun _ _ _ _ => rfl
 rw [e0] at hS
 simp only [rbB, List.cons_append, List.nil_append] at hS
 replace e0 := Lib.hid e0
 generalize hfr : p.fresh nx = fr at *
 generalize (M.map cdRow).flatten = MR at *
 replace hfr := Lib.hid hfr
 have hwn : IntKind.i64.wrap (nx + 1) = nx + 1 := IntWalk.i64_in _ (by omega)
 generalize ptRow p = RP at *
 have hsame : ∀ W (A B : Ch), St w [g] [A, B, Ch.blk g 53 #[q, .int .i64 nx, .slice ca M.length cc, .slice da D.length dc, v]] W → RsCb g q v ⟨nx, M, D⟩ ⟨nx, M, D⟩ ca cc da dc w W := fun W A B h => ⟨ca, cc, [], by rw [e0.out]; exact h.drop.drop, .inl ⟨rfl, rfl, rfl, rfl⟩⟩
 replace hsame := Lib.hid hsame
 by_cases hck : p.check = 0
 case neg =>
  rw [if_pos hck]
  have b1 : (p.check != 0) = true := by simpa using hck
  clear hck
  generalize p.check = ck at *
  replace cC := Lib.hid cC
  go_enter Tryz.func83, Tryz.ntmps83
  go_wp2_with (first | (go_at_call 129; (with_reducible refine (cC.out _).mono ?_); rintro _ w3 ⟨rfl, hk9⟩; replace hS := hS.keepB hk9; clear hk9; have c0 : World.cell? _ ⟨g, 1, none⟩ = some (.int .i64 nx) := hS.cell 2 rfl 1) | (with_reducible refine wpList_box_st hS rfl rfl rfl ?_; clear hS; intro gp w1 hS) | ((with_reducible refine wpList_loadall_st 1 hS rfl rfl rfl rfl ?_ hsz ?_); focus (simp [rowB, go_sem]; done)) | (with_reducible refine al hS rfl rfl ?_; clear hS; intro g1 w1 hS) | (with_reducible refine stor 0 hS rfl rfl rfl rfl rfl rfl rfl rfl ?_; clear hS; intro w1 hS))
  rw [sgV_zero]
  exact bodyPost_ret (v := .tuple #[.agg #[.int .i64 0, .int .i64 0, .int .u32 0, .int .i64 0, .int .i64 0, .string ⟨#[]⟩, .int .i64 0, .int .i64 0, .string ⟨#[]⟩, .int .i64 0, .int .i64 0, .string ⟨#[]⟩, .int .i64 0, .int .i64 0, .string ⟨#[]⟩, .int .i64 0, .int .i64 0, .string ⟨#[]⟩, .int .i64 0, .int .i64 0, .string ⟨#[]⟩, .int .i64 0, .int .i64 0, .string ⟨#[]⟩, .int .i64 0, .int .i64 0, .string ⟨#[]⟩], .int .i64 ck]) (results_blk_tmp Tryz.results83 rfl hS 0 rfl (by kernel_rfl) (by kernel_rfl) rfl) rfl ⟨rfl, hsame.out _ _ _ hS⟩
 rw [if_neg (by simp [hck])]
 rw [hck] at cC
 replace cC := Lib.hid cC
 by_cases h48 : 48 ≤ M.length
 · rw [if_pos (.inl h48)]
   have d48 : decide ((48 : Int) ≤ (M.length : Int)) = true := decide_eq_true (by omega)
   have d48b : decide (48 ≤ M.length) = true := decide_eq_true h48
   clear h48 hck
   go_enter Tryz.func83, Tryz.ntmps83
   go_wp2_with (first | (go_at_call 129; (with_reducible refine (cC.out _).mono ?_); rintro _ w3 ⟨rfl, hk9⟩; replace hS := hS.keepB hk9; clear hk9; have c0 : World.cell? _ ⟨g, 1, none⟩ = some (.int .i64 nx) := hS.cell 2 rfl 1) | (with_reducible refine wpList_box_st hS rfl rfl rfl ?_; clear hS; intro gp w1 hS) | ((with_reducible refine wpList_loadall_st 1 hS rfl rfl rfl rfl ?_ hsz ?_); focus (simp [rowB, go_sem]; done)) | (with_reducible refine al hS rfl rfl ?_; clear hS; intro g1 w1 hS) | (with_reducible refine stor 0 hS rfl rfl rfl rfl rfl rfl rfl rfl ?_; clear hS; intro w1 hS) | (with_reducible refine ld 2 hS rfl rfl rfl rfl rfl ?_))
   rw [sgV_zero]
   exact bodyPost_ret (v := .tuple #[.agg #[.int .i64 0, .int .i64 0, .int .u32 0, .int .i64 0, .int .i64 0, .string ⟨#[]⟩, .int .i64 0, .int .i64 0, .string ⟨#[]⟩, .int .i64 0, .int .i64 0, .string ⟨#[]⟩, .int .i64 0, .int .i64 0, .string ⟨#[]⟩, .int .i64 0, .int .i64 0, .string ⟨#[]⟩, .int .i64 0, .int .i64 0, .string ⟨#[]⟩, .int .i64 0, .int .i64 0, .string ⟨#[]⟩, .int .i64 0, .int .i64 0, .string ⟨#[]⟩], .int .i64 8]) (results_blk_tmp Tryz.results83 rfl hS 0 rfl (by kernel_rfl) (by kernel_rfl) rfl) rfl ⟨rfl, hsame.out _ _ _ hS⟩
 have d48 : decide ((48 : Int) ≤ (M.length : Int)) = false := decide_eq_false (by omega)
 have d48b : decide (48 ≤ M.length) = false := decide_eq_false h48
 by_cases hid : 1073741824 ≤ nx
 · rw [if_pos (.inr hid)]
   have dnx : decide (1073741824 ≤ nx) = true := decide_eq_true hid
   clear h48 hck hid
   go_enter Tryz.func83, Tryz.ntmps83
   go_wp2_with (first | (go_at_call 129; (with_reducible refine (cC.out _).mono ?_); rintro _ w3 ⟨rfl, hk9⟩; replace hS := hS.keepB hk9; clear hk9; have c0 : World.cell? _ ⟨g, 1, none⟩ = some (.int .i64 nx) := hS.cell 2 rfl 1) | (with_reducible refine wpList_box_st hS rfl rfl rfl ?_; clear hS; intro gp w1 hS) | ((with_reducible refine wpList_loadall_st 1 hS rfl rfl rfl rfl ?_ hsz ?_); focus (simp [rowB, go_sem]; done)) | (with_reducible refine al hS rfl rfl ?_; clear hS; intro g1 w1 hS) | (with_reducible refine stor 0 hS rfl rfl rfl rfl rfl rfl rfl rfl ?_; clear hS; intro w1 hS) | (with_reducible refine ld 2 hS rfl rfl rfl rfl rfl ?_))
   rw [sgV_zero]
   exact bodyPost_ret (v := .tuple #[.agg #[.int .i64 0, .int .i64 0, .int .u32 0, .int .i64 0, .int .i64 0, .string ⟨#[]⟩, .int .i64 0, .int .i64 0, .string ⟨#[]⟩, .int .i64 0, .int .i64 0, .string ⟨#[]⟩, .int .i64 0, .int .i64 0, .string ⟨#[]⟩, .int .i64 0, .int .i64 0, .string ⟨#[]⟩, .int .i64 0, .int .i64 0, .string ⟨#[]⟩, .int .i64 0, .int .i64 0, .string ⟨#[]⟩, .int .i64 0, .int .i64 0, .string ⟨#[]⟩], .int .i64 8]) (results_blk_tmp Tryz.results83 rfl hS 0 rfl (by kernel_rfl) (by kernel_rfl) rfl) rfl ⟨rfl, hsame.out _ _ _ hS⟩
 have dnx : decide (1073741824 ≤ nx) = false := decide_eq_false hid
 rw [if_neg (by omega)]
 have hrp : (RP.toArray.toList.drop 0).take 26 = RP := by simp [← hpl]
 have hrd : (FT.toArray.toList.drop 0).take 27 = FT := by simp [← hfl]
 have hsf : sizeB Tryz.prog 58 FT.toArray.size = true := by rw [List.size_toArray, hfl]; kernel_rfl
 clear hid hck
 go_enter Tryz.func83, Tryz.ntmps83
 go_wp2_with (first | (go_at_call 129; (with_reducible refine (cC.out _).mono ?_); rintro _ w3 ⟨rfl, hk9⟩; replace hS := hS.keepB hk9; clear hk9; have c0 : World.cell? _ ⟨g, 1, none⟩ = some (.int .i64 nx) := hS.cell 2 rfl 1) | (with_reducible refine wpList_box_st hS rfl rfl rfl ?_; clear hS; intro gp w1 hS) | ((with_reducible refine wpList_loadall_st 1 hS rfl rfl rfl rfl ?_ hsz ?_); focus (simp [rowB, go_sem]; done)) | (with_reducible refine al hS rfl rfl ?_; clear hS; intro g1 w1 hS) | (with_reducible refine ld 2 hS rfl rfl rfl rfl rfl ?_))
 clear c0
 revert hS
 apply wp_cut1
 · intro hS
   have kg := hS.kblk 2 rfl
   have kp := hS.krow (P := Tryz.prog) (j := 0) 1 rfl (t := 42) (by kernel_rfl) (n := 26) (by kernel_rfl) hrp hpl
   refine mixs_begin (by kernel_rfl) hS ?_
   clear hS
   intro w2 hS
   refine tk 0 ?_
   refine tk 1 ?_
   refine tk 2 ?_
   refine tk 3 ?_
   refine tkr 4 kp ?_
   refine mixs_two 5 6 (by kernel_rfl) rfl rfl (fun K hK => ?_) (fun K hK => ?_)
   ·
    go_simp
    (go_at_call 130; (with_reducible refine (cF.out _).mono ?_); rintro _ w3 ⟨rfl, hk9⟩; replace hS := hS.keepB hk9; clear hk9)
    try clear hC
    refine cl hK (fun hC => ?_)
    clear hK K
    refine mixs_one 6 (by kernel_rfl) rfl (fun K hK => ?_)
    refine op_alloc_st (by kernel_rfl) rfl (by assumption) hS ?_
    clear hS; intro g1 w1 hS
    try clear hC
    refine cl hK (fun hC => ?_)
    clear hK K
    refine mixs_one 7 (by kernel_rfl) rfl (fun K hK => ?_)
    (refine op_storerow_st (vs := FT) (n := 27) (by kernel_rfl) 0 hS rfl rfl rfl (by kernel_rfl) rfl hfl hfo rfl ?_; clear hS; intro w1 hS; try simp only [List.set_cons_zero, List.set_cons_succ, List.setIfInBounds_toArray, List.take_succ_cons, List.take_zero, List.drop_succ_cons, List.drop_zero, List.nil_append, List.cons_append, List.append_nil, List.drop_nil, List.take_nil, List.length_cons, List.length_nil, Nat.zero_add, Nat.add_zero, Nat.reduceAdd] at hS)
    try clear hC
    refine cl hK (fun hC => ?_)
    clear hK K
    refine wpAnyH_done (by kernel_rfl) ?_ _
    exact ⟨g1, rfl, hS⟩
   ·
    refine op_alloc_st (by kernel_rfl) rfl (by assumption) hS ?_
    clear hS; intro g1 w1 hS
    try clear hC
    refine cl hK (fun hC => ?_)
    clear hK K
    refine mixs_one 5 (by kernel_rfl) rfl (fun K hK => ?_)
    go_simp
    (go_at_call 130; (with_reducible refine (cF.out _).mono ?_); rintro _ w3 ⟨rfl, hk9⟩; replace hS := hS.keepB hk9; clear hk9)
    try clear hC
    refine cl hK (fun hC => ?_)
    clear hK K
    refine mixs_one 7 (by kernel_rfl) rfl (fun K hK => ?_)
    (refine op_storerow_st (vs := FT) (n := 27) (by kernel_rfl) 0 hS rfl rfl rfl (by kernel_rfl) rfl hfl hfo rfl ?_; clear hS; intro w1 hS; try simp only [List.set_cons_zero, List.set_cons_succ, List.setIfInBounds_toArray, List.take_succ_cons, List.take_zero, List.drop_succ_cons, List.drop_zero, List.nil_append, List.cons_append, List.append_nil, List.drop_nil, List.take_nil, List.length_cons, List.length_nil, Nat.zero_add, Nat.add_zero, Nat.reduceAdd] at hS)
    try clear hC
    refine cl hK (fun hC => ?_)
    clear hK K
    refine wpAnyH_done (by kernel_rfl) ?_ _
    exact ⟨g1, rfl, hS⟩
 intro g7 w7 hS
 go_wp2_with (first | (with_reducible refine ld 3 hS rfl rfl rfl rfl rfl ?_) | (with_reducible refine sto 3 hS rfl rfl rfl rfl rfl rfl ?_; clear hS; intro w1 hS))
 have hS1 := hS.re4
 clear hS
 have hS := hS1
 clear hS1
 refine mixs_beginC 0 (by kernel_rfl) hS rfl ?_
 clear hS
 intro w2 hS hC
 have kC := hC.kblk 0 rfl
 have kr := hC.krow (P := Tryz.prog) (j := 0) 0 rfl (t := 58) (by kernel_rfl) (n := 27) (by kernel_rfl) hrd hfl
 refine tk 0 ?_
 refine tk 2 ?_
 refine tk 3 ?_
 refine tk 4 ?_
 refine tkr 7 kr ?_
 refine mixs_three 1 5 8 (by kernel_rfl) rfl rfl rfl (fun K hK => ?_) (fun K hK => ?_) (fun K hK => ?_)
 ·
  (refine op_build0w_st (by kernel_rfl) hS rfl Tryz.underlying27 ec ?_; clear hS; intro g3 w3 hS)
  try clear hC
  refine cl hK (fun hC => ?_)
  clear hK K
  refine mixs_two 5 8 (by kernel_rfl) rfl rfl (fun K hK => ?_) (fun K hK => ?_)
  ·
   refine op_load_st (by kernel_rfl) 2 hS rfl rfl rfl (by simp [scalarB, go_sem]) rfl ?_
   try clear hC
   refine cl hK (fun hC => ?_)
   clear hK K
   refine mixs_two 6 8 (by kernel_rfl) rfl rfl (fun K hK => ?_) (fun K hK => ?_)
   ·
    (refine op_app_st (by kernel_rfl) 0 (m := M.length) (news := MR) hS rfl rfl Tryz.underlying27 ec rfl (Src.slice Tryz.underlying27 (hsl.out _ hS.fr) hmn.out) rfl hmo.out (by omega) (by unfold maxLen; omega) ?_; intro v6 w6 hS1; clear hS; simp only [List.set_cons_zero, Nat.zero_add, List.nil_append] at hS1; obtain ⟨a5, c5, rfl, -⟩ := hS1.row 0 rfl; have hS := hS1; clear hS1)
    try clear hC
    refine cl hK (fun hC => ?_)
    clear hK K
    refine mixs_one 8 (by kernel_rfl) rfl (fun K hK => ?_)
    (refine op_build1_st (by kernel_rfl) hS rfl Tryz.underlying27 ec (cs := FT.toArray) rfl (by simp [hfl]) (by decide) ?_; clear hS; intro g4 w4 hS)
    try clear hC
    refine cl hK (fun hC => ?_)
    clear hK K
    refine mixs_one 9 (by kernel_rfl) rfl (fun K hK => ?_)
    (refine op_app_st (by kernel_rfl) 1 (m := 1) (news := FT) hS rfl rfl Tryz.underlying27 ec rfl (Src.slice Tryz.underlying27 (hS.blksl2 0 rfl) (by simp [hfl])) rfl (fun u hu => List.all_eq_true.1 hfo u hu) (by omega) (by unfold maxLen; omega) ?_; intro v6 w6 hS1; clear hS; simp only [List.set_cons_zero, List.set_cons_succ] at hS1; obtain ⟨a6, c6, rfl, -⟩ := hS1.row 1 rfl; have hS := hS1.drop; clear hS1)
    try clear hC
    refine cl hK (fun hC => ?_)
    clear hK K
    refine tk 10 ?_
    refine tk 11 ?_
    refine mixs_one 12 (by kernel_rfl) rfl (fun K hK => ?_)
    refine op_store_st (by kernel_rfl) 2 hS rfl rfl rfl (by kernel_rfl) rfl rfl ?_
    clear hS; intro w1 hS; try simp only [List.set_cons_zero, List.set_cons_succ, List.setIfInBounds_toArray, List.take_succ_cons, List.take_zero, List.drop_succ_cons, List.drop_zero, List.nil_append, List.cons_append, List.append_nil, List.drop_nil, List.take_nil, List.length_cons, List.length_nil, Nat.zero_add, Nat.add_zero, Nat.reduceAdd] at hS
    try clear hC
    refine cl hK (fun hC => ?_)
    clear hK K
    refine wpAnyH_done (by kernel_rfl) ?_ _
    clear kr
    try clear hC
    go_wp2_with (first | ((with_reducible refine wpList_loadrow_st (t := 58) (n := 27) (j := 0) (vs := FT) 1 hS rfl rfl rfl rfl (by kernel_rfl) (by kernel_rfl) hrd hfl ?_)) | ((with_reducible refine wpList_storerow_st (t := 58) (n := 27) (vs := FT) 3 hS rfl rfl rfl rfl (by kernel_rfl) rfl hfl hfo (by kernel_rfl) ?_); clear hS; intro w1 hS; try simp only [List.set_cons_zero, List.set_cons_succ, List.setIfInBounds_toArray, List.take_succ_cons, List.take_zero, List.drop_succ_cons, List.drop_zero, List.nil_append, List.cons_append, List.append_nil, List.drop_nil, List.take_nil, List.length_cons, List.length_nil, Nat.zero_add, Nat.add_zero, Nat.reduceAdd] at hS))
    rw [hV.out]
    refine bodyPost_ret (v := .tuple #[.agg FT.toArray, .int .i64 0]) (results_blk_tmp Tryz.results83 rfl hS 3 rfl (by kernel_rfl) hsf rfl) rfl ⟨rfl, a6, c6, [_], ?_, .inr rfl⟩
    rw [e0.out, hmr.out, List.length_append]
    exact hS.drop1.fore2.swap
   ·
    (refine op_build1_st (by kernel_rfl) hS rfl Tryz.underlying27 ec (cs := FT.toArray) rfl (by simp [hfl]) (by decide) ?_; clear hS; intro g4 w4 hS)
    try clear hC
    refine cl hK (fun hC => ?_)
    clear hK K
    refine mixs_one 6 (by kernel_rfl) rfl (fun K hK => ?_)
    (refine op_app_st (by kernel_rfl) 1 (m := M.length) (news := MR) hS rfl rfl Tryz.underlying27 ec rfl (Src.slice Tryz.underlying27 (hsl.out _ hS.fr) hmn.out) rfl hmo.out (by omega) (by unfold maxLen; omega) ?_; intro v6 w6 hS1; clear hS; simp only [List.set_cons_zero, List.set_cons_succ, Nat.zero_add, List.nil_append] at hS1; obtain ⟨a5, c5, rfl, -⟩ := hS1.row 1 rfl; have hS := hS1; clear hS1)
    try clear hC
    refine cl hK (fun hC => ?_)
    clear hK K
    refine mixs_one 9 (by kernel_rfl) rfl (fun K hK => ?_)
    (refine op_app_st (by kernel_rfl) 1 (m := 1) (news := FT) hS rfl rfl Tryz.underlying27 ec rfl (Src.slice Tryz.underlying27 (hS.blksl2 0 rfl) (by simp [hfl])) rfl (fun u hu => List.all_eq_true.1 hfo u hu) (by omega) (by unfold maxLen; omega) ?_; intro v6 w6 hS1; clear hS; simp only [List.set_cons_zero, List.set_cons_succ] at hS1; obtain ⟨a6, c6, rfl, -⟩ := hS1.row 1 rfl; have hS := hS1.drop; clear hS1)
    try clear hC
    refine cl hK (fun hC => ?_)
    clear hK K
    refine tk 10 ?_
    refine tk 11 ?_
    refine mixs_one 12 (by kernel_rfl) rfl (fun K hK => ?_)
    refine op_store_st (by kernel_rfl) 2 hS rfl rfl rfl (by kernel_rfl) rfl rfl ?_
    clear hS; intro w1 hS; try simp only [List.set_cons_zero, List.set_cons_succ, List.setIfInBounds_toArray, List.take_succ_cons, List.take_zero, List.drop_succ_cons, List.drop_zero, List.nil_append, List.cons_append, List.append_nil, List.drop_nil, List.take_nil, List.length_cons, List.length_nil, Nat.zero_add, Nat.add_zero, Nat.reduceAdd] at hS
    try clear hC
    refine cl hK (fun hC => ?_)
    clear hK K
    refine wpAnyH_done (by kernel_rfl) ?_ _
    clear kr
    try clear hC
    go_wp2_with (first | ((with_reducible refine wpList_loadrow_st (t := 58) (n := 27) (j := 0) (vs := FT) 1 hS rfl rfl rfl rfl (by kernel_rfl) (by kernel_rfl) hrd hfl ?_)) | ((with_reducible refine wpList_storerow_st (t := 58) (n := 27) (vs := FT) 3 hS rfl rfl rfl rfl (by kernel_rfl) rfl hfl hfo (by kernel_rfl) ?_); clear hS; intro w1 hS; try simp only [List.set_cons_zero, List.set_cons_succ, List.setIfInBounds_toArray, List.take_succ_cons, List.take_zero, List.drop_succ_cons, List.drop_zero, List.nil_append, List.cons_append, List.append_nil, List.drop_nil, List.take_nil, List.length_cons, List.length_nil, Nat.zero_add, Nat.add_zero, Nat.reduceAdd] at hS))
    rw [hV.out]
    refine bodyPost_ret (v := .tuple #[.agg FT.toArray, .int .i64 0]) (results_blk_tmp Tryz.results83 rfl hS 3 rfl (by kernel_rfl) hsf rfl) rfl ⟨rfl, a6, c6, [_], ?_, .inr rfl⟩
    rw [e0.out, hmr.out, List.length_append]
    exact hS.drop1.fore2.swap
  ·
   (refine op_build1_st (by kernel_rfl) hS rfl Tryz.underlying27 ec (cs := FT.toArray) rfl (by simp [hfl]) (by decide) ?_; clear hS; intro g4 w4 hS)
   try clear hC
   refine cl hK (fun hC => ?_)
   clear hK K
   refine mixs_one 5 (by kernel_rfl) rfl (fun K hK => ?_)
   refine op_load_st (by kernel_rfl) 3 hS rfl rfl rfl (by simp [scalarB, go_sem]) rfl ?_
   try clear hC
   refine cl hK (fun hC => ?_)
   clear hK K
   refine mixs_one 6 (by kernel_rfl) rfl (fun K hK => ?_)
   (refine op_app_st (by kernel_rfl) 1 (m := M.length) (news := MR) hS rfl rfl Tryz.underlying27 ec rfl (Src.slice Tryz.underlying27 (hsl.out _ hS.fr) hmn.out) rfl hmo.out (by omega) (by unfold maxLen; omega) ?_; intro v6 w6 hS1; clear hS; simp only [List.set_cons_zero, List.set_cons_succ, Nat.zero_add, List.nil_append] at hS1; obtain ⟨a5, c5, rfl, -⟩ := hS1.row 1 rfl; have hS := hS1; clear hS1)
   try clear hC
   refine cl hK (fun hC => ?_)
   clear hK K
   refine mixs_one 9 (by kernel_rfl) rfl (fun K hK => ?_)
   (refine op_app_st (by kernel_rfl) 1 (m := 1) (news := FT) hS rfl rfl Tryz.underlying27 ec rfl (Src.slice Tryz.underlying27 (hS.blksl2 0 rfl) (by simp [hfl])) rfl (fun u hu => List.all_eq_true.1 hfo u hu) (by omega) (by unfold maxLen; omega) ?_; intro v6 w6 hS1; clear hS; simp only [List.set_cons_zero, List.set_cons_succ] at hS1; obtain ⟨a6, c6, rfl, -⟩ := hS1.row 1 rfl; have hS := hS1.drop; clear hS1)
   try clear hC
   refine cl hK (fun hC => ?_)
   clear hK K
   refine tk 10 ?_
   refine tk 11 ?_
   refine mixs_one 12 (by kernel_rfl) rfl (fun K hK => ?_)
   refine op_store_st (by kernel_rfl) 2 hS rfl rfl rfl (by kernel_rfl) rfl rfl ?_
   clear hS; intro w1 hS; try simp only [List.set_cons_zero, List.set_cons_succ, List.setIfInBounds_toArray, List.take_succ_cons, List.take_zero, List.drop_succ_cons, List.drop_zero, List.nil_append, List.cons_append, List.append_nil, List.drop_nil, List.take_nil, List.length_cons, List.length_nil, Nat.zero_add, Nat.add_zero, Nat.reduceAdd] at hS
   try clear hC
   refine cl hK (fun hC => ?_)
   clear hK K
   refine wpAnyH_done (by kernel_rfl) ?_ _
   clear kr
   try clear hC
   go_wp2_with (first | ((with_reducible refine wpList_loadrow_st (t := 58) (n := 27) (j := 0) (vs := FT) 1 hS rfl rfl rfl rfl (by kernel_rfl) (by kernel_rfl) hrd hfl ?_)) | ((with_reducible refine wpList_storerow_st (t := 58) (n := 27) (vs := FT) 3 hS rfl rfl rfl rfl (by kernel_rfl) rfl hfl hfo (by kernel_rfl) ?_); clear hS; intro w1 hS; try simp only [List.set_cons_zero, List.set_cons_succ, List.setIfInBounds_toArray, List.take_succ_cons, List.take_zero, List.drop_succ_cons, List.drop_zero, List.nil_append, List.cons_append, List.append_nil, List.drop_nil, List.take_nil, List.length_cons, List.length_nil, Nat.zero_add, Nat.add_zero, Nat.reduceAdd] at hS))
   rw [hV.out]
   refine bodyPost_ret (v := .tuple #[.agg FT.toArray, .int .i64 0]) (results_blk_tmp Tryz.results83 rfl hS 3 rfl (by kernel_rfl) hsf rfl) rfl ⟨rfl, a6, c6, [_], ?_, .inr rfl⟩
   rw [e0.out, hmr.out, List.length_append]
   exact hS.drop1.fore2.swap
 ·
  refine op_load_st (by kernel_rfl) 1 hS rfl rfl rfl (by simp [scalarB, go_sem]) rfl ?_
  try clear hC
  refine cl hK (fun hC => ?_)
  clear hK K
  refine mixs_two 1 8 (by kernel_rfl) rfl rfl (fun K hK => ?_) (fun K hK => ?_)
  ·
   (refine op_build0w_st (by kernel_rfl) hS rfl Tryz.underlying27 ec ?_; clear hS; intro g3 w3 hS)
   try clear hC
   refine cl hK (fun hC => ?_)
   clear hK K
   refine mixs_two 6 8 (by kernel_rfl) rfl rfl (fun K hK => ?_) (fun K hK => ?_)
   ·
    (refine op_app_st (by kernel_rfl) 0 (m := M.length) (news := MR) hS rfl rfl Tryz.underlying27 ec rfl (Src.slice Tryz.underlying27 (hsl.out _ hS.fr) hmn.out) rfl hmo.out (by omega) (by unfold maxLen; omega) ?_; intro v6 w6 hS1; clear hS; simp only [List.set_cons_zero, Nat.zero_add, List.nil_append] at hS1; obtain ⟨a5, c5, rfl, -⟩ := hS1.row 0 rfl; have hS := hS1; clear hS1)
    try clear hC
    refine cl hK (fun hC => ?_)
    clear hK K
    refine mixs_one 8 (by kernel_rfl) rfl (fun K hK => ?_)
    (refine op_build1_st (by kernel_rfl) hS rfl Tryz.underlying27 ec (cs := FT.toArray) rfl (by simp [hfl]) (by decide) ?_; clear hS; intro g4 w4 hS)
    try clear hC
    refine cl hK (fun hC => ?_)
    clear hK K
    refine mixs_one 9 (by kernel_rfl) rfl (fun K hK => ?_)
    (refine op_app_st (by kernel_rfl) 1 (m := 1) (news := FT) hS rfl rfl Tryz.underlying27 ec rfl (Src.slice Tryz.underlying27 (hS.blksl2 0 rfl) (by simp [hfl])) rfl (fun u hu => List.all_eq_true.1 hfo u hu) (by omega) (by unfold maxLen; omega) ?_; intro v6 w6 hS1; clear hS; simp only [List.set_cons_zero, List.set_cons_succ] at hS1; obtain ⟨a6, c6, rfl, -⟩ := hS1.row 1 rfl; have hS := hS1.drop; clear hS1)
    try clear hC
    refine cl hK (fun hC => ?_)
    clear hK K
    refine tk 10 ?_
    refine tk 11 ?_
    refine mixs_one 12 (by kernel_rfl) rfl (fun K hK => ?_)
    refine op_store_st (by kernel_rfl) 2 hS rfl rfl rfl (by kernel_rfl) rfl rfl ?_
    clear hS; intro w1 hS; try simp only [List.set_cons_zero, List.set_cons_succ, List.setIfInBounds_toArray, List.take_succ_cons, List.take_zero, List.drop_succ_cons, List.drop_zero, List.nil_append, List.cons_append, List.append_nil, List.drop_nil, List.take_nil, List.length_cons, List.length_nil, Nat.zero_add, Nat.add_zero, Nat.reduceAdd] at hS
    try clear hC
    refine cl hK (fun hC => ?_)
    clear hK K
    refine wpAnyH_done (by kernel_rfl) ?_ _
    clear kr
    try clear hC
    go_wp2_with (first | ((with_reducible refine wpList_loadrow_st (t := 58) (n := 27) (j := 0) (vs := FT) 1 hS rfl rfl rfl rfl (by kernel_rfl) (by kernel_rfl) hrd hfl ?_)) | ((with_reducible refine wpList_storerow_st (t := 58) (n := 27) (vs := FT) 3 hS rfl rfl rfl rfl (by kernel_rfl) rfl hfl hfo (by kernel_rfl) ?_); clear hS; intro w1 hS; try simp only [List.set_cons_zero, List.set_cons_succ, List.setIfInBounds_toArray, List.take_succ_cons, List.take_zero, List.drop_succ_cons, List.drop_zero, List.nil_append, List.cons_append, List.append_nil, List.drop_nil, List.take_nil, List.length_cons, List.length_nil, Nat.zero_add, Nat.add_zero, Nat.reduceAdd] at hS))
    rw [hV.out]
    refine bodyPost_ret (v := .tuple #[.agg FT.toArray, .int .i64 0]) (results_blk_tmp Tryz.results83 rfl hS 3 rfl (by kernel_rfl) hsf rfl) rfl ⟨rfl, a6, c6, [_], ?_, .inr rfl⟩
    rw [e0.out, hmr.out, List.length_append]
    exact hS.drop1.fore2.swap
   ·
    (refine op_build1_st (by kernel_rfl) hS rfl Tryz.underlying27 ec (cs := FT.toArray) rfl (by simp [hfl]) (by decide) ?_; clear hS; intro g4 w4 hS)
    try clear hC
    refine cl hK (fun hC => ?_)
    clear hK K
    refine mixs_one 6 (by kernel_rfl) rfl (fun K hK => ?_)
    (refine op_app_st (by kernel_rfl) 1 (m := M.length) (news := MR) hS rfl rfl Tryz.underlying27 ec rfl (Src.slice Tryz.underlying27 (hsl.out _ hS.fr) hmn.out) rfl hmo.out (by omega) (by unfold maxLen; omega) ?_; intro v6 w6 hS1; clear hS; simp only [List.set_cons_zero, List.set_cons_succ, Nat.zero_add, List.nil_append] at hS1; obtain ⟨a5, c5, rfl, -⟩ := hS1.row 1 rfl; have hS := hS1; clear hS1)
    try clear hC
    refine cl hK (fun hC => ?_)
    clear hK K
    refine mixs_one 9 (by kernel_rfl) rfl (fun K hK => ?_)
    (refine op_app_st (by kernel_rfl) 1 (m := 1) (news := FT) hS rfl rfl Tryz.underlying27 ec rfl (Src.slice Tryz.underlying27 (hS.blksl2 0 rfl) (by simp [hfl])) rfl (fun u hu => List.all_eq_true.1 hfo u hu) (by omega) (by unfold maxLen; omega) ?_; intro v6 w6 hS1; clear hS; simp only [List.set_cons_zero, List.set_cons_succ] at hS1; obtain ⟨a6, c6, rfl, -⟩ := hS1.row 1 rfl; have hS := hS1.drop; clear hS1)
    try clear hC
    refine cl hK (fun hC => ?_)
    clear hK K
    refine tk 10 ?_
    refine tk 11 ?_
    refine mixs_one 12 (by kernel_rfl) rfl (fun K hK => ?_)
    refine op_store_st (by kernel_rfl) 2 hS rfl rfl rfl (by kernel_rfl) rfl rfl ?_
    clear hS; intro w1 hS; try simp only [List.set_cons_zero, List.set_cons_succ, List.setIfInBounds_toArray, List.take_succ_cons, List.take_zero, List.drop_succ_cons, List.drop_zero, List.nil_append, List.cons_append, List.append_nil, List.drop_nil, List.take_nil, List.length_cons, List.length_nil, Nat.zero_add, Nat.add_zero, Nat.reduceAdd] at hS
    try clear hC
    refine cl hK (fun hC => ?_)
    clear hK K
    refine wpAnyH_done (by kernel_rfl) ?_ _
    clear kr
    try clear hC
    go_wp2_with (first | ((with_reducible refine wpList_loadrow_st (t := 58) (n := 27) (j := 0) (vs := FT) 1 hS rfl rfl rfl rfl (by kernel_rfl) (by kernel_rfl) hrd hfl ?_)) | ((with_reducible refine wpList_storerow_st (t := 58) (n := 27) (vs := FT) 3 hS rfl rfl rfl rfl (by kernel_rfl) rfl hfl hfo (by kernel_rfl) ?_); clear hS; intro w1 hS; try simp only [List.set_cons_zero, List.set_cons_succ, List.setIfInBounds_toArray, List.take_succ_cons, List.take_zero, List.drop_succ_cons, List.drop_zero, List.nil_append, List.cons_append, List.append_nil, List.drop_nil, List.take_nil, List.length_cons, List.length_nil, Nat.zero_add, Nat.add_zero, Nat.reduceAdd] at hS))
    rw [hV.out]
    refine bodyPost_ret (v := .tuple #[.agg FT.toArray, .int .i64 0]) (results_blk_tmp Tryz.results83 rfl hS 3 rfl (by kernel_rfl) hsf rfl) rfl ⟨rfl, a6, c6, [_], ?_, .inr rfl⟩
    rw [e0.out, hmr.out, List.length_append]
    exact hS.drop1.fore2.swap
  ·
   (refine op_build1_st (by kernel_rfl) hS rfl Tryz.underlying27 ec (cs := FT.toArray) rfl (by simp [hfl]) (by decide) ?_; clear hS; intro g4 w4 hS)
   try clear hC
   refine cl hK (fun hC => ?_)
   clear hK K
   refine mixs_one 1 (by kernel_rfl) rfl (fun K hK => ?_)
   (refine op_build0w_st (by kernel_rfl) hS rfl Tryz.underlying27 ec ?_; clear hS; intro g3 w3 hS)
   try clear hC
   refine cl hK (fun hC => ?_)
   clear hK K
   refine mixs_one 6 (by kernel_rfl) rfl (fun K hK => ?_)
   (refine op_app_st (by kernel_rfl) 0 (m := M.length) (news := MR) hS rfl rfl Tryz.underlying27 ec rfl (Src.slice Tryz.underlying27 (hsl.out _ hS.fr) hmn.out) rfl hmo.out (by omega) (by unfold maxLen; omega) ?_; intro v6 w6 hS1; clear hS; simp only [List.set_cons_zero, Nat.zero_add, List.nil_append] at hS1; obtain ⟨a5, c5, rfl, -⟩ := hS1.row 0 rfl; have hS := hS1; clear hS1)
   try clear hC
   refine cl hK (fun hC => ?_)
   clear hK K
   refine mixs_one 9 (by kernel_rfl) rfl (fun K hK => ?_)
   (refine op_app_st (by kernel_rfl) 0 (m := 1) (news := FT) hS rfl rfl Tryz.underlying27 ec rfl (Src.slice Tryz.underlying27 (hS.blksl2 1 rfl) (by simp [hfl])) rfl (fun u hu => List.all_eq_true.1 hfo u hu) (by omega) (by unfold maxLen; omega) ?_; intro v6 w6 hS1; clear hS; simp only [List.set_cons_zero] at hS1; obtain ⟨a6, c6, rfl, -⟩ := hS1.row 0 rfl; have hS := hS1.drop1; clear hS1)
   try clear hC
   refine cl hK (fun hC => ?_)
   clear hK K
   refine tk 10 ?_
   refine tk 11 ?_
   refine mixs_one 12 (by kernel_rfl) rfl (fun K hK => ?_)
   refine op_store_st (by kernel_rfl) 2 hS rfl rfl rfl (by kernel_rfl) rfl rfl ?_
   clear hS; intro w1 hS; try simp only [List.set_cons_zero, List.set_cons_succ, List.setIfInBounds_toArray, List.take_succ_cons, List.take_zero, List.drop_succ_cons, List.drop_zero, List.nil_append, List.cons_append, List.append_nil, List.drop_nil, List.take_nil, List.length_cons, List.length_nil, Nat.zero_add, Nat.add_zero, Nat.reduceAdd] at hS
   try clear hC
   refine cl hK (fun hC => ?_)
   clear hK K
   refine wpAnyH_done (by kernel_rfl) ?_ _
   clear kr
   try clear hC
   go_wp2_with (first | ((with_reducible refine wpList_loadrow_st (t := 58) (n := 27) (j := 0) (vs := FT) 1 hS rfl rfl rfl rfl (by kernel_rfl) (by kernel_rfl) hrd hfl ?_)) | ((with_reducible refine wpList_storerow_st (t := 58) (n := 27) (vs := FT) 3 hS rfl rfl rfl rfl (by kernel_rfl) rfl hfl hfo (by kernel_rfl) ?_); clear hS; intro w1 hS; try simp only [List.set_cons_zero, List.set_cons_succ, List.setIfInBounds_toArray, List.take_succ_cons, List.take_zero, List.drop_succ_cons, List.drop_zero, List.nil_append, List.cons_append, List.append_nil, List.drop_nil, List.take_nil, List.length_cons, List.length_nil, Nat.zero_add, Nat.add_zero, Nat.reduceAdd] at hS))
   rw [hV.out]
   refine bodyPost_ret (v := .tuple #[.agg FT.toArray, .int .i64 0]) (results_blk_tmp Tryz.results83 rfl hS 3 rfl (by kernel_rfl) hsf rfl) rfl ⟨rfl, a6, c6, [_], ?_, .inr rfl⟩
   rw [e0.out, hmr.out, List.length_append]
   exact hS.drop1.fore2.swap
 ·
  (refine op_build1_st (by kernel_rfl) hS rfl Tryz.underlying27 ec (cs := FT.toArray) rfl (by simp [hfl]) (by decide) ?_; clear hS; intro g4 w4 hS)
  try clear hC
  refine cl hK (fun hC => ?_)
  clear hK K
  refine mixs_two 1 5 (by kernel_rfl) rfl rfl (fun K hK => ?_) (fun K hK => ?_)
  ·
   (refine op_build0w_st (by kernel_rfl) hS rfl Tryz.underlying27 ec ?_; clear hS; intro g3 w3 hS)
   try clear hC
   refine cl hK (fun hC => ?_)
   clear hK K
   refine mixs_one 5 (by kernel_rfl) rfl (fun K hK => ?_)
   refine op_load_st (by kernel_rfl) 3 hS rfl rfl rfl (by simp [scalarB, go_sem]) rfl ?_
   try clear hC
   refine cl hK (fun hC => ?_)
   clear hK K
   refine mixs_one 6 (by kernel_rfl) rfl (fun K hK => ?_)
   (refine op_app_st (by kernel_rfl) 0 (m := M.length) (news := MR) hS rfl rfl Tryz.underlying27 ec rfl (Src.slice Tryz.underlying27 (hsl.out _ hS.fr) hmn.out) rfl hmo.out (by omega) (by unfold maxLen; omega) ?_; intro v6 w6 hS1; clear hS; simp only [List.set_cons_zero, Nat.zero_add, List.nil_append] at hS1; obtain ⟨a5, c5, rfl, -⟩ := hS1.row 0 rfl; have hS := hS1; clear hS1)
   try clear hC
   refine cl hK (fun hC => ?_)
   clear hK K
   refine mixs_one 9 (by kernel_rfl) rfl (fun K hK => ?_)
   (refine op_app_st (by kernel_rfl) 0 (m := 1) (news := FT) hS rfl rfl Tryz.underlying27 ec rfl (Src.slice Tryz.underlying27 (hS.blksl2 1 rfl) (by simp [hfl])) rfl (fun u hu => List.all_eq_true.1 hfo u hu) (by omega) (by unfold maxLen; omega) ?_; intro v6 w6 hS1; clear hS; simp only [List.set_cons_zero] at hS1; obtain ⟨a6, c6, rfl, -⟩ := hS1.row 0 rfl; have hS := hS1.drop1; clear hS1)
   try clear hC
   refine cl hK (fun hC => ?_)
   clear hK K
   refine tk 10 ?_
   refine tk 11 ?_
   refine mixs_one 12 (by kernel_rfl) rfl (fun K hK => ?_)
   refine op_store_st (by kernel_rfl) 2 hS rfl rfl rfl (by kernel_rfl) rfl rfl ?_
   clear hS; intro w1 hS; try simp only [List.set_cons_zero, List.set_cons_succ, List.setIfInBounds_toArray, List.take_succ_cons, List.take_zero, List.drop_succ_cons, List.drop_zero, List.nil_append, List.cons_append, List.append_nil, List.drop_nil, List.take_nil, List.length_cons, List.length_nil, Nat.zero_add, Nat.add_zero, Nat.reduceAdd] at hS
   try clear hC
   refine cl hK (fun hC => ?_)
   clear hK K
   refine wpAnyH_done (by kernel_rfl) ?_ _
   clear kr
   try clear hC
   go_wp2_with (first | ((with_reducible refine wpList_loadrow_st (t := 58) (n := 27) (j := 0) (vs := FT) 1 hS rfl rfl rfl rfl (by kernel_rfl) (by kernel_rfl) hrd hfl ?_)) | ((with_reducible refine wpList_storerow_st (t := 58) (n := 27) (vs := FT) 3 hS rfl rfl rfl rfl (by kernel_rfl) rfl hfl hfo (by kernel_rfl) ?_); clear hS; intro w1 hS; try simp only [List.set_cons_zero, List.set_cons_succ, List.setIfInBounds_toArray, List.take_succ_cons, List.take_zero, List.drop_succ_cons, List.drop_zero, List.nil_append, List.cons_append, List.append_nil, List.drop_nil, List.take_nil, List.length_cons, List.length_nil, Nat.zero_add, Nat.add_zero, Nat.reduceAdd] at hS))
   rw [hV.out]
   refine bodyPost_ret (v := .tuple #[.agg FT.toArray, .int .i64 0]) (results_blk_tmp Tryz.results83 rfl hS 3 rfl (by kernel_rfl) hsf rfl) rfl ⟨rfl, a6, c6, [_], ?_, .inr rfl⟩
   rw [e0.out, hmr.out, List.length_append]
   exact hS.drop1.fore2.swap
  ·
   refine op_load_st (by kernel_rfl) 2 hS rfl rfl rfl (by simp [scalarB, go_sem]) rfl ?_
   try clear hC
   refine cl hK (fun hC => ?_)
   clear hK K
   refine mixs_one 1 (by kernel_rfl) rfl (fun K hK => ?_)
   (refine op_build0w_st (by kernel_rfl) hS rfl Tryz.underlying27 ec ?_; clear hS; intro g3 w3 hS)
   try clear hC
   refine cl hK (fun hC => ?_)
   clear hK K
   refine mixs_one 6 (by kernel_rfl) rfl (fun K hK => ?_)
   (refine op_app_st (by kernel_rfl) 0 (m := M.length) (news := MR) hS rfl rfl Tryz.underlying27 ec rfl (Src.slice Tryz.underlying27 (hsl.out _ hS.fr) hmn.out) rfl hmo.out (by omega) (by unfold maxLen; omega) ?_; intro v6 w6 hS1; clear hS; simp only [List.set_cons_zero, Nat.zero_add, List.nil_append] at hS1; obtain ⟨a5, c5, rfl, -⟩ := hS1.row 0 rfl; have hS := hS1; clear hS1)
   try clear hC
   refine cl hK (fun hC => ?_)
   clear hK K
   refine mixs_one 9 (by kernel_rfl) rfl (fun K hK => ?_)
   (refine op_app_st (by kernel_rfl) 0 (m := 1) (news := FT) hS rfl rfl Tryz.underlying27 ec rfl (Src.slice Tryz.underlying27 (hS.blksl2 1 rfl) (by simp [hfl])) rfl (fun u hu => List.all_eq_true.1 hfo u hu) (by omega) (by unfold maxLen; omega) ?_; intro v6 w6 hS1; clear hS; simp only [List.set_cons_zero] at hS1; obtain ⟨a6, c6, rfl, -⟩ := hS1.row 0 rfl; have hS := hS1.drop1; clear hS1)
   try clear hC
   refine cl hK (fun hC => ?_)
   clear hK K
   refine tk 10 ?_
   refine tk 11 ?_
   refine mixs_one 12 (by kernel_rfl) rfl (fun K hK => ?_)
   refine op_store_st (by kernel_rfl) 2 hS rfl rfl rfl (by kernel_rfl) rfl rfl ?_
   clear hS; intro w1 hS; try simp only [List.set_cons_zero, List.set_cons_succ, List.setIfInBounds_toArray, List.take_succ_cons, List.take_zero, List.drop_succ_cons, List.drop_zero, List.nil_append, List.cons_append, List.append_nil, List.drop_nil, List.take_nil, List.length_cons, List.length_nil, Nat.zero_add, Nat.add_zero, Nat.reduceAdd] at hS
   try clear hC
   refine cl hK (fun hC => ?_)
   clear hK K
   refine wpAnyH_done (by kernel_rfl) ?_ _
   clear kr
   try clear hC
   go_wp2_with (first | ((with_reducible refine wpList_loadrow_st (t := 58) (n := 27) (j := 0) (vs := FT) 1 hS rfl rfl rfl rfl (by kernel_rfl) (by kernel_rfl) hrd hfl ?_)) | ((with_reducible refine wpList_storerow_st (t := 58) (n := 27) (vs := FT) 3 hS rfl rfl rfl rfl (by kernel_rfl) rfl hfl hfo (by kernel_rfl) ?_); clear hS; intro w1 hS; try simp only [List.set_cons_zero, List.set_cons_succ, List.setIfInBounds_toArray, List.take_succ_cons, List.take_zero, List.drop_succ_cons, List.drop_zero, List.nil_append, List.cons_append, List.append_nil, List.drop_nil, List.take_nil, List.length_cons, List.length_nil, Nat.zero_add, Nat.add_zero, Nat.reduceAdd] at hS))
   rw [hV.out]
   refine bodyPost_ret (v := .tuple #[.agg FT.toArray, .int .i64 0]) (results_blk_tmp Tryz.results83 rfl hS 3 rfl (by kernel_rfl) hsf rfl) rfl ⟨rfl, a6, c6, [_], ?_, .inr rfl⟩
   rw [e0.out, hmr.out, List.length_append]
   exact hS.drop1.fore2.swap
end Go.Proofs.YtneolmnpebiifaaGreatDoor
end
