import Derived.Test.YtneolmnpebiifaaGreatDoorM20
set_option linter.unusedVariables false
set_option linter.unusedSimpArgs false
set_option maxRecDepth 100000
section
namespace Go.Ofp
theorem St.re6 {w0 w : World} {F : List Nat} {a b c d e f : Ch} (h : St w0 F [a, b, c, d, e, f] w) : St w0 F [a, d, e, f, b, c] w := by
 refine h.pick (fun i => if i = 0 then 0 else if i = 1 then 3 else if i = 2 then 4 else if i = 3 then 5 else if i = 4 then 1 else 2) ?_ ?_
 · intro i x hx
   match i with
   | 0 => exact hx
   | 1 => exact hx
   | 2 => exact hx
   | 3 => exact hx
   | 4 => exact hx
   | 5 => exact hx
   | i + 6 => simp at hx
 · intro i j hi hj hij
   simp only [List.length_cons, List.length_nil] at hi hj
   split <;> split <;> (repeat' split) <;> omega
theorem St.take3 {w0 w : World} {F : List Nat} {a b c : Ch} {L : List Ch} (h : St w0 F (a :: b :: c :: L) w) : St w0 F [a, b, c] w := h.fore3
end Go.Ofp
namespace Go.Proofs.YtneolmnpebiifaaGreatDoor
open Go.RowKit Go.Ofp
set_option maxHeartbeats 4000000
theorem sgV_zero (e : Int) : sgV (Cd.none 0, e) = .tuple #[.agg #[.int .i64 0, .int .i64 0, .int .u32 0, .int .i64 0, .int .i64 0, .string ⟨#[]⟩, .int .i64 0, .int .i64 0, .string ⟨#[]⟩, .int .i64 0, .int .i64 0, .string ⟨#[]⟩, .int .i64 0, .int .i64 0, .string ⟨#[]⟩, .int .i64 0, .int .i64 0, .string ⟨#[]⟩, .int .i64 0, .int .i64 0, .string ⟨#[]⟩, .int .i64 0, .int .i64 0, .string ⟨#[]⟩, .int .i64 0, .int .i64 0, .string ⟨#[]⟩], .int .i64 e] := rfl
theorem id_wf {s : ShS} (h : ShOk s) : ∀ c ∈ s.m, (Lit.int .i64 c.id).wf = true := fun c hc => wf_of_i64 (by have := h.id c hc; have := h.next; omega)
theorem sadd_any (g gm : Nat) (s : ShS) (da : Option Addr) (dc : Nat) (p : Pt) (hp : PtIn p) (w : World) (hA : St w (feet (shA g gm s da dc)) (shA g gm s da dc) w) (hok : ShOk s) (htab : Tab w) (hT : 0 ∉ feet (shA g gm s da dc)) :
 Calls Tryz.prog 70 #[.pointer (some ⟨g, 0, none⟩), .agg (ptRow p).toArray] w fun e w' => e = .returned (sgV (s.add p).2) ∧ St w (feet (shA g gm s da dc)) (shA g gm (s.add p).1 da dc) w' := by
 have hS := hA
 have ec := elem_card
 have cC := fun W => cp_any p hp.len hp.mask hp.lab W
 have cF := fun W (h : Tab W) => fr_any s.next p hp.mask hp.len W h.lt h.sl
 have hpl := ptRow_len p hp.len
 have hris := hok.ris
 have hwf := id_wf hok
 have hnx := hok.next
 have hml := hok.len
 have hidl := fun c hc => (hok.id c hc).2
 have hsz : sizeB Tryz.prog 42 (ptRow p).toArray.size = true := by rw [List.size_toArray, hpl]; kernel_rfl
 have hfl := cdRow_lenT (p.fresh s.next) (fresh_f p s.next)
 have hfo := cdRow_oneT (p.fresh s.next)
 obtain ⟨FT, hFT⟩ : ∃ FT, cdRow (p.fresh s.next) = .int .i64 s.next :: FT := ⟨_, rfl⟩
 have hadd : s.add p = if p.check ≠ 0 then (s, Cd.none 0, p.check) else if 48 ≤ s.m.length ∨ 1073741824 ≤ s.next then (s, Cd.none 0, 8) else (⟨s.next + 1, s.m ++ [p.fresh s.next], s.dead⟩, p.fresh s.next, 0) := rfl
 have hV : sgV (p.fresh s.next, 0) = .tuple #[.agg (cdRow (p.fresh s.next)).toArray, .int .i64 0] := rfl
 have hcm := cdM_snoc (row := cdRow) (m := s.m) (c := p.fresh s.next) (fun d hd => by rw [fresh_id]; have := hidl d hd; omega)
 rw [fresh_id] at hcm
 rw [hadd]
 rw [hFT] at cF hfl hfo hV hcm
 replace cF := Lib.hid cF
 replace hcm := Lib.hid hcm
 replace hV := Lib.hid hV
 replace hris := Lib.hid hris
 replace hwf := Lib.hid hwf
 replace hT := Lib.hid hT
 replace htab := Lib.hid htab
 clear hadd hA hok hidl hFT hp
 generalize feet (shA g gm s da dc) = F at *
 obtain ⟨nx, M, D⟩ := s
 dsimp only at *
 have e0 : ∀ nx M, shA g gm ⟨nx, M, D⟩ da dc = [Ch.blk g 101 #[.int .i64 nx, .map (some gm), .slice da D.length dc], Ch.map Tryz.prog 3 gm M.length (cdM cdRow M), Ch.row 91 3 (.slice da D.length dc) D.length (dRow D)] := fun _ _ => rfl
 rw [e0] at hS
 generalize hfr : p.fresh nx = fr at *
 generalize dRow D = DR at *
 replace hfr := Lib.hid hfr
 have hwn : IntKind.i64.wrap (nx + 1) = nx + 1 := IntWalk.i64_in _ (by omega)
 generalize ptRow p = RP at *
 by_cases hck : p.check = 0
 case neg =>
  rw [if_pos hck]
  have b1 : (p.check != 0) = true := by simpa using hck
  clear hck
  generalize p.check = ck at *
  replace cC := Lib.hid cC
  go_enter Tryz.func70, Tryz.ntmps70
  go_wp2_with (first | (go_at_call 69; (with_reducible refine (cC.out _).mono ?_); rintro _ w3 ⟨rfl, hk9⟩; replace hS := hS.keepB hk9; clear hk9; have c0 : World.cell? _ ⟨g, 0, none⟩ = some (.int .i64 nx) := hS.cell 2 rfl 0) | (with_reducible refine wpList_box_st hS rfl rfl rfl ?_; clear hS; intro gp w1 hS) | ((with_reducible refine wpList_loadall_st 1 hS rfl rfl rfl rfl ?_ hsz ?_); focus (simp [rowB, go_sem]; done)) | (with_reducible refine al hS rfl rfl ?_; clear hS; intro g1 w1 hS) | (with_reducible refine stor 0 hS rfl rfl rfl rfl rfl rfl rfl rfl ?_; clear hS; intro w1 hS))
  rw [sgV_zero]
  exact bodyPost_ret (v := .tuple #[.agg #[.int .i64 0, .int .i64 0, .int .u32 0, .int .i64 0, .int .i64 0, .string ⟨#[]⟩, .int .i64 0, .int .i64 0, .string ⟨#[]⟩, .int .i64 0, .int .i64 0, .string ⟨#[]⟩, .int .i64 0, .int .i64 0, .string ⟨#[]⟩, .int .i64 0, .int .i64 0, .string ⟨#[]⟩, .int .i64 0, .int .i64 0, .string ⟨#[]⟩, .int .i64 0, .int .i64 0, .string ⟨#[]⟩, .int .i64 0, .int .i64 0, .string ⟨#[]⟩], .int .i64 ck]) (results_blk_tmp Tryz.results70 rfl hS 0 rfl (by kernel_rfl) (by kernel_rfl) rfl) rfl ⟨rfl, by rw [e0]; exact hS.drop.drop⟩
 rw [if_neg (by simp [hck])]
 rw [hck] at cC
 replace cC := Lib.hid cC
 by_cases h48 : 48 ≤ M.length
 · rw [if_pos (.inl h48)]
   have d48 : decide ((48 : Int) ≤ (M.length : Int)) = true := decide_eq_true (by omega)
   have d48b : decide (48 ≤ M.length) = true := decide_eq_true h48
   clear h48 hck
   go_enter Tryz.func70, Tryz.ntmps70
   go_wp2_with (first | (go_at_call 69; (with_reducible refine (cC.out _).mono ?_); rintro _ w3 ⟨rfl, hk9⟩; replace hS := hS.keepB hk9; clear hk9; have c0 : World.cell? _ ⟨g, 0, none⟩ = some (.int .i64 nx) := hS.cell 2 rfl 0) | (with_reducible refine wpList_box_st hS rfl rfl rfl ?_; clear hS; intro gp w1 hS) | ((with_reducible refine wpList_loadall_st 1 hS rfl rfl rfl rfl ?_ hsz ?_); focus (simp [rowB, go_sem]; done)) | (with_reducible refine wpList_maplen_st (t := 99) (k := 3) 3 hS rfl rfl rfl rfl Tryz.underlying3 Tryz.underlying99 hris.out hwf.out ?_) | (with_reducible refine al hS rfl rfl ?_; clear hS; intro g1 w1 hS) | (with_reducible refine stor 0 hS rfl rfl rfl rfl rfl rfl rfl rfl ?_; clear hS; intro w1 hS) | (with_reducible refine ld 2 hS rfl rfl rfl rfl rfl ?_))
   rw [sgV_zero]
   exact bodyPost_ret (v := .tuple #[.agg #[.int .i64 0, .int .i64 0, .int .u32 0, .int .i64 0, .int .i64 0, .string ⟨#[]⟩, .int .i64 0, .int .i64 0, .string ⟨#[]⟩, .int .i64 0, .int .i64 0, .string ⟨#[]⟩, .int .i64 0, .int .i64 0, .string ⟨#[]⟩, .int .i64 0, .int .i64 0, .string ⟨#[]⟩, .int .i64 0, .int .i64 0, .string ⟨#[]⟩, .int .i64 0, .int .i64 0, .string ⟨#[]⟩, .int .i64 0, .int .i64 0, .string ⟨#[]⟩], .int .i64 8]) (results_blk_tmp Tryz.results70 rfl hS 0 rfl (by kernel_rfl) (by kernel_rfl) rfl) rfl ⟨rfl, by rw [e0]; exact hS.drop.drop⟩
 have d48 : decide ((48 : Int) ≤ (M.length : Int)) = false := decide_eq_false (by omega)
 have d48b : decide (48 ≤ M.length) = false := decide_eq_false h48
 by_cases hid : 1073741824 ≤ nx
 · rw [if_pos (.inr hid)]
   have dnx : decide (1073741824 ≤ nx) = true := decide_eq_true hid
   clear h48 hck hid
   go_enter Tryz.func70, Tryz.ntmps70
   go_wp2_with (first | (go_at_call 69; (with_reducible refine (cC.out _).mono ?_); rintro _ w3 ⟨rfl, hk9⟩; replace hS := hS.keepB hk9; clear hk9; have c0 : World.cell? _ ⟨g, 0, none⟩ = some (.int .i64 nx) := hS.cell 2 rfl 0) | (with_reducible refine wpList_box_st hS rfl rfl rfl ?_; clear hS; intro gp w1 hS) | ((with_reducible refine wpList_loadall_st 1 hS rfl rfl rfl rfl ?_ hsz ?_); focus (simp [rowB, go_sem]; done)) | (with_reducible refine wpList_maplen_st (t := 99) (k := 3) 3 hS rfl rfl rfl rfl Tryz.underlying3 Tryz.underlying99 hris.out hwf.out ?_) | (with_reducible refine al hS rfl rfl ?_; clear hS; intro g1 w1 hS) | (with_reducible refine stor 0 hS rfl rfl rfl rfl rfl rfl rfl rfl ?_; clear hS; intro w1 hS) | (with_reducible refine ld 2 hS rfl rfl rfl rfl rfl ?_))
   rw [sgV_zero]
   exact bodyPost_ret (v := .tuple #[.agg #[.int .i64 0, .int .i64 0, .int .u32 0, .int .i64 0, .int .i64 0, .string ⟨#[]⟩, .int .i64 0, .int .i64 0, .string ⟨#[]⟩, .int .i64 0, .int .i64 0, .string ⟨#[]⟩, .int .i64 0, .int .i64 0, .string ⟨#[]⟩, .int .i64 0, .int .i64 0, .string ⟨#[]⟩, .int .i64 0, .int .i64 0, .string ⟨#[]⟩, .int .i64 0, .int .i64 0, .string ⟨#[]⟩, .int .i64 0, .int .i64 0, .string ⟨#[]⟩], .int .i64 8]) (results_blk_tmp Tryz.results70 rfl hS 0 rfl (by kernel_rfl) (by kernel_rfl) rfl) rfl ⟨rfl, by rw [e0]; exact hS.drop.drop⟩
 have dnx : decide (1073741824 ≤ nx) = false := decide_eq_false hid
 rw [if_neg (by omega)]
 have hwk : (Lit.int .i64 nx).wf = true := wf_of_i64 (by omega)
 have hmx : M.length < maxLen := by unfold maxLen; omega
 have hrp : (RP.toArray.toList.drop 0).take 26 = RP := by simp [← hpl]
 have hrd : ((Value.int .i64 nx :: FT).toArray.toList.drop 0).take 27 = Value.int .i64 nx :: FT := by simp [← hfl]
 have hsf : sizeB Tryz.prog 58 (Value.int .i64 nx :: FT).toArray.size = true := by rw [List.size_toArray, hfl]; kernel_rfl
 clear h48 hid hck
 go_enter Tryz.func70, Tryz.ntmps70
 go_wp2_with (first | (go_at_call 69; (with_reducible refine (cC.out _).mono ?_); rintro _ w3 ⟨rfl, hk9⟩; replace hS := hS.keepB hk9; clear hk9; have c0 : World.cell? _ ⟨g, 0, none⟩ = some (.int .i64 nx) := hS.cell 2 rfl 0) | (with_reducible refine wpList_box_st hS rfl rfl rfl ?_; clear hS; intro gp w1 hS) | ((with_reducible refine wpList_loadall_st 1 hS rfl rfl rfl rfl ?_ hsz ?_); focus (simp [rowB, go_sem]; done)) | (with_reducible refine wpList_maplen_st (t := 99) (k := 3) 3 hS rfl rfl rfl rfl Tryz.underlying3 Tryz.underlying99 hris.out hwf.out ?_) | (with_reducible refine al hS rfl rfl ?_; clear hS; intro g1 w1 hS) | (with_reducible refine ld 2 hS rfl rfl rfl rfl rfl ?_))
 clear c0
 revert hS
 apply wp_cut1
 · intro hS
   have kg := hS.kblk 2 rfl
   have kp := hS.krow (P := Tryz.prog) (j := 0) 1 rfl (t := 42) (by kernel_rfl) (n := 26) (by kernel_rfl) hrp hpl
   refine mixs_begin (by kernel_rfl) hS ?_
   clear hS
   intro w2 hS
   refine tk 0 ?_
   refine tk 1 ?_
   refine tk 2 ?_
   refine tk 3 ?_
   refine tkr 4 kp ?_
   refine mixs_two 5 6 (by kernel_rfl) rfl rfl (fun K hK => ?_) (fun K hK => ?_)
   ·
    go_simp
    ((go_at_call 114; (with_reducible refine (cF.out _ (htab.out.fr hS.fr hT.out)).mono ?_); rintro _ w3 ⟨rfl, hk9⟩; replace hS := hS.keepB hk9; clear hk9))
    try clear hC
    refine cl hK (fun hC => ?_)
    clear hK K
    refine mixs_one 6 (by kernel_rfl) rfl (fun K hK => ?_)
    refine op_alloc_st (by kernel_rfl) rfl (by assumption) hS ?_
    clear hS; intro g1 w1 hS
    try clear hC
    refine cl hK (fun hC => ?_)
    clear hK K
    refine mixs_one 7 (by kernel_rfl) rfl (fun K hK => ?_)
    ((refine op_storerow_st (vs := Value.int .i64 nx :: FT) (n := 27) (by kernel_rfl) 0 hS rfl rfl rfl (by kernel_rfl) rfl hfl hfo rfl ?_; clear hS; intro w1 hS; try simp only [List.set_cons_zero, List.set_cons_succ, List.setIfInBounds_toArray, List.take_succ_cons, List.take_zero, List.drop_succ_cons, List.drop_zero, List.nil_append, List.cons_append, List.append_nil, List.drop_nil, List.take_nil, List.length_cons, List.length_nil, Nat.zero_add, Nat.add_zero, Nat.reduceAdd] at hS))
    try clear hC
    refine cl hK (fun hC => ?_)
    clear hK K
    refine wpAnyH_done (by kernel_rfl) ?_ _
    exact ⟨g1, rfl, hS⟩
   ·
    refine op_alloc_st (by kernel_rfl) rfl (by assumption) hS ?_
    clear hS; intro g1 w1 hS
    try clear hC
    refine cl hK (fun hC => ?_)
    clear hK K
    refine mixs_one 5 (by kernel_rfl) rfl (fun K hK => ?_)
    go_simp
    ((go_at_call 114; (with_reducible refine (cF.out _ (htab.out.fr hS.fr hT.out)).mono ?_); rintro _ w3 ⟨rfl, hk9⟩; replace hS := hS.keepB hk9; clear hk9))
    try clear hC
    refine cl hK (fun hC => ?_)
    clear hK K
    refine mixs_one 7 (by kernel_rfl) rfl (fun K hK => ?_)
    ((refine op_storerow_st (vs := Value.int .i64 nx :: FT) (n := 27) (by kernel_rfl) 0 hS rfl rfl rfl (by kernel_rfl) rfl hfl hfo rfl ?_; clear hS; intro w1 hS; try simp only [List.set_cons_zero, List.set_cons_succ, List.setIfInBounds_toArray, List.take_succ_cons, List.take_zero, List.drop_succ_cons, List.drop_zero, List.nil_append, List.cons_append, List.append_nil, List.drop_nil, List.take_nil, List.length_cons, List.length_nil, Nat.zero_add, Nat.add_zero, Nat.reduceAdd] at hS))
    try clear hC
    refine cl hK (fun hC => ?_)
    clear hK K
    refine wpAnyH_done (by kernel_rfl) ?_ _
    exact ⟨g1, rfl, hS⟩
 intro g7 w7 hS
 go_wp2_with fail
 have hS1 := hS.re6
 clear hS
 have hS := hS1
 clear hS1
 refine mixs_beginC2 (by kernel_rfl) hS ?_
 clear hS
 intro w2 hS hC
 have kc := hC.kblk 0 rfl
 have kg := hC.kblk 1 rfl
 have kr := hC.krow (P := Tryz.prog) (j := 0) 0 rfl (t := 58) (by kernel_rfl) (n := 27) (by kernel_rfl) hrd hfl
 refine tk 0 ?_
 refine tk 1 ?_
 refine tk 2 ?_
 refine tk 3 ?_
 refine tk 4 ?_
 refine tk 5 ?_
 refine tkr 6 kr ?_
 refine mixs_one 7 (by kernel_rfl) rfl (fun K hK => ?_)
 ((refine op_mapput_st (k := 3) (by kernel_rfl) 2 hS rfl rfl rfl rfl rfl Tryz.underlying3 Tryz.underlying99 hmx hwk ?_; clear hS; intro w1 hS; try simp only [List.set_cons_zero, List.set_cons_succ, List.setIfInBounds_toArray, List.take_succ_cons, List.take_zero, List.drop_succ_cons, List.drop_zero, List.nil_append, List.cons_append, List.append_nil, List.drop_nil, List.take_nil, List.length_cons, List.length_nil, Nat.zero_add, Nat.add_zero, Nat.reduceAdd] at hS))
 try clear hC
 refine cl hK (fun hC => ?_)
 clear hK K
 refine wpAnyH_done (by kernel_rfl) ?_ _
 clear kg kc kr
 try clear hC
 go_wp2_with (first | ((with_reducible refine wpList_loadrow_st (t := 58) (n := 27) (j := 0) (vs := Value.int .i64 nx :: FT) 0 hS rfl rfl rfl rfl (by kernel_rfl) (by kernel_rfl) hrd hfl ?_)) | ((with_reducible refine wpList_storerow_st (t := 58) (n := 27) (vs := Value.int .i64 nx :: FT) 4 hS rfl rfl rfl rfl (by kernel_rfl) rfl hfl hfo (by kernel_rfl) ?_); clear hS; intro w1 hS; try simp only [List.set_cons_zero, List.set_cons_succ, List.setIfInBounds_toArray, List.take_succ_cons, List.take_zero, List.drop_succ_cons, List.drop_zero, List.nil_append, List.cons_append, List.append_nil, List.drop_nil, List.take_nil, List.length_cons, List.length_nil, Nat.zero_add, Nat.add_zero, Nat.reduceAdd] at hS) | (with_reducible refine ld 1 hS rfl rfl rfl rfl rfl ?_) | (with_reducible refine sto 1 hS rfl rfl rfl rfl rfl rfl ?_; clear hS; intro w1 hS))
 rw [hV.out]
 refine bodyPost_ret (v := .tuple #[.agg (Value.int .i64 nx :: FT).toArray, .int .i64 0]) (results_blk_tmp Tryz.results70 rfl hS 4 rfl (by kernel_rfl) hsf rfl) rfl ⟨rfl, ?_⟩
 have h9 := hS.drop.take3
 rw [e0, hcm.out, List.length_append]
 exact h9
end Go.Proofs.YtneolmnpebiifaaGreatDoor
end
section
namespace Go.Proofs.YtneolmnpebiifaaGreatDoor
open Go.RowKit Go.Ofp
set_option maxHeartbeats 4000000
theorem shAt_st {g gm : Nat} {s : ShS} {da : Option Addr} {dc : Nat} {w0 w : World} {F : List Nat} {L : List Ch} (hS : St w0 F L w) (i j k : Nat) (h1 : L[i]? = some (Ch.blk g 101 (shRow s gm da dc).toArray)) (h2 : L[j]? = some (Ch.map Tryz.prog 3 gm s.m.length (cdM cdRow s.m))) (h3 : L[k]? = some (Ch.row 91 3 (.slice da s.dead.length dc) s.dead.length (dRow s.dead))) : ShAt w g gm s da dc :=
 ⟨hS.cell i h1 1, hS.cell i h1 2, hS.get j h2, hS.lst k h3 rfl (fun _ _ => trivial)⟩
theorem swrite_any (g gm : Nat) (s : ShS) (da : Option Addr) (dc : Nat) (id : Int) (hid : I64 id) (p : Pt) (hp : PtIn p) (w : World) (hA : St w (feet (shA g gm s da dc)) (shA g gm s da dc) w) (hok : ShOk s) (htab : Tab w) (hT : 0 ∉ feet (shA g gm s da dc)) :
 Calls Tryz.prog 72 #[.pointer (some ⟨g, 0, none⟩), .int .i64 id, .agg (ptRow p).toArray] w fun e w' => e = .returned (sgV (s.write id p).2) ∧ St w (feet (shA g gm s da dc)) (shA g gm (s.write id p).1 da dc) w' := by
 have hS := hA
 have ec := elem_card
 have cC := fun W => cp_any p hp.len hp.mask hp.lab W
 have cG := Lib.hid fun W h => sget_any g gm s da dc id hid W h hok
 have hgf := get_f hok id
 have hgv : -9223372036854775808 ≤ (s.get id).1.ver := by
  cases hl : lookC s.m id with
  | none => rw [get_none hl]; exact (by decide : (-9223372036854775808 : Int) ≤ 0)
  | some c => rw [get_some hl]; have := (hok.ver c (look_mem hl).1).1; show _ ≤ c.ver; omega
 have cM := fun W (h : Tab W) => mg_any (s.get id).1 p hp.mask hgv hgf hp.len W h.lt h.sl
 have hgid : (s.get id).2 = 0 → (s.get id).1.id = id ∧ (lookC s.m id).isSome = true := fun h => by rw [get_ok h]; exact ⟨(look_mem (get_ok h)).2, rfl⟩
 have hpl := ptRow_len p hp.len
 have hris := hok.ris
 have hwf := id_wf hok
 have hml := hok.len
 have hsz : sizeB Tryz.prog 42 (ptRow p).toArray.size = true := by rw [List.size_toArray, hpl]; kernel_rfl
 have hrp : ((ptRow p).toArray.toList.drop 0).take 26 = ptRow p := by simp [← hpl]
 have hwr : s.write id p = if p.check ≠ 0 then (s, Cd.none 0, p.check) else if (s.get id).2 ≠ 0 then (s, Cd.none 0, (s.get id).2) else if 1099511627776 ≤ (s.get id).1.ver then (s, Cd.none 0, 8) else (⟨s.next, putC s.m ((s.get id).1.merge p), s.dead⟩, (s.get id).1.merge p, 0) := rfl
 have hgV : sgV (s.get id) = .tuple #[.agg (cdRow (s.get id).1).toArray, .int .i64 (s.get id).2] := rfl
 have hmV : sgV ((s.get id).1.merge p, 0) = .tuple #[.agg (cdRow ((s.get id).1.merge p)).toArray, .int .i64 0] := rfl
 have hcl := cdRow_lenT _ hgf
 have hco := cdRow_oneT (s.get id).1
 have hmf : ((s.get id).1.merge p).f.length = 8 := by rw [merge_f]; exact hgf
 have hdl := cdRow_lenT _ hmf
 have hdo := cdRow_oneT ((s.get id).1.merge p)
 have hput := fun (h : (s.get id).2 = 0) => cdM_putC cdRow (m := s.m) (c := (s.get id).1.merge p) (by rw [merge_id, (hgid h).1]; exact (hgid h).2)
 have hpr := putC_ris hok.ris ((s.get id).1.merge p)
 have hpw : ∀ c ∈ putC s.m ((s.get id).1.merge p), (Lit.int .i64 c.id).wf = true := fun c hc => by
  unfold putC at hc
  obtain ⟨d, hd, rfl⟩ := List.mem_map.1 hc
  split
  · rename_i e
    rw [← e]
    exact hwf d hd
  · exact hwf d hd
 have hplen := putC_length s.m ((s.get id).1.merge p)
 have hwk := wf_of_i64 hid
 rw [hwr]
 rw [hgV] at cG
 have hMid : ((s.get id).1.merge p).id = (s.get id).1.id := rfl
 generalize feet (shA g gm s da dc) = F at *
 obtain ⟨CT, hCT⟩ : ∃ CT, cdRow (s.get id).1 = .int .i64 (s.get id).1.id :: .int .i64 (s.get id).1.ver :: CT := ⟨_, rfl⟩
 rw [hCT] at cG cM hcl hco
 generalize (s.get id).1.merge p = MC at *
 generalize (s.get id).1.id = ci at *
 generalize (s.get id).1.ver = cv at *
 generalize (s.get id).2 = er at *
 have e0 : ∀ M, shA g gm ⟨s.next, M, s.dead⟩ da dc = [Ch.blk g 101 #[.int .i64 s.next, .map (some gm), .slice da s.dead.length dc], Ch.map Tryz.prog 3 gm M.length (cdM cdRow M), Ch.row 91 3 (.slice da s.dead.length dc) s.dead.length (dRow s.dead)] := fun _ => rfl
 have hSe : shA g gm s da dc = [Ch.blk g 101 #[.int .i64 s.next, .map (some gm), .slice da s.dead.length dc], Ch.map Tryz.prog 3 gm s.m.length (cdM cdRow s.m), Ch.row 91 3 (.slice da s.dead.length dc) s.dead.length (dRow s.dead)] := rfl
 have hAt : ∀ (w0 w : World) (F : List Nat) (a b : Ch), St w0 F (a :: b :: shA g gm s da dc) w → ShAt w g gm s da dc := fun _ _ _ _ _ h => shAt_st h 2 3 4 rfl rfl rfl
 rw [hSe] at hAt
 rw [hSe] at hS
 replace hAt := Lib.hid hAt
 replace hSe := Lib.hid hSe
 replace hput := Lib.hid hput
 replace hpr := Lib.hid hpr
 replace hpw := Lib.hid hpw
 replace hplen := Lib.hid hplen
 replace hT := Lib.hid hT
 replace htab := Lib.hid htab
 replace cM := Lib.hid cM
 replace hmV := Lib.hid hmV
 replace hMid := Lib.hid hMid
 replace hgid := Lib.hid hgid
 clear hA hok hwr hgV hCT hgf hgv hmf hris hwf hp hid
 generalize ptRow p = RP at *
 generalize hML : s.m.length = ML at *
 generalize hMM : cdM cdRow s.m = M1 at *
 generalize s.dead.length = dn at *
 generalize dRow s.dead = DR at *
 generalize hNX : s.next = nx at *
 replace hML := Lib.hid hML
 replace hMM := Lib.hid hMM
 replace hNX := Lib.hid hNX
 by_cases hck : p.check = 0
 case neg =>
  rw [if_pos hck]
  have b1 : (p.check != 0) = true := by simpa using hck
  clear hck
  generalize p.check = ck at *
  replace cC := Lib.hid cC
  go_enter Tryz.func72, Tryz.ntmps72
  go_wp2_with (first | (go_at_call 69; (with_reducible refine (cC.out _).mono ?_); rintro _ w3 ⟨rfl, hk9⟩; replace hS := hS.keepB hk9; clear hk9) | (with_reducible refine wpList_box_st hS rfl rfl rfl ?_; clear hS; intro gp w1 hS) | ((with_reducible refine wpList_loadall_st 1 hS rfl rfl rfl rfl ?_ hsz ?_); focus (simp [rowB, go_sem]; done)) | (with_reducible refine al hS rfl rfl ?_; clear hS; intro g1 w1 hS) | (with_reducible refine stor 0 hS rfl rfl rfl rfl rfl rfl rfl rfl ?_; clear hS; intro w1 hS))
  rw [sgV_zero]
  exact bodyPost_ret (v := .tuple #[.agg #[.int .i64 0, .int .i64 0, .int .u32 0, .int .i64 0, .int .i64 0, .string ⟨#[]⟩, .int .i64 0, .int .i64 0, .string ⟨#[]⟩, .int .i64 0, .int .i64 0, .string ⟨#[]⟩, .int .i64 0, .int .i64 0, .string ⟨#[]⟩, .int .i64 0, .int .i64 0, .string ⟨#[]⟩, .int .i64 0, .int .i64 0, .string ⟨#[]⟩, .int .i64 0, .int .i64 0, .string ⟨#[]⟩, .int .i64 0, .int .i64 0, .string ⟨#[]⟩], .int .i64 ck]) (results_blk_tmp Tryz.results72 rfl hS 0 rfl (by kernel_rfl) (by kernel_rfl) rfl) rfl ⟨rfl, by (try dsimp only); rw [hSe.out]; exact hS.drop.drop⟩
 rw [if_neg (by simp [hck])]
 rw [hck] at cC
 replace cC := Lib.hid cC
 clear hck
 by_cases her : er = 0
 case neg =>
  rw [if_pos her]
  have b2 : (er != 0) = true := by simpa using her
  clear her
  go_enter Tryz.func72, Tryz.ntmps72
  go_wp2_with (first | (go_at_call 69; (with_reducible refine (cC.out _).mono ?_); rintro _ w3 ⟨rfl, hk9⟩; replace hS := hS.keepB hk9; clear hk9) | (with_reducible refine wpList_box_st hS rfl rfl rfl ?_; clear hS; intro gp w1 hS) | ((with_reducible refine wpList_loadall_st 1 hS rfl rfl rfl rfl ?_ hsz ?_); focus (simp [rowB, go_sem]; done)) | (go_at_call 49; (with_reducible refine (cG.out _ (hAt.out _ _ _ _ _ hS)).mono ?_); rintro _ w3 ⟨rfl, hk9⟩; replace hS := hS.keepB hk9; clear hk9) | ((with_reducible refine wpList_storerow_st (t := 58) (n := 27) (vs := Value.int .i64 ci :: .int .i64 cv :: CT) 0 hS rfl rfl rfl rfl (by kernel_rfl) rfl hcl hco (by kernel_rfl) ?_); clear hS; intro w1 hS; try simp only [List.set_cons_zero, List.set_cons_succ, List.setIfInBounds_toArray, List.take_succ_cons, List.take_zero, List.drop_succ_cons, List.drop_zero, List.nil_append, List.cons_append, List.append_nil, List.drop_nil, List.take_nil, List.length_cons, List.length_nil, Nat.zero_add, Nat.add_zero, Nat.reduceAdd] at hS) | (with_reducible refine al hS rfl rfl ?_; clear hS; intro g1 w1 hS) | (with_reducible refine stor 1 hS rfl rfl rfl rfl rfl rfl rfl rfl ?_; clear hS; intro w1 hS))
  rw [sgV_zero]
  exact bodyPost_ret (v := .tuple #[.agg #[.int .i64 0, .int .i64 0, .int .u32 0, .int .i64 0, .int .i64 0, .string ⟨#[]⟩, .int .i64 0, .int .i64 0, .string ⟨#[]⟩, .int .i64 0, .int .i64 0, .string ⟨#[]⟩, .int .i64 0, .int .i64 0, .string ⟨#[]⟩, .int .i64 0, .int .i64 0, .string ⟨#[]⟩, .int .i64 0, .int .i64 0, .string ⟨#[]⟩, .int .i64 0, .int .i64 0, .string ⟨#[]⟩, .int .i64 0, .int .i64 0, .string ⟨#[]⟩], .int .i64 er]) (results_blk_tmp Tryz.results72 rfl hS 1 rfl (by kernel_rfl) (by kernel_rfl) rfl) rfl ⟨rfl, by (try dsimp only); rw [hSe.out]; exact hS.drop.drop.drop⟩
 rw [if_neg (by simp [her])]
 have hgi := Lib.hid (hgid.out her)
 have hpu := Lib.hid (hput.out her)
 subst her
 clear hput hgid
 by_cases hv : 1099511627776 ≤ cv
 · rw [if_pos hv]
   have dv : decide (1099511627776 ≤ cv) = true := decide_eq_true hv
   clear hv
   go_enter Tryz.func72, Tryz.ntmps72
   go_wp2_with (first | (go_at_call 69; (with_reducible refine (cC.out _).mono ?_); rintro _ w3 ⟨rfl, hk9⟩; replace hS := hS.keepB hk9; clear hk9) | (with_reducible refine wpList_box_st hS rfl rfl rfl ?_; clear hS; intro gp w1 hS) | ((with_reducible refine wpList_loadall_st 1 hS rfl rfl rfl rfl ?_ hsz ?_); focus (simp [rowB, go_sem]; done)) | (go_at_call 49; (with_reducible refine (cG.out _ (hAt.out _ _ _ _ _ hS)).mono ?_); rintro _ w3 ⟨rfl, hk9⟩; replace hS := hS.keepB hk9; clear hk9) | ((with_reducible refine wpList_storerow_st (t := 58) (n := 27) (vs := Value.int .i64 ci :: .int .i64 cv :: CT) 0 hS rfl rfl rfl rfl (by kernel_rfl) rfl hcl hco (by kernel_rfl) ?_); clear hS; intro w1 hS; try simp only [List.set_cons_zero, List.set_cons_succ, List.setIfInBounds_toArray, List.take_succ_cons, List.take_zero, List.drop_succ_cons, List.drop_zero, List.nil_append, List.cons_append, List.append_nil, List.drop_nil, List.take_nil, List.length_cons, List.length_nil, Nat.zero_add, Nat.add_zero, Nat.reduceAdd] at hS) | (with_reducible refine al hS rfl rfl ?_; clear hS; intro g1 w1 hS) | (with_reducible refine ld 0 hS rfl rfl rfl rfl rfl ?_) | (with_reducible refine stor 1 hS rfl rfl rfl rfl rfl rfl rfl rfl ?_; clear hS; intro w1 hS))
   rw [sgV_zero]
   exact bodyPost_ret (v := .tuple #[.agg #[.int .i64 0, .int .i64 0, .int .u32 0, .int .i64 0, .int .i64 0, .string ⟨#[]⟩, .int .i64 0, .int .i64 0, .string ⟨#[]⟩, .int .i64 0, .int .i64 0, .string ⟨#[]⟩, .int .i64 0, .int .i64 0, .string ⟨#[]⟩, .int .i64 0, .int .i64 0, .string ⟨#[]⟩, .int .i64 0, .int .i64 0, .string ⟨#[]⟩, .int .i64 0, .int .i64 0, .string ⟨#[]⟩, .int .i64 0, .int .i64 0, .string ⟨#[]⟩], .int .i64 8]) (results_blk_tmp Tryz.results72 rfl hS 1 rfl (by kernel_rfl) (by kernel_rfl) rfl) rfl ⟨rfl, by (try dsimp only); rw [hSe.out]; exact hS.drop.drop.drop⟩
 rw [if_neg hv]
 have dv : decide (1099511627776 ≤ cv) = false := decide_eq_false hv
 clear hv
 have hmx : ML < maxLen := by unfold maxLen; omega
 have hrc : ((Value.int .i64 ci :: .int .i64 cv :: CT).toArray.toList.drop 0).take 27 = Value.int .i64 ci :: .int .i64 cv :: CT := by simp [← hcl]
 have hrd : ((cdRow MC).toArray.toList.drop 0).take 27 = cdRow MC := by simp [← hdl]
 have hsc : sizeB Tryz.prog 58 (Value.int .i64 ci :: .int .i64 cv :: CT).toArray.size = true := by rw [List.size_toArray, hcl]; kernel_rfl
 have hsd : sizeB Tryz.prog 58 (cdRow MC).toArray.size = true := by rw [List.size_toArray, hdl]; kernel_rfl
 have hbl : Nat.ble (0 + 27) (Value.int .i64 ci :: .int .i64 cv :: CT).toArray.size = true := by simp [hcl]
 have hwh : ((Value.int .i64 ci :: .int .i64 cv :: CT).toArray.toList.take 0 ++ cdRow MC ++ (Value.int .i64 ci :: .int .i64 cv :: CT).toArray.toList.drop (0 + 27)).toArray = (cdRow MC).toArray := by simp [← hcl]
 generalize hRD : cdRow MC = RD at *
 replace hRD := Lib.hid hRD
 go_enter Tryz.func72, Tryz.ntmps72
 go_wp2_with (first | (go_at_call 69; (with_reducible refine (cC.out _).mono ?_); rintro _ w3 ⟨rfl, hk9⟩; replace hS := hS.keepB hk9; clear hk9) | (with_reducible refine wpList_box_st hS rfl rfl rfl ?_; clear hS; intro gp w1 hS) | ((with_reducible refine wpList_loadall_st 1 hS rfl rfl rfl rfl ?_ hsz ?_); focus (simp [rowB, go_sem]; done)) | (go_at_call 49; (with_reducible refine (cG.out _ (hAt.out _ _ _ _ _ hS)).mono ?_); rintro _ w3 ⟨rfl, hk9⟩; replace hS := hS.keepB hk9; clear hk9) | ((with_reducible refine wpList_storerow_st (t := 58) (n := 27) (vs := Value.int .i64 ci :: .int .i64 cv :: CT) 0 hS rfl rfl rfl rfl (by kernel_rfl) rfl hcl hco (by kernel_rfl) ?_); clear hS; intro w1 hS; try simp only [List.set_cons_zero, List.set_cons_succ, List.setIfInBounds_toArray, List.take_succ_cons, List.take_zero, List.drop_succ_cons, List.drop_zero, List.nil_append, List.cons_append, List.append_nil, List.drop_nil, List.take_nil, List.length_cons, List.length_nil, Nat.zero_add, Nat.add_zero, Nat.reduceAdd] at hS) | ((with_reducible refine wpList_loadall_st 2 hS rfl rfl rfl rfl ?_ hsz ?_); focus (simp [rowB, go_sem]; done)) | ((with_reducible refine wpList_loadall_st 0 hS rfl rfl rfl rfl ?_ hsc ?_); focus (simp [rowB, go_sem]; done)) | (go_at_call 115; (with_reducible refine (cM.out _ (htab.out.fr hS.fr hT.out)).mono ?_); rintro _ w3 ⟨rfl, hk9⟩; replace hS := hS.keepB hk9; clear hk9) | ((with_reducible refine wpList_storerow_st (t := 58) (n := 27) (j := 0) (vs := RD) 0 hS rfl rfl rfl rfl (by kernel_rfl) rfl hdl hdo hbl ?_); intro w1 hS1; clear hS; simp only [List.set_cons_zero] at hS1; rw [hwh] at hS1; have hS := hS1; clear hS1) | (with_reducible refine al hS rfl rfl ?_; clear hS; intro g1 w1 hS) | (with_reducible refine ld 0 hS rfl rfl rfl rfl rfl ?_))
 have hS1 := hS.re6
 clear hS
 have hS := hS1
 clear hS1
 refine mixs_beginC2 (by kernel_rfl) hS ?_
 clear hS
 intro w2 hS hC
 have kg := hC.kblk 1 rfl
 have kr := hC.krow (P := Tryz.prog) (j := 0) 0 rfl (t := 58) (by kernel_rfl) (n := 27) (by kernel_rfl) hrd hdl
 refine tk 0 ?_
 refine tk 1 ?_
 refine tk 2 ?_
 refine tk 3 ?_
 refine tk 4 ?_
 refine tkr 5 kr ?_
 refine mixs_one 6 (by kernel_rfl) rfl (fun K hK => ?_)
 ((refine op_mapput_st (k := 3) (by kernel_rfl) 2 hS rfl rfl rfl rfl rfl Tryz.underlying3 Tryz.underlying99 hmx hwk ?_; clear hS; intro w1 hS; try simp only [List.set_cons_zero, List.set_cons_succ, List.setIfInBounds_toArray, List.take_succ_cons, List.take_zero, List.drop_succ_cons, List.drop_zero, List.nil_append, List.cons_append, List.append_nil, List.drop_nil, List.take_nil, List.length_cons, List.length_nil, Nat.zero_add, Nat.add_zero, Nat.reduceAdd] at hS))
 try clear hC
 refine cl hK (fun hC => ?_)
 clear hK K
 refine wpAnyH_done (by kernel_rfl) ?_ _
 clear kg kr
 try clear hC
 go_wp2_with (first | ((with_reducible refine wpList_loadrow_st (t := 58) (n := 27) (j := 0) (vs := RD) 0 hS rfl rfl rfl rfl (by kernel_rfl) (by kernel_rfl) hrd hdl ?_)) | ((with_reducible refine wpList_storerow_st (t := 58) (n := 27) (vs := RD) 4 hS rfl rfl rfl rfl (by kernel_rfl) rfl hdl hdo (by kernel_rfl) ?_); clear hS; intro w1 hS; try simp only [List.set_cons_zero, List.set_cons_succ, List.setIfInBounds_toArray, List.take_succ_cons, List.take_zero, List.drop_succ_cons, List.drop_zero, List.nil_append, List.cons_append, List.append_nil, List.drop_nil, List.take_nil, List.length_cons, List.length_nil, Nat.zero_add, Nat.add_zero, Nat.reduceAdd] at hS))
 rw [hmV.out]
 refine bodyPost_ret (v := .tuple #[.agg RD.toArray, .int .i64 0]) (results_blk_tmp Tryz.results72 rfl hS 4 rfl (by kernel_rfl) hsd rfl) rfl ⟨rfl, ?_⟩
 have h9 : St w F [Ch.blk g 101 #[.int .i64 nx, .map (some gm), .slice da dn dc], Ch.map Tryz.prog 3 gm (ML + 1) (putM M1 id (.agg RD.toArray)), Ch.row 91 3 (.slice da dn dc) dn DR] _ := hS.drop.take3
 have hpm := hpu.out
 rw [hMid.out, hgi.out.1] at hpm
 rw [← hpm] at h9
 have h8 := h9.maptight 1 rfl Tryz.underlying3 hpr.out hpw.out
 try dsimp only
 rw [e0]
 exact h8
end Go.Proofs.YtneolmnpebiifaaGreatDoor
end
