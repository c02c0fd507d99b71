/- Groups: the document's calls: one turned, a card that joins and quits, one opened, one closed. -/
import Derived.Test.YtplgpbbghhlbjaaMixSDev
import Derived.Test.YtplgpbbghhlbjaaGrp8
set_option linter.unusedSimpArgs false
set_option linter.unusedVariables false
namespace Go.Proofs.Ytplgpbbghhlbjaa
open Go.RowKit Go.Ofp
set_option linter.unusedVariables false
set_option maxRecDepth 100000
set_option maxHeartbeats 4000000

theorem build_g2 (g : Int) (A : Option Addr) (N C : Nat) (w : World) : (Instr.build 58 #[(0, .int .i64 g), (1, .slice A N C)]).run Try.prog w = .ok (.agg #[.int .i64 g, .slice A N C]) w := by kernel_rfl

theorem wpList_build2 {P : Program} {w : World} {ops : Array Oper} {rest : List Oper} {o : Oper} {a : Act} {Q : Exit → Act → World → Prop} (hgd : o.guard = none) {t k1 k2 : Nat} {x1 x2 : Operand} (ho : o.op = .build t #[(k1, x1), (k2, x2)]) (v1 v2 : Value) (hx1 : a.eval x1 = v1) (hx2 : a.eval x2 = v2) {u : Value} (hr : ∀ w : World, (Instr.build t #[(k1, v1), (k2, v2)]).run P w = .ok u w)
    (h : wpList P ops Q rest (a.put o.dst u) w) : wpList P ops Q (o :: rest) a w := by
  refine wpList_plain hgd fun K hK => ?_
  unfold Oper.wp execOp
  simp only [ho, List.map_toArray, List.map_cons, List.map_nil, hx1, hx2, Sem.run_bind, hr, Result.andThen_ok, Sem.run_pure]
  exact hK _ _ h

theorem rturn_any (a : Option Addr) (gs : List Gr) (n cap p : Nat) (A : Option Addr) (N C : Nat) (w : World) (hD : Deep w a n cap gs) (hm : n ≤ 1000) (hp : p < gs.length) :
    Calls Try.prog 79 #[.slice a n cap, .int .i64 p, .slice A N C] w (GRowRet (grows (gs.take p) ++ [.int .i64 gs[p].no, .slice A N C] ++ grows (gs.drop (p + 1))) n w) := by
  have hS := St.start w
  have hlen := hD.len
  have hpn : p < n := by omega
  obtain ⟨b, off, rfl, c0, -⟩ := hD.get p hp
  have hsl := hD.sl
  have hgl := grows_len gs
  have hone := grows_one gs
  have hfin : (grows gs).take (p * 2) ++ [.int .i64 gs[p].no, .slice A N C] ++ (grows gs).drop (p * 2 + 2) = grows (gs.take p) ++ [.int .i64 gs[p].no, .slice A N C] ++ grows (gs.drop (p + 1)) := by
    rw [grows_take, show p * 2 + 2 = (p + 1) * 2 by omega, grows_drop]
  rw [← hfin]
  rw [hlen] at hgl
  generalize gs[p].no = g at c0
  clear hfin hlen hD
  generalize grows gs = xs at *
  replace hsl := Lib.hid hsl
  replace hgl := Lib.hid hgl
  replace c0 := Lib.hid c0
  go_enter Try.func79, Try.ntmps79
  go_wp2_with (first
    | ((with_reducible refine wpList_build0_st hS rfl rfl Try.underlying52 elem_g ?_); intro g1 w3 hS1; clear hS; have hS := hS1; clear hS1)
    | (at_builtin; ((with_reducible refine wpList_app_st 0 hS rfl rfl rfl Try.underlying52 elem_g rfl (Src.slice Try.underlying52 (hS.sl hsl.out) hgl.out) rfl hone (by omega) (by unfold maxLen; omega) ?_); intro v5 w3 hS1; clear hS; simp only [List.set_cons_zero, Nat.zero_add, List.nil_append] at hS1; have hS := hS1; clear hS1; obtain ⟨g5, c5, rfl, -⟩ := hS.rowat 0 rfl (by omega); have hcell := hS.old c0.out (by simp)))
    | ((with_reducible refine wpList_build2 rfl rfl (.int .i64 g) (.slice A N C) rfl rfl (build_g2 g A N C) ?_); clear hcell)
    | ((with_reducible refine wpList_storeelem_st 0 p (vs := [.int .i64 g, .slice A N C]) hS rfl rfl rfl rfl rfl (by kernel_rfl) rfl rfl rfl hpn ?_); intro w4 hS1; clear hS; simp only [List.set_cons_zero] at hS1; have hS := hS1; clear hS1))
  go_ret
  exact ⟨_, _, rfl, hS⟩

theorem rjoin_any (a : Option Addr) (gs : List Gr) (n cap : Nat) (g id : Int) (w : World) (hD : Deep w a n cap gs) (hm : n ≤ 1000) (hmm : ∀ g ∈ gs, g.mem.length ≤ 10000) (hu : Ids.Up (nos gs)) :
    Calls Try.prog 49 #[.slice a n cap, .int .i64 g, .int .i64 id] w (GsOut (joinK (keys gs) g id) w) := by
  rw [← turn_join]
  have hS := St.start w
  have cF := rfind_any a gs n cap g id w hD (by omega) hu
  have hlt := Ids.has_lt (nos gs) g hu
  have hhp := Ids.has_place (nos gs) g hu
  have hnl : (nos gs).length = n := by rw [nos, List.length_map, hD.len]
  have hlen := hD.len
  rw [hnl] at hlt
  unfold turnK memAt
  rw [← nos_keys]
  generalize Ids.has (nos gs) g = hb at cF hlt hhp ⊢
  generalize Ids.place (nos gs) g = p at cF hlt hhp ⊢
  clear hu
  unfold findR at cF
  by_cases hbad : g < 0 ∨ 16 ≤ g ∨ id < 1 ∨ 1073741824 ≤ id
  · rw [if_pos hbad] at cF ⊢
    replace cF := Lib.hid cF
    clear hlen hlt hnl hhp hbad hD
    go_enter Try.func49, Try.ntmps49
    go_wp2_with (go_at_call 78; (with_reducible refine cF.out.mono ?_); rintro _ _ ⟨rfl, rfl⟩)
    go_ret2
    exact gsOut_err hS.below
  · rw [if_neg hbad] at cF ⊢
    clear hbad
    cases hb with
    | false =>
      rw [if_neg (by simp)] at cF ⊢
      replace cF := Lib.hid cF
      clear hlen hlt hnl hhp hD
      go_enter Try.func49, Try.ntmps49
      go_wp2_with (go_at_call 78; (with_reducible refine cF.out.mono ?_); rintro _ _ ⟨rfl, rfl⟩)
      go_ret2
      exact gsOut_err hS.below
    | true =>
      rw [if_pos rfl] at cF ⊢
      have hpn := hlt rfl
      have hpg : p < gs.length := by omega
      have hno : gs[p].no = g := by
        rw [dif_pos (by rw [hnl]; exact hpn)] at hhp
        have := of_decide_eq_true hhp.symm
        simpa [nos] using this
      have cT := fun A N C W (h : Deep W a n cap gs) => rturn_any a gs n cap p A N C W h hm hpg
      obtain ⟨b, off, rfl, c0, c1⟩ := hD.get p hpg
      have hgM := hD.mem gs[p] (List.getElem_mem hpg)
      have hgl := hmm gs[p] (List.getElem_mem hpg)
      have hmem : ((keys gs).getD p (0, [])).2 = gs[p].mem := by
        unfold keys
        simp [List.getD_eq_getElem?_getD, hpg, Gr.key]
      rw [hmem]
      have hset : (keys gs).set p (g, (joinM gs[p].mem id).2) = (keys gs).take p ++ (gs[p].no, (joinM gs[p].mem id).2) :: (keys gs).drop (p + 1) := by
        rw [set_split _ _ _ (by simp [keys]; exact hpg), hno]
      rw [hset]
      generalize gs[p] = gp0 at c0 c1 hgM hgl cT
      have cH := fun W h => rhas_any gp0.a gp0.mem gp0.mem.length gp0.c id W h rfl (Nat.le_trans hgM.le hgM.cm)
      have cP := fun W h => rput_any gp0.a gp0.mem gp0.mem.length gp0.c id W h rfl (by omega) hgM.le
      have hsl := Lib.hid (fun W (h : St w [] [] W) => h.sl hgM.sl)
      have hDl := Lib.hid (fun W (h : St w [] [] W) => hD.below h.below)
      have hMl := Lib.hid (fun W (h : St w [] [] W) g hg => (hD.mem g hg).below h.below)
      unfold joinM
      generalize Ids.has gp0.mem id = hb2 at cH ⊢
      generalize Ids.put gp0.mem id = nm at cP ⊢
      generalize gp0.mem.length = l1 at *
      replace c1 := Lib.hid c1
      have hcc := Lib.hid (fun W (h : St w [] [] W) => h.old c1.out (by simp))
      replace cF := Lib.hid cF
      replace cH := Lib.hid cH
      replace cP := Lib.hid cP
      replace cT := Lib.hid cT
      have hlx : ∀ x : Gr, (gs.take p ++ x :: gs.drop (p + 1)).length = n := by intro x; simp; omega
      clear hlt hnl hhp hmem hset hno c0 hD
      have hcell := hcc.out _ hS
      cases hb2
      all_goals
        simp only [reduceIte, Bool.false_eq_true, Int.reduceEq]
        go_enter Try.func49, Try.ntmps49
        go_wp2_with (first
          | (go_at_call 78; (with_reducible refine cF.out.mono ?_); rintro _ _ ⟨rfl, rfl⟩)
          | (go_at_call 25; (with_reducible refine (cH.out _ (hsl.out _ hS)).mono ?_); rintro _ _ ⟨rfl, rfl⟩)
          | (go_at_call 32; (with_reducible refine (cP.out _ (hsl.out _ hS)).mono ?_); rintro _ w4 ⟨a5, c5, rfl, h51, h52, hb4⟩; have hS1 := hS.made hb4; clear hS hb4 hcell; have hS := hS1; clear hS1)
          | (go_at_call 79; (with_reducible refine (cT.out _ _ _ _ (hDl.out _ hS.empty)).mono ?_); rintro _ w5 ⟨a6, c6, rfl, hb5⟩; have hS1 := hS.made hb5; clear hS hb5; have hS := hS1; clear hS1))
        go_ret2
        first
          | exact gsOut_err hS.below
          | (have hd := deep_of (gs := gs.take p ++ (⟨gp0.no, a5, c5, nm⟩ : Gr) :: gs.drop (p + 1)) hS (by rw [grows_append]; simp [grows, Gr.row]) (hlx _) (by
              intro x hx
              simp only [List.mem_append, List.mem_cons] at hx
              rcases hx with hx | rfl | hx
              · exact .inr (hMl.out _ hS.empty x (List.mem_of_mem_take hx))
              · exact .inl List.mem_cons_self
              · exact .inr (hMl.out _ hS.empty x (List.mem_of_mem_drop hx)))
             refine ⟨_, _, _, ?_, ?_, by rw [hlx]; exact hd, hS.below⟩
             · simp [keys, Gr.key]
             · rw [hlx]; rfl)

theorem rquit_any (a : Option Addr) (gs : List Gr) (n cap : Nat) (g id : Int) (w : World) (hD : Deep w a n cap gs) (hm : n ≤ 1000) (hmm : ∀ g ∈ gs, g.mem.length ≤ 10000) (hu : Ids.Up (nos gs)) :
    Calls Try.prog 50 #[.slice a n cap, .int .i64 g, .int .i64 id] w (GsOut (quitK (keys gs) g id) w) := by
  rw [← turn_quit]
  have hS := St.start w
  have cF := rfind_any a gs n cap g id w hD (by omega) hu
  have hlt := Ids.has_lt (nos gs) g hu
  have hhp := Ids.has_place (nos gs) g hu
  have hnl : (nos gs).length = n := by rw [nos, List.length_map, hD.len]
  have hlen := hD.len
  rw [hnl] at hlt
  unfold turnK memAt
  rw [← nos_keys]
  generalize Ids.has (nos gs) g = hb at cF hlt hhp ⊢
  generalize Ids.place (nos gs) g = p at cF hlt hhp ⊢
  clear hu
  unfold findR at cF
  by_cases hbad : g < 0 ∨ 16 ≤ g ∨ id < 1 ∨ 1073741824 ≤ id
  · rw [if_pos hbad] at cF ⊢
    replace cF := Lib.hid cF
    clear hlen hlt hnl hhp hbad hD
    go_enter Try.func50, Try.ntmps50
    go_wp2_with (go_at_call 78; (with_reducible refine cF.out.mono ?_); rintro _ _ ⟨rfl, rfl⟩)
    go_ret2
    exact gsOut_err hS.below
  · rw [if_neg hbad] at cF ⊢
    clear hbad
    cases hb with
    | false =>
      rw [if_neg (by simp)] at cF ⊢
      replace cF := Lib.hid cF
      clear hlen hlt hnl hhp hD
      go_enter Try.func50, Try.ntmps50
      go_wp2_with (go_at_call 78; (with_reducible refine cF.out.mono ?_); rintro _ _ ⟨rfl, rfl⟩)
      go_ret2
      exact gsOut_err hS.below
    | true =>
      rw [if_pos rfl] at cF ⊢
      have hpn := hlt rfl
      have hpg : p < gs.length := by omega
      have hno : gs[p].no = g := by
        rw [dif_pos (by rw [hnl]; exact hpn)] at hhp
        have := of_decide_eq_true hhp.symm
        simpa [nos] using this
      have cT := fun A N C W (h : Deep W a n cap gs) => rturn_any a gs n cap p A N C W h hm hpg
      obtain ⟨b, off, rfl, c0, c1⟩ := hD.get p hpg
      have hgM := hD.mem gs[p] (List.getElem_mem hpg)
      have hgl := hmm gs[p] (List.getElem_mem hpg)
      have hmem : ((keys gs).getD p (0, [])).2 = gs[p].mem := by
        unfold keys
        simp [List.getD_eq_getElem?_getD, hpg, Gr.key]
      rw [hmem]
      have hset : (keys gs).set p (g, (quitM gs[p].mem id).2) = (keys gs).take p ++ (gs[p].no, (quitM gs[p].mem id).2) :: (keys gs).drop (p + 1) := by
        rw [set_split _ _ _ (by simp [keys]; exact hpg), hno]
      rw [hset]
      generalize gs[p] = gp0 at c0 c1 hgM hgl cT
      have cH := fun W h => rhas_any gp0.a gp0.mem gp0.mem.length gp0.c id W h rfl (Nat.le_trans hgM.le hgM.cm)
      have cP := fun W h => rdrop_any gp0.a gp0.mem gp0.mem.length gp0.c id W h rfl (by omega)
      have hsl := Lib.hid (fun W (h : St w [] [] W) => h.sl hgM.sl)
      have hDl := Lib.hid (fun W (h : St w [] [] W) => hD.below h.below)
      have hMl := Lib.hid (fun W (h : St w [] [] W) g hg => (hD.mem g hg).below h.below)
      unfold quitM
      generalize Ids.has gp0.mem id = hb2 at cH ⊢
      generalize Ids.drop gp0.mem id = nm at cP ⊢
      generalize gp0.mem.length = l1 at *
      replace c1 := Lib.hid c1
      have hcc := Lib.hid (fun W (h : St w [] [] W) => h.old c1.out (by simp))
      replace cF := Lib.hid cF
      replace cH := Lib.hid cH
      replace cP := Lib.hid cP
      replace cT := Lib.hid cT
      have hlx : ∀ x : Gr, (gs.take p ++ x :: gs.drop (p + 1)).length = n := by intro x; simp; omega
      clear hlt hnl hhp hmem hset hno c0 hD
      have hcell := hcc.out _ hS
      cases hb2
      all_goals
        simp only [reduceIte, Bool.false_eq_true, Int.reduceEq]
        go_enter Try.func50, Try.ntmps50
        go_wp2_with (first
          | (go_at_call 78; (with_reducible refine cF.out.mono ?_); rintro _ _ ⟨rfl, rfl⟩)
          | (go_at_call 25; (with_reducible refine (cH.out _ (hsl.out _ hS)).mono ?_); rintro _ _ ⟨rfl, rfl⟩)
          | (go_at_call 33; (with_reducible refine (cP.out _ (hsl.out _ hS)).mono ?_); rintro _ w4 ⟨a5, c5, rfl, h51, h52, hb4⟩; have hS1 := hS.made hb4; clear hS hb4 hcell; have hS := hS1; clear hS1)
          | (go_at_call 79; (with_reducible refine (cT.out _ _ _ _ (hDl.out _ hS.empty)).mono ?_); rintro _ w5 ⟨a6, c6, rfl, hb5⟩; have hS1 := hS.made hb5; clear hS hb5; have hS := hS1; clear hS1))
        go_ret2
        first
          | exact gsOut_err hS.below
          | (have hd := deep_of (gs := gs.take p ++ (⟨gp0.no, a5, c5, nm⟩ : Gr) :: gs.drop (p + 1)) hS (by rw [grows_append]; simp [grows, Gr.row]) (hlx _) (by
              intro x hx
              simp only [List.mem_append, List.mem_cons] at hx
              rcases hx with hx | rfl | hx
              · exact .inr (hMl.out _ hS.empty x (List.mem_of_mem_take hx))
              · exact .inl List.mem_cons_self
              · exact .inr (hMl.out _ hS.empty x (List.mem_of_mem_drop hx)))
             refine ⟨_, _, _, ?_, ?_, by rw [hlx]; exact hd, hS.below⟩
             · simp [keys, Gr.key]
             · rw [hlx]; rfl)
end Go.Proofs.Ytplgpbbghhlbjaa
