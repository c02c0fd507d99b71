import Derived.Laws.BitsAllLaws
import Derived.Test.YtkbekagmfbgefaaM6
set_option linter.unusedVariables false
set_option linter.unusedSimpArgs false
set_option maxRecDepth 100000
section
namespace Go.Proofs.Ytkbekagmfbgefaa
open Go.RowKit Go.Ofp
set_option maxHeartbeats 4000000
def MOut (r : Int × List Int) (w : World) (e : Ending) (w' : World) : Prop := ∃ a c, e = .returned (.tuple #[.slice a r.2.length c, .int .i64 r.1]) ∧ St w [] [irow a c r.2] w'
def joinM (m : List Int) (id : Int) : Int × List Int := if Ids.has m id then (7, []) else (0, Ids.put m id)
def quitM (m : List Int) (id : Int) : Int × List Int := if Ids.has m id then (0, Ids.drop m id) else (6, [])
theorem mOut_err {w w' : World} {e : Int} (hS : St w [] [] w') : MOut (e, []) w (.returned (.tuple #[.slice none 0 0, .int .i64 e])) w' := ⟨none, 0, rfl, hS.nilrow 3 1⟩
def turnK (ks : List Key) (g id : Int) (f : List Int → Int → Int × List Int) : Int × List Key :=
  if g < 0 ∨ 16 ≤ g ∨ id < 1 ∨ 1073741824 ≤ id then (1, []) else if Ids.has (knos ks) g then
    (if (f (memAt ks g) id).1 = 0 then (0, ks.set (Ids.place (knos ks) g) (g, (f (memAt ks g) id).2)) else ((f (memAt ks g) id).1, [])) else (6, [])
theorem turn_join (ks : List Key) (g id : Int) : turnK ks g id joinM = joinK ks g id := by
  unfold turnK joinK joinM
  by_cases h1 : g < 0 ∨ 16 ≤ g ∨ id < 1 ∨ 1073741824 ≤ id
  · rw [if_pos h1, if_pos h1]
  · rw [if_neg h1, if_neg h1]
    cases Ids.has (knos ks) g <;> cases Ids.has (memAt ks g) id <;> simp
theorem turn_quit (ks : List Key) (g id : Int) : turnK ks g id quitM = quitK ks g id := by
  unfold turnK quitK quitM
  by_cases h1 : g < 0 ∨ 16 ≤ g ∨ id < 1 ∨ 1073741824 ≤ id
  · rw [if_pos h1, if_pos h1]
  · rw [if_neg h1, if_neg h1]
    cases Ids.has (knos ks) g <;> cases Ids.has (memAt ks g) id <;> simp
theorem set_split {α : Type} (l : List α) (p : Nat) (x : α) (h : p < l.length) : l.set p x = l.take p ++ x :: l.drop (p + 1) := by
  rw [List.set_eq_take_append_cons_drop, if_pos h]
theorem join1_any (A : Option Addr) (m : List Int) (C gi : Nat) (id : Int) (w : World) (hs : Sl w A (m.map vi)) (hm : m.length ≤ 10000) (hc : A = none → C = 0) (hu : Ids.Up m) (hi : w.cell? ⟨gi, 0, none⟩ = some (.int .i64 id)) :
    Calls Try.prog 36 #[.slice A m.length C, .pointer (some ⟨gi, 0, none⟩)] w (MOut (joinM m id) w) := by
  have hS := St.start w
  have cH := fun W h => has_any A m m.length C id W h rfl (by omega) hu
  have cP := fun W h => put_any A m m.length C id W h rfl hm hc hu
  unfold joinM
  generalize Ids.has m id = hb at cH ⊢
  generalize m.length = n at *
  replace cH := Lib.hid cH
  replace cP := Lib.hid cP
  replace hs := Lib.hid hs
  clear hu hc
  cases hb
  all_goals
    go_enter Try.func36, Try.ntmps36
    go_wp2_with (first
      | (go_at_call 31; (with_reducible refine (cH.out _ (hS.sl hs.out)).mono ?_); rintro _ _ ⟨rfl, rfl⟩)
      | (go_at_call 37; (with_reducible refine (cP.out _ (hS.sl hs.out)).mono ?_); rintro _ w3 ⟨a3, c3, rfl, h31, h32, hb3⟩; have hS1 := hS.made hb3; clear hS hb3; have hS := hS1; clear hS1))
    go_ret2
    first
      | exact mOut_err hS
      | exact ⟨_, _, rfl, hS⟩
theorem turned_join (a : Option Addr) (gs : List Gr) (n cap gi : Nat) (g id : Int) (w : World) (hD : Deep w a n cap gs) (hm : n ≤ 1000) (hmm : ∀ g ∈ gs, g.mem.length ≤ 10000) (hu : Ids.Up (nos gs)) (hum : ∀ g ∈ gs, Ids.Up g.mem) (hi : w.cell? ⟨gi, 0, none⟩ = some (.int .i64 id)) :
    Calls Try.prog 35 #[.slice a n cap, .int .i64 g, .int .i64 id, .func (.func 36) #[] #[.pointer (some ⟨gi, 0, none⟩)]] w (GsOut (turnK (keys gs) g id joinM) w) := by
  have hS := St.start w
  have cF := fun W (h : Deep W a n cap gs) => find_any a gs n cap g W h (by omega) hu
  have cC := fun W (h : Deep W a n cap gs) => copied_any a gs n cap W h hm hmm
  have hnl : (nos gs).length = n := by rw [nos, List.length_map, hD.len]
  have hlen := hD.len
  have hlt := Ids.has_lt (nos gs) g hu
  have hhp := Ids.has_place (nos gs) g hu
  rw [hnl] at hlt
  unfold turnK memAt
  rw [← nos_keys]
  generalize Ids.has (nos gs) g = hb at cF hlt hhp ⊢
  generalize Ids.place (nos gs) g = p at cF hlt hhp ⊢
  have hD3 := fun W (h : Below w.heap.size w W) => hD.below h
  replace hD := Lib.hid hD
  replace cF := Lib.hid cF
  replace cC := Lib.hid cC
  replace hD3 := Lib.hid hD3
  have hio := Lib.hid (fun W (h : Below w.heap.size w W) => (Below.cell h (p := ⟨gi, 0, none⟩) (World.block_lt_of_cell? w _ hi)).trans hi)
  clear hi hu
  by_cases hbad : g < 0 ∨ 16 ≤ g ∨ id < 1 ∨ 1073741824 ≤ id
  · rw [if_pos hbad]
    clear hlen hlt hnl hhp
    have key : g < 0 ∨ (decide (g < 0) = false ∧ 16 ≤ g) ∨ (decide (g < 0) = false ∧ decide (16 ≤ g) = false ∧ id < 1) ∨ (decide (g < 0) = false ∧ decide (16 ≤ g) = false ∧ decide (id < 1) = false ∧ 1073741824 ≤ id) := by
      by_cases k1 : g < 0
      · exact .inl k1
      · by_cases k2 : 16 ≤ g
        · exact .inr (.inl ⟨decide_eq_false k1, k2⟩)
        · by_cases k3 : id < 1
          · exact .inr (.inr (.inl ⟨decide_eq_false k1, decide_eq_false k2, k3⟩))
          · exact .inr (.inr (.inr ⟨decide_eq_false k1, decide_eq_false k2, decide_eq_false k3, by omega⟩))
    clear hbad
    rcases key with k1 | ⟨k1, k2⟩ | ⟨k1, k2, k3⟩ | ⟨k1, k2, k3, k4⟩
    all_goals
      go_enter Try.func35, Try.ntmps35
      go_wp2_with fail
      go_ret2
      exact gsOut_err hS.below
  · rw [if_neg hbad]
    have d1 : decide (g < 0) = false := decide_eq_false (by omega)
    have d2 : decide (16 ≤ g) = false := decide_eq_false (by omega)
    have d3 : decide (id < 1) = false := decide_eq_false (by omega)
    have d4 : decide (1073741824 ≤ id) = false := decide_eq_false (by omega)
    clear hbad
    cases hb with
    | false =>
      rw [if_neg (by simp)]
      clear hlen hlt hnl hhp
      go_enter Try.func35, Try.ntmps35
      go_wp2_with (go_at_call 33; (with_reducible refine (cF.out _ hD.out).mono ?_); rintro _ w3 ⟨rfl, hb3⟩; have hS1 := hS.keepB hb3; clear hb3 hS; have hS := hS1; clear hS1)
      go_ret2
      exact gsOut_err hS.below
    | true =>
      rw [if_pos rfl]
      have hpn := hlt rfl
      have hpg : p < gs.length := by omega
      have hno : gs[p].no = g := by
        rw [dif_pos (by rw [hnl]; exact hpn)] at hhp
        have := of_decide_eq_true hhp.symm
        simpa [nos] using this
      obtain ⟨b, off, rfl, c0, c1⟩ := hD.out.get p hpg
      have hgM := hD.out.mem gs[p] (List.getElem_mem hpg)
      have hgl := hmm gs[p] (List.getElem_mem hpg)
      have hgu := hum gs[p] (List.getElem_mem hpg)
      have hmem : ((keys gs).getD p (0, [])).2 = gs[p].mem := by
        unfold keys
        simp [List.getD_eq_getElem?_getD, hpg, Gr.key]
      rw [hmem]
      have hset : (keys gs).set p (g, (joinM gs[p].mem id).2) = (keys gs).take p ++ (gs[p].no, (joinM gs[p].mem id).2) :: (keys gs).drop (p + 1) := by
        rw [set_split _ _ _ (by simp [keys]; exact hpg), hno]
      rw [hset]
      have hkp : (keys gs)[p]? = some gs[p].key := by simp [keys, hpg]
      generalize gs[p] = gp0 at c0 c1 hgM hgl hgu hkp
      have cJ := fun W h1 h2 => join1_any gp0.a gp0.mem gp0.c gi id W h1 hgl hgM.nz hgu h2
      obtain ⟨⟨fe, fl⟩, hfe⟩ : ∃ x, joinM gp0.mem id = x := ⟨_, rfl⟩
      rw [hfe] at cJ ⊢
      have hsl := Lib.hid (fun W (h : Below w.heap.size w W) => hgM.sl.below h)
      clear hfe hlt hnl hhp hmem hset hgM hno
      replace cJ := Lib.hid cJ
      replace hlen := Lib.hid hlen
      replace c1 := Lib.hid c1
      clear c0
      replace hkp := Lib.hid hkp
      have hcc := Lib.hid (fun W (h : St w [] [] W) => h.old c1.out (by simp))
      by_cases hf : fe = 0
      · subst hf
        rw [if_pos rfl]
        go_enter Try.func35, Try.ntmps35
        go_wp2_with (first
          | (go_at_call 33; (with_reducible refine (cF.out _ hD.out).mono ?_); rintro _ w3 ⟨rfl, hb3⟩; have hS1 := hS.keepB hb3; clear hb3 hS; have hS := hS1; clear hS1; have hcell := hcc.out _ hS)
          | (go_at_call 36; (with_reducible refine (cJ.out _ (hsl.out _ hS.below) (hio.out _ hS.below)).mono ?_); rintro _ w4 ⟨a5, c5, rfl, hb4⟩; clear hcell; have hS1 := hS.made hb4; clear hS hb4; have hS := hS1; clear hS1)
          | (go_at_call 43; (with_reducible refine (cC.out _ (hD3.out _ hS.below)).mono ?_); rintro _ w3 ⟨a3, c3, gs', hk3, rfl, hb3⟩; have hS1 := hS.made hb3; clear hS hb3; have hS := hS1; clear hS1; simp only [hlen.out] at hS ⊢; obtain ⟨g3, c4, e3, -⟩ := hS.rowat 0 rfl (by omega); cases e3; obtain ⟨cur, q1, q2, q3, q4, hS2⟩ := St.rowblk hS; clear hS; have hS := hS2; clear hS2; have hble : Nat.ble (p * 2 + 1 + 1) cur.size = true := (by rw [Nat.ble_eq, q1]; omega); replace q1 := Lib.hid q1; replace q2 := Lib.hid q2; replace hk3 := Lib.hid hk3; have hc63 : c3 ≤ 9223372036854775807 := (by unfold maxLen at q4; omega))
          | ((with_reducible refine wpList_store_st 0 hS rfl rfl rfl rfl (by kernel_rfl) rfl hble ?_); intro w6 hS1; clear hS; have hS := hS1; clear hS1))
        go_ret2
        have hl' : gs'.length = n := by
          have := congrArg List.length hk3.out
          simp only [keys, List.length_map] at this
          rw [this, hlen.out]
        have hp' : p < gs'.length := by omega
        have hsp : gs' = gs'.take p ++ gs'[p] :: gs'.drop (p + 1) := by
          rw [← List.drop_eq_getElem_cons hp', List.take_append_drop]
        have hno' : gs'[p].no = gp0.no := by
          have h1 := hkp.out
          rw [← hk3.out] at h1
          simp only [keys, List.getElem?_map, List.getElem?_eq_getElem hp', Option.map_some, Option.some.injEq] at h1
          exact congrArg Prod.fst h1
        generalize gs'[p] = gq at hsp hno'
        have hAl : (gs'.take p).length = p := by rw [List.length_take]; omega
        have hr := St.blkrow2 hS 2 (n := n) (c := c3) (xs := grows (gs'.take p ++ (⟨gq.no, a5, c5, fl⟩ : Gr) :: gs'.drop (p + 1))) (by rw [Array.size_setIfInBounds]; exact q1.out) q3 q4 (by
          have h2 := grows_set_mem (gs'.take p) (gs'.drop (p + 1)) gq a5 c5 fl
          rw [← hsp, hAl] at h2
          rw [Array.toList_setIfInBounds, List.take_set, q2.out]
          exact h2)
        have hlx : (gs'.take p ++ (⟨gq.no, a5, c5, fl⟩ : Gr) :: gs'.drop (p + 1)).length = n := by simp; omega
        have hd := deep_of hr rfl hlx (by
          intro x hx
          left
          simp only [List.mem_append, List.mem_cons] at hx
          rcases hx with hx | rfl | hx
          · exact List.mem_append.2 (.inl (List.mem_map.2 ⟨x, by simpa using List.mem_of_mem_take hx, rfl⟩))
          · exact List.mem_append.2 (.inr List.mem_cons_self)
          · exact List.mem_append.2 (.inl (List.mem_map.2 ⟨x, by simpa using List.mem_of_mem_drop hx, rfl⟩)))
        refine ⟨_, _, _, ?_, ?_, by rw [hlx]; exact hd, hS.below⟩
        · rw [← hk3.out]
          simp [keys, Gr.key, hno']
        · rw [hlx]; rfl
      · rw [if_neg hf]
        have hfb : (fe != 0) = true := by simpa using hf
        replace hf := Lib.hid hf
        go_enter Try.func35, Try.ntmps35
        go_wp2_with (first
          | (go_at_call 33; (with_reducible refine (cF.out _ hD.out).mono ?_); rintro _ w3 ⟨rfl, hb3⟩; have hS1 := hS.keepB hb3; clear hb3 hS; have hS := hS1; clear hS1; have hcell := hcc.out _ hS)
          | (go_at_call 36; (with_reducible refine (cJ.out _ (hsl.out _ hS.below) (hio.out _ hS.below)).mono ?_); rintro _ w4 ⟨a5, c5, rfl, hb4⟩; clear hcell; have hS1 := hS.made hb4; clear hS hb4; have hS := hS1; clear hS1))
        go_ret2
        exact gsOut_err hS.below
theorem join_any (a : Option Addr) (gs : List Gr) (n cap : Nat) (g id : Int) (w : World) (hD : Deep w a n cap gs) (hm : n ≤ 1000) (hmm : ∀ g ∈ gs, g.mem.length ≤ 10000) (hu : Ids.Up (nos gs)) (hum : ∀ g ∈ gs, Ids.Up g.mem) :
    Calls Try.prog 13 #[.slice a n cap, .int .i64 g, .int .i64 id] w (GsOut (joinK (keys gs) g id) w) := by
  rw [← turn_join]
  have hS := St.start w
  have hmf : ∀ (fn : Fn) (first cap : Array Value) (w : World), (Instr.makeFunc fn first cap).run Try.prog w = .ok (.func fn first cap) w := fun _ _ _ _ => rfl
  have cT := Lib.hid (fun W gi h1 h2 => turned_join a gs n cap gi g id W h1 hm hmm hu hum h2)
  have hD3 := Lib.hid (fun W (h : Below w.heap.size w W) => hD.below h)
  clear hD hu hum hmm
  go_enter Try.func13, Try.ntmps13
  go_wp2_with (first
    | (with_reducible refine wpList_box_st hS rfl rfl rfl ?_; clear hS; intro g1 w1 hS) | (with_reducible refine wpList_box1_st hS rfl rfl rfl ?_; clear hS; intro g1 w1 hS) | (with_reducible refine al hS rfl rfl ?_; clear hS; intro g1 w1 hS) | (with_reducible refine wpList_alloc1_st hS rfl rfl (by assumption) rfl ?_; clear hS; intro g1 w1 hS) | (with_reducible refine ld 0 hS rfl rfl rfl rfl rfl ?_) | (with_reducible refine lda 0 hS rfl rfl rfl rfl ?_) | (with_reducible refine sto 0 hS rfl rfl rfl rfl rfl rfl ?_; clear hS; intro w1 hS) | (with_reducible refine stor 0 hS rfl rfl rfl rfl rfl rfl rfl rfl ?_; clear hS; intro w1 hS)
    | (go_at_call 35; (with_reducible refine (cT.out _ _ (hD3.out _ hS.below) (hS.cell 0 rfl 0)).mono ?_); rintro _ w3 ⟨a3, c3, gs', hk3, rfl, hd3, hb3⟩; have hS1 := hS.keepB hb3; clear hb3 hS; have hS := hS1; clear hS1))
  go_ret2
  exact ⟨a3, c3, gs', hk3, rfl, hd3, hS.below⟩
theorem quit1_any (A : Option Addr) (m : List Int) (C gi : Nat) (id : Int) (w : World) (hs : Sl w A (m.map vi)) (hm : m.length ≤ 10000) (hc : A = none → C = 0) (hu : Ids.Up m) (hi : w.cell? ⟨gi, 0, none⟩ = some (.int .i64 id)) :
    Calls Try.prog 38 #[.slice A m.length C, .pointer (some ⟨gi, 0, none⟩)] w (MOut (quitM m id) w) := by
  have hS := St.start w
  have cH := fun W h => has_any A m m.length C id W h rfl (by omega) hu
  have cP := fun W h => drop_any A m m.length C id W h rfl hm hc hu
  unfold quitM
  generalize Ids.has m id = hb at cH ⊢
  generalize m.length = n at *
  replace cH := Lib.hid cH
  replace cP := Lib.hid cP
  replace hs := Lib.hid hs
  clear hu hc
  cases hb
  all_goals
    go_enter Try.func38, Try.ntmps38
    go_wp2_with (first
      | (go_at_call 31; (with_reducible refine (cH.out _ (hS.sl hs.out)).mono ?_); rintro _ _ ⟨rfl, rfl⟩)
      | (go_at_call 39; (with_reducible refine (cP.out _ (hS.sl hs.out)).mono ?_); rintro _ w3 ⟨a3, c3, rfl, h31, h32, hb3⟩; have hS1 := hS.made hb3; clear hS hb3; have hS := hS1; clear hS1))
    go_ret2
    first
      | exact mOut_err hS
      | exact ⟨_, _, rfl, hS⟩
theorem turned_quit (a : Option Addr) (gs : List Gr) (n cap gi : Nat) (g id : Int) (w : World) (hD : Deep w a n cap gs) (hm : n ≤ 1000) (hmm : ∀ g ∈ gs, g.mem.length ≤ 10000) (hu : Ids.Up (nos gs)) (hum : ∀ g ∈ gs, Ids.Up g.mem) (hi : w.cell? ⟨gi, 0, none⟩ = some (.int .i64 id)) :
    Calls Try.prog 35 #[.slice a n cap, .int .i64 g, .int .i64 id, .func (.func 38) #[] #[.pointer (some ⟨gi, 0, none⟩)]] w (GsOut (turnK (keys gs) g id quitM) w) := by
  have hS := St.start w
  have cF := fun W (h : Deep W a n cap gs) => find_any a gs n cap g W h (by omega) hu
  have cC := fun W (h : Deep W a n cap gs) => copied_any a gs n cap W h hm hmm
  have hnl : (nos gs).length = n := by rw [nos, List.length_map, hD.len]
  have hlen := hD.len
  have hlt := Ids.has_lt (nos gs) g hu
  have hhp := Ids.has_place (nos gs) g hu
  rw [hnl] at hlt
  unfold turnK memAt
  rw [← nos_keys]
  generalize Ids.has (nos gs) g = hb at cF hlt hhp ⊢
  generalize Ids.place (nos gs) g = p at cF hlt hhp ⊢
  have hD3 := fun W (h : Below w.heap.size w W) => hD.below h
  replace hD := Lib.hid hD
  replace cF := Lib.hid cF
  replace cC := Lib.hid cC
  replace hD3 := Lib.hid hD3
  have hio := Lib.hid (fun W (h : Below w.heap.size w W) => (Below.cell h (p := ⟨gi, 0, none⟩) (World.block_lt_of_cell? w _ hi)).trans hi)
  clear hi hu
  by_cases hbad : g < 0 ∨ 16 ≤ g ∨ id < 1 ∨ 1073741824 ≤ id
  · rw [if_pos hbad]
    clear hlen hlt hnl hhp
    have key : g < 0 ∨ (decide (g < 0) = false ∧ 16 ≤ g) ∨ (decide (g < 0) = false ∧ decide (16 ≤ g) = false ∧ id < 1) ∨ (decide (g < 0) = false ∧ decide (16 ≤ g) = false ∧ decide (id < 1) = false ∧ 1073741824 ≤ id) := by
      by_cases k1 : g < 0
      · exact .inl k1
      · by_cases k2 : 16 ≤ g
        · exact .inr (.inl ⟨decide_eq_false k1, k2⟩)
        · by_cases k3 : id < 1
          · exact .inr (.inr (.inl ⟨decide_eq_false k1, decide_eq_false k2, k3⟩))
          · exact .inr (.inr (.inr ⟨decide_eq_false k1, decide_eq_false k2, decide_eq_false k3, by omega⟩))
    clear hbad
    rcases key with k1 | ⟨k1, k2⟩ | ⟨k1, k2, k3⟩ | ⟨k1, k2, k3, k4⟩
    all_goals
      go_enter Try.func35, Try.ntmps35
      go_wp2_with fail
      go_ret2
      exact gsOut_err hS.below
  · rw [if_neg hbad]
    have d1 : decide (g < 0) = false := decide_eq_false (by omega)
    have d2 : decide (16 ≤ g) = false := decide_eq_false (by omega)
    have d3 : decide (id < 1) = false := decide_eq_false (by omega)
    have d4 : decide (1073741824 ≤ id) = false := decide_eq_false (by omega)
    clear hbad
    cases hb with
    | false =>
      rw [if_neg (by simp)]
      clear hlen hlt hnl hhp
      go_enter Try.func35, Try.ntmps35
      go_wp2_with (go_at_call 33; (with_reducible refine (cF.out _ hD.out).mono ?_); rintro _ w3 ⟨rfl, hb3⟩; have hS1 := hS.keepB hb3; clear hb3 hS; have hS := hS1; clear hS1)
      go_ret2
      exact gsOut_err hS.below
    | true =>
      rw [if_pos rfl]
      have hpn := hlt rfl
      have hpg : p < gs.length := by omega
      have hno : gs[p].no = g := by
        rw [dif_pos (by rw [hnl]; exact hpn)] at hhp
        have := of_decide_eq_true hhp.symm
        simpa [nos] using this
      obtain ⟨b, off, rfl, c0, c1⟩ := hD.out.get p hpg
      have hgM := hD.out.mem gs[p] (List.getElem_mem hpg)
      have hgl := hmm gs[p] (List.getElem_mem hpg)
      have hgu := hum gs[p] (List.getElem_mem hpg)
      have hmem : ((keys gs).getD p (0, [])).2 = gs[p].mem := by
        unfold keys
        simp [List.getD_eq_getElem?_getD, hpg, Gr.key]
      rw [hmem]
      have hset : (keys gs).set p (g, (quitM gs[p].mem id).2) = (keys gs).take p ++ (gs[p].no, (quitM gs[p].mem id).2) :: (keys gs).drop (p + 1) := by
        rw [set_split _ _ _ (by simp [keys]; exact hpg), hno]
      rw [hset]
      have hkp : (keys gs)[p]? = some gs[p].key := by simp [keys, hpg]
      generalize gs[p] = gp0 at c0 c1 hgM hgl hgu hkp
      have cJ := fun W h1 h2 => quit1_any gp0.a gp0.mem gp0.c gi id W h1 hgl hgM.nz hgu h2
      obtain ⟨⟨fe, fl⟩, hfe⟩ : ∃ x, quitM gp0.mem id = x := ⟨_, rfl⟩
      rw [hfe] at cJ ⊢
      have hsl := Lib.hid (fun W (h : Below w.heap.size w W) => hgM.sl.below h)
      clear hfe hlt hnl hhp hmem hset hgM hno
      replace cJ := Lib.hid cJ
      replace hlen := Lib.hid hlen
      replace c1 := Lib.hid c1
      clear c0
      replace hkp := Lib.hid hkp
      have hcc := Lib.hid (fun W (h : St w [] [] W) => h.old c1.out (by simp))
      by_cases hf : fe = 0
      · subst hf
        rw [if_pos rfl]
        go_enter Try.func35, Try.ntmps35
        go_wp2_with (first
          | (go_at_call 33; (with_reducible refine (cF.out _ hD.out).mono ?_); rintro _ w3 ⟨rfl, hb3⟩; have hS1 := hS.keepB hb3; clear hb3 hS; have hS := hS1; clear hS1; have hcell := hcc.out _ hS)
          | (go_at_call 38; (with_reducible refine (cJ.out _ (hsl.out _ hS.below) (hio.out _ hS.below)).mono ?_); rintro _ w4 ⟨a5, c5, rfl, hb4⟩; clear hcell; have hS1 := hS.made hb4; clear hS hb4; have hS := hS1; clear hS1)
          | (go_at_call 43; (with_reducible refine (cC.out _ (hD3.out _ hS.below)).mono ?_); rintro _ w3 ⟨a3, c3, gs', hk3, rfl, hb3⟩; have hS1 := hS.made hb3; clear hS hb3; have hS := hS1; clear hS1; simp only [hlen.out] at hS ⊢; obtain ⟨g3, c4, e3, -⟩ := hS.rowat 0 rfl (by omega); cases e3; obtain ⟨cur, q1, q2, q3, q4, hS2⟩ := St.rowblk hS; clear hS; have hS := hS2; clear hS2; have hble : Nat.ble (p * 2 + 1 + 1) cur.size = true := (by rw [Nat.ble_eq, q1]; omega); replace q1 := Lib.hid q1; replace q2 := Lib.hid q2; replace hk3 := Lib.hid hk3; have hc63 : c3 ≤ 9223372036854775807 := (by unfold maxLen at q4; omega))
          | ((with_reducible refine wpList_store_st 0 hS rfl rfl rfl rfl (by kernel_rfl) rfl hble ?_); intro w6 hS1; clear hS; have hS := hS1; clear hS1))
        go_ret2
        have hl' : gs'.length = n := by
          have := congrArg List.length hk3.out
          simp only [keys, List.length_map] at this
          rw [this, hlen.out]
        have hp' : p < gs'.length := by omega
        have hsp : gs' = gs'.take p ++ gs'[p] :: gs'.drop (p + 1) := by
          rw [← List.drop_eq_getElem_cons hp', List.take_append_drop]
        have hno' : gs'[p].no = gp0.no := by
          have h1 := hkp.out
          rw [← hk3.out] at h1
          simp only [keys, List.getElem?_map, List.getElem?_eq_getElem hp', Option.map_some, Option.some.injEq] at h1
          exact congrArg Prod.fst h1
        generalize gs'[p] = gq at hsp hno'
        have hAl : (gs'.take p).length = p := by rw [List.length_take]; omega
        have hr := St.blkrow2 hS 2 (n := n) (c := c3) (xs := grows (gs'.take p ++ (⟨gq.no, a5, c5, fl⟩ : Gr) :: gs'.drop (p + 1))) (by rw [Array.size_setIfInBounds]; exact q1.out) q3 q4 (by
          have h2 := grows_set_mem (gs'.take p) (gs'.drop (p + 1)) gq a5 c5 fl
          rw [← hsp, hAl] at h2
          rw [Array.toList_setIfInBounds, List.take_set, q2.out]
          exact h2)
        have hlx : (gs'.take p ++ (⟨gq.no, a5, c5, fl⟩ : Gr) :: gs'.drop (p + 1)).length = n := by simp; omega
        have hd := deep_of hr rfl hlx (by
          intro x hx
          left
          simp only [List.mem_append, List.mem_cons] at hx
          rcases hx with hx | rfl | hx
          · exact List.mem_append.2 (.inl (List.mem_map.2 ⟨x, by simpa using List.mem_of_mem_take hx, rfl⟩))
          · exact List.mem_append.2 (.inr List.mem_cons_self)
          · exact List.mem_append.2 (.inl (List.mem_map.2 ⟨x, by simpa using List.mem_of_mem_drop hx, rfl⟩)))
        refine ⟨_, _, _, ?_, ?_, by rw [hlx]; exact hd, hS.below⟩
        · rw [← hk3.out]
          simp [keys, Gr.key, hno']
        · rw [hlx]; rfl
      · rw [if_neg hf]
        have hfb : (fe != 0) = true := by simpa using hf
        replace hf := Lib.hid hf
        go_enter Try.func35, Try.ntmps35
        go_wp2_with (first
          | (go_at_call 33; (with_reducible refine (cF.out _ hD.out).mono ?_); rintro _ w3 ⟨rfl, hb3⟩; have hS1 := hS.keepB hb3; clear hb3 hS; have hS := hS1; clear hS1; have hcell := hcc.out _ hS)
          | (go_at_call 38; (with_reducible refine (cJ.out _ (hsl.out _ hS.below) (hio.out _ hS.below)).mono ?_); rintro _ w4 ⟨a5, c5, rfl, hb4⟩; clear hcell; have hS1 := hS.made hb4; clear hS hb4; have hS := hS1; clear hS1))
        go_ret2
        exact gsOut_err hS.below
theorem quit_any (a : Option Addr) (gs : List Gr) (n cap : Nat) (g id : Int) (w : World) (hD : Deep w a n cap gs) (hm : n ≤ 1000) (hmm : ∀ g ∈ gs, g.mem.length ≤ 10000) (hu : Ids.Up (nos gs)) (hum : ∀ g ∈ gs, Ids.Up g.mem) :
    Calls Try.prog 14 #[.slice a n cap, .int .i64 g, .int .i64 id] w (GsOut (quitK (keys gs) g id) w) := by
  rw [← turn_quit]
  have hS := St.start w
  have hmf : ∀ (fn : Fn) (first cap : Array Value) (w : World), (Instr.makeFunc fn first cap).run Try.prog w = .ok (.func fn first cap) w := fun _ _ _ _ => rfl
  have cT := Lib.hid (fun W gi h1 h2 => turned_quit a gs n cap gi g id W h1 hm hmm hu hum h2)
  have hD3 := Lib.hid (fun W (h : Below w.heap.size w W) => hD.below h)
  clear hD hu hum hmm
  go_enter Try.func14, Try.ntmps14
  go_wp2_with (first
    | (with_reducible refine wpList_box_st hS rfl rfl rfl ?_; clear hS; intro g1 w1 hS) | (with_reducible refine wpList_box1_st hS rfl rfl rfl ?_; clear hS; intro g1 w1 hS) | (with_reducible refine al hS rfl rfl ?_; clear hS; intro g1 w1 hS) | (with_reducible refine wpList_alloc1_st hS rfl rfl (by assumption) rfl ?_; clear hS; intro g1 w1 hS) | (with_reducible refine ld 0 hS rfl rfl rfl rfl rfl ?_) | (with_reducible refine lda 0 hS rfl rfl rfl rfl ?_) | (with_reducible refine sto 0 hS rfl rfl rfl rfl rfl rfl ?_; clear hS; intro w1 hS) | (with_reducible refine stor 0 hS rfl rfl rfl rfl rfl rfl rfl rfl ?_; clear hS; intro w1 hS)
    | (go_at_call 35; (with_reducible refine (cT.out _ _ (hD3.out _ hS.below) (hS.cell 0 rfl 0)).mono ?_); rintro _ w3 ⟨a3, c3, gs', hk3, rfl, hd3, hb3⟩; have hS1 := hS.keepB hb3; clear hb3 hS; have hS := hS1; clear hS1))
  go_ret2
  exact ⟨a3, c3, gs', hk3, rfl, hd3, hS.below⟩
end Go.Proofs.Ytkbekagmfbgefaa
end
section
namespace Go.Ofp
theorem or_new (s n : Nat) (hs : s < 4294967296) (hn : n < 32) (h : s.testBit n = false) : s ||| 2 ^ n = s + 2 ^ n := by
  have hp : 2 ^ n ≤ 2 ^ 31 := Nat.pow_le_pow_right (by decide) (by omega)
  have hd : BitVec.ofNat 64 s &&& BitVec.ofNat 64 (2 ^ n) = 0#64 := by
    apply BitVec.eq_of_getLsbD_eq
    intro i hi
    simp only [BitVec.getLsbD_and, BitVec.getLsbD_ofNat, Nat.testBit_two_pow, BitVec.getLsbD_zero]
    by_cases e : n = i
    · subst e; simp [h]
    · simp [e]
  have ha := BitVec.add_eq_or_of_and_eq_zero _ _ hd
  have ha' := congrArg BitVec.toNat ha
  rw [BitVec.toNat_add, BitVec.toNat_or, BitVec.toNat_ofNat, BitVec.toNat_ofNat, Nat.mod_eq_of_lt (show s < 2 ^ 64 by omega), Nat.mod_eq_of_lt (show 2 ^ n < 2 ^ 64 by omega), Nat.mod_eq_of_lt (by omega)] at ha'
  exact ha'.symm
theorem or_old (s n : Nat) (h : s.testBit n = true) : s ||| 2 ^ n = s := by
  apply Nat.eq_of_testBit_eq
  intro i
  rw [Nat.testBit_or, Nat.testBit_two_pow]
  by_cases e : n = i
  · subst e; simp [h]
  · simp [e]
theorem or_lt (s n : Nat) (hs : s < 4294967296) (hn : n < 32) : s ||| 2 ^ n < 4294967296 := by
  have hp : 2 ^ n ≤ 2 ^ 31 := Nat.pow_le_pow_right (by decide) (by omega)
  have : s ||| 2 ^ n < 2 ^ 32 := Nat.or_lt_two_pow (by omega) (by omega)
  omega
end Go.Ofp
namespace Go.Proofs.Ytkbekagmfbgefaa
open Go.RowKit Go.Ofp
set_option maxHeartbeats 4000000
theorem bit_any (n : Nat) (w : World) (h : n < 32) : Calls Try.prog 55 #[.int .i64 n] w fun e w' => e = .returned (.int .u32 ((2 : Int) ^ n)) ∧ w = w' := by
  have d1 : decide ((n : Int) < 0) = false := decide_eq_false (by omega)
  have d2 : decide ((31 : Int) < (n : Int)) = false := decide_eq_false (by omega)
  have hp : 2 ^ n ≤ 2 ^ 31 := Nat.pow_le_pow_right (by decide) (by omega)
  have e : (2 : Int) ^ n % 4294967296 = 2 ^ n := by
    have h1 : ((2 ^ n : Nat) : Int) = (2 : Int) ^ n := by simp
    have h2 : ((2 ^ n : Nat) : Int) % 4294967296 = ((2 ^ n : Nat) : Int) := Int.emod_eq_of_lt (Int.natCast_nonneg _) (by omega)
    rw [h1] at h2
    exact h2
  go_enter Try.func55, Try.ntmps55
  go_wp2_with fail
  go_ret
  exact ⟨rfl, rfl⟩
theorem with_any (s : Nat) (n : Nat) (w : World) (h : n < 32) (hs : s < 4294967296) : Calls Try.prog 32 #[.int .u32 s, .int .i64 n] w fun e w' => e = .returned (.int .u32 ((s ||| 2 ^ n : Nat) : Int)) ∧ w = w' := by
  have hp : 2 ^ n ≤ 2 ^ 31 := Nat.pow_le_pow_right (by decide) (by omega)
  have e : bits .or .u32 (s : Int) ((2 : Int) ^ n) = ((s ||| 2 ^ n : Nat) : Int) := by
    have := u32_or_nat s (2 ^ n) hs (by omega)
    rw [← this]
    simp
  replace e := Lib.hid e
  go_enter Try.func32, Try.ntmps32
  go_wp2_with (go_at_call 55; (with_reducible refine (bit_any _ _ h).mono ?_); rintro _ _ ⟨rfl, rfl⟩)
  go_ret
  exact ⟨by rw [← e.out]; rfl, rfl⟩
theorem rhasb_any (s n : Nat) (w : World) (h : n < 32) (hs : s < 4294967296) : Calls Try.prog 9 #[.int .u32 s, .int .i64 n] w fun e w' => e = .returned (.bool (s.testBit n)) ∧ w = w' := by
  have d1 : decide ((n : Int) < 0) = false := decide_eq_false (by omega)
  have d2 : decide ((31 : Int) < (n : Int)) = false := decide_eq_false (by omega)
  go_enter Try.func9, Try.ntmps9
  go_wp2_with fail
  clear d1 d2
  go_loopg [0, 5] n (fun gk vs vx wr => ∃ k q : Nat, k + gk = n ∧ vx = .int .i64 k ∧ vs = .int .u32 q ∧ q < 4294967296 ∧ Hid (q = s / 2 ^ k) ∧ w = wr)
  case atStart => exact ⟨0, s, Nat.zero_add _, rfl, rfl, hs, Lib.hid (by simp), rfl⟩
  case round =>
    obtain ⟨k, q, hk, rfl, rfl, hq, hr, rfl⟩ := hrel
    by_cases hlt : k < n
    · go_wp2_with fail
      go_roundg (n - (k + 1))
      case measure => omega
      case rel => exact ⟨k + 1, q / 2, by omega, by go_num, rfl, by omega, Lib.hid (by rw [hr.out, Nat.pow_succ, Nat.div_div_eq_div_mul]), rfl⟩
    · obtain rfl : k = n := by omega
      have e : s.testBit k = decide (q % 2 = 1) := by rw [hr.out, Nat.testBit_eq_decide_div_mod_eq]
      clear hr
      rcases Nat.mod_two_eq_zero_or_one q with h2 | h2
      · have h3 : (q : Int) % 2 = 0 := by omega
        rw [h2] at e
        replace e := Lib.hid e
        clear h2
        go_wp2_with fail
        go_ret
        exact ⟨by rw [e.out]; rfl, rfl⟩
      · have h3 : (q : Int) % 2 = 1 := by omega
        rw [h2] at e
        replace e := Lib.hid e
        clear h2
        go_wp2_with fail
        go_ret
        exact ⟨by rw [e.out]; rfl, rfl⟩
theorem rone_any (n : Nat) (w : World) (h : n < 32) : Calls Try.prog 40 #[.int .i64 n] w fun e w' => e = .returned (.int .u32 ((2 ^ n : Nat) : Int)) ∧ w = w' := by
  have d1 : decide ((n : Int) < 0) = false := decide_eq_false (by omega)
  have d2 : decide ((31 : Int) < (n : Int)) = false := decide_eq_false (by omega)
  go_enter Try.func40, Try.ntmps40
  go_wp2_with fail
  clear d1 d2
  go_loopg [3, 4] n (fun gk vs vx wr => ∃ k q : Nat, k + gk = n ∧ vx = .int .i64 k ∧ vs = .int .u32 q ∧ q ≤ 2147483648 ∧ Hid (q = 2 ^ k) ∧ w = wr)
  case atStart => exact ⟨0, 1, Nat.zero_add _, rfl, rfl, by omega, Lib.hid rfl, rfl⟩
  case round =>
    obtain ⟨k, q, hk, rfl, rfl, hq, hr, rfl⟩ := hrel
    by_cases hlt : k < n
    · have hq2 : q ≤ 1073741824 := by
        rw [hr.out]
        have : 2 ^ k ≤ 2 ^ 30 := Nat.pow_le_pow_right (by decide) (by omega)
        omega
      go_wp2_with fail
      go_roundg (n - (k + 1))
      case measure => omega
      case rel => exact ⟨k + 1, q * 2, by omega, by go_num, by go_num, by omega, Lib.hid (by rw [hr.out, Nat.pow_succ]), rfl⟩
    · obtain rfl : k = n := by omega
      go_wp2_with fail
      go_ret
      exact ⟨by rw [← hr.out]; rfl, rfl⟩
theorem rwith_any (s n : Nat) (w : World) (h : n < 32) (hs : s < 4294967296) : Calls Try.prog 16 #[.int .u32 s, .int .i64 n] w fun e w' => e = .returned (.int .u32 ((s ||| 2 ^ n : Nat) : Int)) ∧ w = w' := by
  have cH := Lib.hid (fun W : World => rhasb_any s n W h hs)
  have cO := Lib.hid (fun W : World => rone_any n W h)
  have hp : 2 ^ n ≤ 2 ^ 31 := Nat.pow_le_pow_right (by decide) (by omega)
  cases hb : s.testBit n with
  | true =>
    rw [or_old s n hb]
    rw [hb] at cH
    clear hb hp
    go_enter Try.func16, Try.ntmps16
    go_wp2_with (go_at_call 9; (with_reducible refine (cH.out _).mono ?_); rintro _ _ ⟨rfl, rfl⟩)
    go_ret
    exact ⟨rfl, rfl⟩
  | false =>
    have e := or_new s n hs h hb
    have hl := or_lt s n hs h
    rw [e] at hl ⊢
    rw [hb] at cH
    clear hb
    generalize 2 ^ n = q at *
    go_enter Try.func16, Try.ntmps16
    go_wp2_with (first
      | (go_at_call 9; (with_reducible refine (cH.out _).mono ?_); rintro _ _ ⟨rfl, rfl⟩)
      | (go_at_call 40; (with_reducible refine (cO.out _).mono ?_); rintro _ _ ⟨rfl, rfl⟩))
    go_ret
    exact ⟨by simp, rfl⟩
end Go.Proofs.Ytkbekagmfbgefaa
end
section
namespace Go.Ofp
def chkKF : Int → List Key → Bool
  | _, [] => true
  | last, k :: ks => decide (last < k.1) && (decide (k.1 < 16) && (Ids.chk k.2 && chkKF k.1 ks))
theorem chkKF_cons (last no : Int) (mem : List Int) (ks : List Key) : chkKF last ((no, mem) :: ks) = (decide (last < no) && (decide (no < 16) && (Ids.chk mem && chkKF no ks))) := rfl
def chkK (ks : List Key) : Bool := chkKF (-1) ks
def ofFrom (id : Int) : Nat → List Key → Nat
  | s, [] => s
  | s, k :: ks => ofFrom id (cond (Ids.has k.2 id) (s ||| 2 ^ k.1.toNat) s) ks
theorem ofFrom_cons (id : Int) (s : Nat) (no : Int) (mem : List Int) (ks : List Key) : ofFrom id s ((no, mem) :: ks) = ofFrom id (cond (Ids.has mem id) (s ||| 2 ^ no.toNat) s) ks := rfl
def ofK (ks : List Key) (id : Int) : Nat := ofFrom id 0 ks
def membersK (ks : List Key) (g : Int) : List Int := if Ids.has (knos ks) g then memAt ks g else []
theorem chkKF_iff (ks : List Key) : ∀ last : Int, chkKF last ks = true ↔ Ids.Up (knos ks) ∧ (∀ k ∈ ks, last < k.1 ∧ k.1 < 16) ∧ ∀ k ∈ ks, Ids.Rise k.2 := by
  induction ks with
  | nil => intro last; simp [chkKF, knos, Ids.Up]
  | cons x l ih =>
    intro last
    simp only [chkKF, Bool.and_eq_true, decide_eq_true_eq, ih x.1, Ids.Up, knos, List.map_cons, List.pairwise_cons, List.mem_cons, forall_eq_or_imp, List.mem_map, forall_exists_index, and_imp, forall_apply_eq_imp_iff₂, Ids.chk_iff]
    constructor
    · rintro ⟨h1, h2, h3, h4, h5, h6⟩
      exact ⟨⟨fun y hy => (h5 y hy).1, h4⟩, ⟨⟨h1, h2⟩, fun y hy => ⟨by have := (h5 y hy).1; omega, (h5 y hy).2⟩⟩, h3, h6⟩
    · rintro ⟨⟨h1, h2⟩, ⟨⟨h3, h4⟩, h5⟩, h6, h7⟩
      exact ⟨h3, h4, h6, h2, fun y hy => ⟨h1 y hy, (h5 y hy).2⟩, h7⟩
theorem chkK_iff (ks : List Key) : chkK ks = true ↔ Ids.Up (knos ks) ∧ (∀ k ∈ ks, 0 ≤ k.1 ∧ k.1 < 16) ∧ ∀ k ∈ ks, Ids.Rise k.2 := by
  unfold chkK
  rw [chkKF_iff]
  constructor
  · rintro ⟨h1, h2, h3⟩; exact ⟨h1, fun k hk => ⟨by have := h2 k hk; omega, (h2 k hk).2⟩, h3⟩
  · rintro ⟨h1, h2, h3⟩; exact ⟨h1, fun k hk => ⟨by have := h2 k hk; omega, (h2 k hk).2⟩, h3⟩
theorem ofFrom_lt (id : Int) (ks : List Key) : ∀ s, s < 4294967296 → (∀ k ∈ ks, 0 ≤ k.1 ∧ k.1 < 16) → ofFrom id s ks < 4294967296 := by
  induction ks with
  | nil => intro s hs _; exact hs
  | cons x l ih =>
    intro s hs hk
    have hx := hk x (by simp)
    unfold ofFrom
    apply ih _ _ (fun k h => hk k (by simp [h]))
    cases Ids.has x.2 id
    · exact hs
    · exact or_lt s _ hs (by omega)
end Go.Ofp
namespace Go.Proofs.Ytkbekagmfbgefaa
open Go.RowKit Go.Ofp
set_option maxHeartbeats 4000000
theorem gkeys_drop_cons {gs : List Gr} {j : Nat} (h : j < gs.length) : (keys gs).drop j = gs[j].key :: (keys gs).drop (j + 1) := by
  unfold keys
  rw [List.drop_eq_getElem_cons (by simpa using h)]
  simp
theorem gcheck_any (a : Option Addr) (gs : List Gr) (n cap : Nat) (w : World) (hD : Deep w a n cap gs) (hm : n ≤ 100000) (hmm : ∀ g ∈ gs, g.mem.length ≤ 10000) :
    Calls Try.prog 17 #[.slice a n cap] w fun e w' => e = .returned (.bool (chkK (keys gs))) ∧ Below w.heap.size w w' := by
  have hS := St.start w
  have ez := elem_g
  have hlen := Lib.hid hD.len
  have hget := Lib.hid hD.get
  have hM := Lib.hid (fun j (hj : j < gs.length) => hD.mem gs[j] (List.getElem_mem hj))
  have hml := Lib.hid (fun j (hj : j < gs.length) => hmm gs[j] (List.getElem_mem hj))
  clear hD hmm
  go_enter Try.func17, Try.ntmps17
  go_wp2_with fail
  go_loopg [3, 8] n (fun gk vl vx wr => ∃ (j : Nat) (y : Int), j + gk = n ∧ vx = .int .i64 j ∧ vl = .int .i64 y ∧ Hid (chkK (keys gs) = chkKF y ((keys gs).drop j)) ∧ St w [] [] wr)
  case atStart => exact ⟨0, -1, Nat.zero_add _, rfl, rfl, Lib.hid rfl, hS⟩
  case round =>
    clear hS
    obtain ⟨j, y, hj, rfl, rfl, hr, hS⟩ := hrel
    by_cases hlt : j < n
    · have hjg : j < gs.length := by rw [hlen.out]; exact hlt
      obtain ⟨b, off, rfl, c0, c1⟩ := hget.out j hjg
      have hMj := hM.out j hjg
      have hmlj := hml.out j hjg
      have hr2 := hr.out
      rw [gkeys_drop_cons hjg, Gr.key, chkKF_cons] at hr2
      generalize gs[j] = x at c0 c1 hMj hr2 hmlj
      have cC := fun W h => check_any x.a x.mem x.mem.length x.c W h rfl (by unfold maxLen; omega)
      replace c0 := hS.old c0 (by simp)
      replace c1 := hS.old c1 (by simp)
      have hslx := Lib.hid (fun W (h : St w [] [] W) => h.sl hMj.sl)
      obtain ⟨xn, xa, xc, xm⟩ := x
      simp only at *
      generalize hml3 : xm.length = m3 at *
      clear hml3 hMj
      replace cC := Lib.hid cC
      by_cases h1 : xn ≤ y
      · rw [decide_eq_false (by omega), Bool.false_and] at hr2
        replace hr2 := Lib.hid hr2
        go_wp2_with (first | ((with_reducible refine wpList_storerow_st 0 hS rfl rfl rfl rfl (by kernel_rfl) rfl rfl rfl rfl ?_); intro w1 hS1; clear hS; have hS := hS1; clear hS1; try simp only [List.set_cons_zero, List.set_cons_succ, List.setIfInBounds_toArray, List.take_succ_cons, List.take_zero, List.drop_succ_cons, List.drop_zero, List.nil_append, List.cons_append, List.append_nil, List.drop_nil, List.take_nil, List.length_cons, List.length_nil, Nat.zero_add, Nat.add_zero, Nat.reduceAdd] at hS; have hcl := hS.cell 0 rfl) | (with_reducible refine wpList_box_st hS rfl rfl rfl ?_; clear hS; intro g1 w1 hS) | (with_reducible refine wpList_box1_st hS rfl rfl rfl ?_; clear hS; intro g1 w1 hS) | (with_reducible refine al hS rfl rfl ?_; clear hS; intro g1 w1 hS) | (with_reducible refine wpList_alloc1_st hS rfl rfl (by assumption) rfl ?_; clear hS; intro g1 w1 hS) | (with_reducible refine ld 0 hS rfl rfl rfl rfl rfl ?_) | (with_reducible refine lda 0 hS rfl rfl rfl rfl ?_) | (with_reducible refine sto 0 hS rfl rfl rfl rfl rfl rfl ?_; clear hS; intro w1 hS) | (with_reducible refine stor 0 hS rfl rfl rfl rfl rfl rfl rfl rfl ?_; clear hS; intro w1 hS))
        go_ret
        exact ⟨by rw [hr2.out]; rfl, hS.below⟩
      · have h1' : y < xn := by omega
        have d1 : decide (xn ≤ y) = false := decide_eq_false h1
        by_cases h2 : 16 ≤ xn
        · rw [decide_eq_true h1', decide_eq_false (p := xn < 16) (by omega)] at hr2
          replace hr2 := Lib.hid hr2
          clear h1
          go_wp2_with (first | ((with_reducible refine wpList_storerow_st 0 hS rfl rfl rfl rfl (by kernel_rfl) rfl rfl rfl rfl ?_); intro w1 hS1; clear hS; have hS := hS1; clear hS1; try simp only [List.set_cons_zero, List.set_cons_succ, List.setIfInBounds_toArray, List.take_succ_cons, List.take_zero, List.drop_succ_cons, List.drop_zero, List.nil_append, List.cons_append, List.append_nil, List.drop_nil, List.take_nil, List.length_cons, List.length_nil, Nat.zero_add, Nat.add_zero, Nat.reduceAdd] at hS; have hcl := hS.cell 0 rfl) | (with_reducible refine wpList_box_st hS rfl rfl rfl ?_; clear hS; intro g1 w1 hS) | (with_reducible refine wpList_box1_st hS rfl rfl rfl ?_; clear hS; intro g1 w1 hS) | (with_reducible refine al hS rfl rfl ?_; clear hS; intro g1 w1 hS) | (with_reducible refine wpList_alloc1_st hS rfl rfl (by assumption) rfl ?_; clear hS; intro g1 w1 hS) | (with_reducible refine ld 0 hS rfl rfl rfl rfl rfl ?_) | (with_reducible refine lda 0 hS rfl rfl rfl rfl ?_) | (with_reducible refine sto 0 hS rfl rfl rfl rfl rfl rfl ?_; clear hS; intro w1 hS) | (with_reducible refine stor 0 hS rfl rfl rfl rfl rfl rfl rfl rfl ?_; clear hS; intro w1 hS))
          go_ret
          exact ⟨by rw [hr2.out]; rfl, hS.below⟩
        · have h2' : xn < 16 := by omega
          have d2 : decide (16 ≤ xn) = false := decide_eq_false h2
          rw [decide_eq_true h1', decide_eq_true h2', Bool.true_and, Bool.true_and] at hr2
          clear h1 h2
          generalize Ids.chk xm = cx at cC hr2
          cases cx with
          | false =>
            replace hr2 := Lib.hid hr2
            go_wp2_with (first | ((with_reducible refine wpList_storerow_st 0 hS rfl rfl rfl rfl (by kernel_rfl) rfl rfl rfl rfl ?_); intro w1 hS1; clear hS; have hS := hS1; clear hS1; try simp only [List.set_cons_zero, List.set_cons_succ, List.setIfInBounds_toArray, List.take_succ_cons, List.take_zero, List.drop_succ_cons, List.drop_zero, List.nil_append, List.cons_append, List.append_nil, List.drop_nil, List.take_nil, List.length_cons, List.length_nil, Nat.zero_add, Nat.add_zero, Nat.reduceAdd] at hS; have hcl := hS.cell 0 rfl) | (with_reducible refine wpList_box_st hS rfl rfl rfl ?_; clear hS; intro g1 w1 hS) | (with_reducible refine wpList_box1_st hS rfl rfl rfl ?_; clear hS; intro g1 w1 hS) | (with_reducible refine al hS rfl rfl ?_; clear hS; intro g1 w1 hS) | (with_reducible refine wpList_alloc1_st hS rfl rfl (by assumption) rfl ?_; clear hS; intro g1 w1 hS) | (with_reducible refine ld 0 hS rfl rfl rfl rfl rfl ?_) | (with_reducible refine lda 0 hS rfl rfl rfl rfl ?_) | (with_reducible refine sto 0 hS rfl rfl rfl rfl rfl rfl ?_; clear hS; intro w1 hS) | (with_reducible refine stor 0 hS rfl rfl rfl rfl rfl rfl rfl rfl ?_; clear hS; intro w1 hS) | (go_at_call 41; (with_reducible refine (cC.out _ (hslx.out _ hS.empty)).mono ?_); rintro _ _ ⟨rfl, rfl⟩))
            go_ret
            exact ⟨by rw [hr2.out]; rfl, hS.below⟩
          | true =>
            replace hr2 := Lib.hid hr2
            go_wp2_with (first | ((with_reducible refine wpList_storerow_st 0 hS rfl rfl rfl rfl (by kernel_rfl) rfl rfl rfl rfl ?_); intro w1 hS1; clear hS; have hS := hS1; clear hS1; try simp only [List.set_cons_zero, List.set_cons_succ, List.setIfInBounds_toArray, List.take_succ_cons, List.take_zero, List.drop_succ_cons, List.drop_zero, List.nil_append, List.cons_append, List.append_nil, List.drop_nil, List.take_nil, List.length_cons, List.length_nil, Nat.zero_add, Nat.add_zero, Nat.reduceAdd] at hS; have hcl := hS.cell 0 rfl) | (with_reducible refine wpList_box_st hS rfl rfl rfl ?_; clear hS; intro g1 w1 hS) | (with_reducible refine wpList_box1_st hS rfl rfl rfl ?_; clear hS; intro g1 w1 hS) | (with_reducible refine al hS rfl rfl ?_; clear hS; intro g1 w1 hS) | (with_reducible refine wpList_alloc1_st hS rfl rfl (by assumption) rfl ?_; clear hS; intro g1 w1 hS) | (with_reducible refine ld 0 hS rfl rfl rfl rfl rfl ?_) | (with_reducible refine lda 0 hS rfl rfl rfl rfl ?_) | (with_reducible refine sto 0 hS rfl rfl rfl rfl rfl rfl ?_; clear hS; intro w1 hS) | (with_reducible refine stor 0 hS rfl rfl rfl rfl rfl rfl rfl rfl ?_; clear hS; intro w1 hS) | (go_at_call 41; (with_reducible refine (cC.out _ (hslx.out _ hS.empty)).mono ?_); rintro _ _ ⟨rfl, rfl⟩))
            go_roundg (n - (j + 1))
            case measure => omega
            case rel => exact ⟨j + 1, xn, by omega, by go_num, rfl, Lib.hid (by rw [hr2.out, Bool.true_and]), hS.drop⟩
    · obtain rfl : j = n := by omega
      have hr2 := hr.out
      rw [List.drop_of_length_le (by simp [keys, hlen.out])] at hr2
      replace hr2 := Lib.hid hr2
      go_wp2_with fail
      go_ret
      exact ⟨by rw [hr2.out]; rfl, hS.below⟩
theorem gof_any (a : Option Addr) (gs : List Gr) (n cap : Nat) (id : Int) (w : World) (hD : Deep w a n cap gs) (hm : n ≤ 100000) (hmm : ∀ g ∈ gs, g.mem.length ≤ 10000) (hv : ∀ g ∈ gs, 0 ≤ g.no ∧ g.no < 16) (hum : ∀ g ∈ gs, Ids.Up g.mem) :
    Calls Try.prog 10 #[.slice a n cap, .int .i64 id] w fun e w' => e = .returned (.int .u32 (ofK (keys gs) id : Nat)) ∧ Below w.heap.size w w' := by
  have hS := St.start w
  have ez := elem_g
  have hlen := Lib.hid hD.len
  have hget := Lib.hid hD.get
  have hM := Lib.hid (fun j (hj : j < gs.length) => hD.mem gs[j] (List.getElem_mem hj))
  have hml := Lib.hid (fun j (hj : j < gs.length) => hmm gs[j] (List.getElem_mem hj))
  have hvv := Lib.hid (fun j (hj : j < gs.length) => hv gs[j] (List.getElem_mem hj))
  have huu := Lib.hid (fun j (hj : j < gs.length) => hum gs[j] (List.getElem_mem hj))
  clear hD hmm hv hum
  go_enter Try.func10, Try.ntmps10
  go_wp2_with fail
  go_loopg [5, 10] n (fun gk vl vx wr => ∃ j s : Nat, j + gk = n ∧ vx = .int .i64 j ∧ vl = .int .u32 s ∧ s < 4294967296 ∧ Hid (ofK (keys gs) id = ofFrom id s ((keys gs).drop j)) ∧ St w [] [] wr)
  case atStart => exact ⟨0, 0, Nat.zero_add _, rfl, rfl, by omega, Lib.hid rfl, hS⟩
  case round =>
    clear hS
    obtain ⟨j, s, hj, rfl, rfl, hs32, hr, hS⟩ := hrel
    by_cases hlt : j < n
    · have hjg : j < gs.length := by rw [hlen.out]; exact hlt
      obtain ⟨b, off, rfl, c0, c1⟩ := hget.out j hjg
      have hMj := hM.out j hjg
      have hmlj := hml.out j hjg
      have hvj := hvv.out j hjg
      have huj := huu.out j hjg
      have hr2 := hr.out
      rw [gkeys_drop_cons hjg, Gr.key, ofFrom_cons] at hr2
      generalize gs[j] = x at c0 c1 hMj hr2 hmlj hvj huj
      have cH := fun W h => has_any x.a x.mem x.mem.length x.c id W h rfl (by omega) huj
      replace c0 := hS.old c0 (by simp)
      replace c1 := hS.old c1 (by simp)
      have hslx := Lib.hid (fun W (h : St w [] [] W) => h.sl hMj.sl)
      obtain ⟨xn, xa, xc, xm⟩ := x
      simp only at *
      obtain ⟨q, rfl⟩ := Int.eq_ofNat_of_zero_le hvj.1
      have hq : q < 32 := by omega
      rw [Int.toNat_natCast] at hr2
      have cW := Lib.hid (fun W : World => with_any s q W hq hs32)
      have hor := or_lt s q hs32 hq
      generalize hml3 : xm.length = m3 at *
      clear hml3 hMj hvj huj
      generalize Ids.has xm id = cx at cH hr2
      generalize s ||| 2 ^ q = s2 at *
      replace cH := Lib.hid cH
      cases cx with
      | false =>
        replace hr2 := Lib.hid hr2
        go_wp2_with (first | ((with_reducible refine wpList_storerow_st 0 hS rfl rfl rfl rfl (by kernel_rfl) rfl rfl rfl rfl ?_); intro w1 hS1; clear hS; have hS := hS1; clear hS1; try simp only [List.set_cons_zero, List.set_cons_succ, List.setIfInBounds_toArray, List.take_succ_cons, List.take_zero, List.drop_succ_cons, List.drop_zero, List.nil_append, List.cons_append, List.append_nil, List.drop_nil, List.take_nil, List.length_cons, List.length_nil, Nat.zero_add, Nat.add_zero, Nat.reduceAdd] at hS; have hcl := hS.cell 0 rfl) | (with_reducible refine wpList_box_st hS rfl rfl rfl ?_; clear hS; intro g1 w1 hS) | (with_reducible refine wpList_box1_st hS rfl rfl rfl ?_; clear hS; intro g1 w1 hS) | (with_reducible refine al hS rfl rfl ?_; clear hS; intro g1 w1 hS) | (with_reducible refine wpList_alloc1_st hS rfl rfl (by assumption) rfl ?_; clear hS; intro g1 w1 hS) | (with_reducible refine ld 0 hS rfl rfl rfl rfl rfl ?_) | (with_reducible refine lda 0 hS rfl rfl rfl rfl ?_) | (with_reducible refine sto 0 hS rfl rfl rfl rfl rfl rfl ?_; clear hS; intro w1 hS) | (with_reducible refine stor 0 hS rfl rfl rfl rfl rfl rfl rfl rfl ?_; clear hS; intro w1 hS) | (go_at_call 31; (with_reducible refine (cH.out _ (hslx.out _ hS.empty)).mono ?_); rintro _ _ ⟨rfl, rfl⟩))
        go_roundg (n - (j + 1))
        case measure => omega
        case rel => exact ⟨j + 1, s, by omega, by go_num, rfl, hs32, Lib.hid (by rw [hr2.out]; rfl), hS.drop⟩
      | true =>
        replace hr2 := Lib.hid hr2
        go_wp2_with (first | ((with_reducible refine wpList_storerow_st 0 hS rfl rfl rfl rfl (by kernel_rfl) rfl rfl rfl rfl ?_); intro w1 hS1; clear hS; have hS := hS1; clear hS1; try simp only [List.set_cons_zero, List.set_cons_succ, List.setIfInBounds_toArray, List.take_succ_cons, List.take_zero, List.drop_succ_cons, List.drop_zero, List.nil_append, List.cons_append, List.append_nil, List.drop_nil, List.take_nil, List.length_cons, List.length_nil, Nat.zero_add, Nat.add_zero, Nat.reduceAdd] at hS; have hcl := hS.cell 0 rfl) | (with_reducible refine wpList_box_st hS rfl rfl rfl ?_; clear hS; intro g1 w1 hS) | (with_reducible refine wpList_box1_st hS rfl rfl rfl ?_; clear hS; intro g1 w1 hS) | (with_reducible refine al hS rfl rfl ?_; clear hS; intro g1 w1 hS) | (with_reducible refine wpList_alloc1_st hS rfl rfl (by assumption) rfl ?_; clear hS; intro g1 w1 hS) | (with_reducible refine ld 0 hS rfl rfl rfl rfl rfl ?_) | (with_reducible refine lda 0 hS rfl rfl rfl rfl ?_) | (with_reducible refine sto 0 hS rfl rfl rfl rfl rfl rfl ?_; clear hS; intro w1 hS) | (with_reducible refine stor 0 hS rfl rfl rfl rfl rfl rfl rfl rfl ?_; clear hS; intro w1 hS) | (go_at_call 31; (with_reducible refine (cH.out _ (hslx.out _ hS.empty)).mono ?_); rintro _ _ ⟨rfl, rfl⟩) | (go_at_call 32; (with_reducible refine (cW.out _).mono ?_); rintro _ _ ⟨rfl, rfl⟩))
        go_roundg (n - (j + 1))
        case measure => omega
        case rel => exact ⟨j + 1, s2, by omega, by go_num, rfl, hor, Lib.hid (by rw [hr2.out]; rfl), hS.drop⟩
    · obtain rfl : j = n := by omega
      have hr2 := hr.out
      rw [List.drop_of_length_le (by simp [keys, hlen.out])] at hr2
      replace hr2 := Lib.hid hr2
      go_wp2_with fail
      go_ret
      exact ⟨by rw [hr2.out]; rfl, hS.below⟩
theorem equal_any (a b : Option Addr) (l m : List Int) (n k cap cap2 : Nat) (w : World) (hs : Sl w a (l.map vi)) (ht : Sl w b (m.map vi)) (hn : l.length = n) (hk : m.length = k) (hm : n ≤ maxLen) (hm2 : k ≤ maxLen) :
    Calls Try.prog 52 #[.slice a n cap, .slice b k cap2] w fun e w' => e = .returned (.bool (decide (l = m))) ∧ Below w.heap.size w w' := by
  unfold maxLen at hm hm2
  have hS := St.start w
  by_cases hlen : n = k
  · subst hlen
    replace hn := Lib.hid hn
    replace hk := Lib.hid hk
    replace hs := Lib.hid hs
    replace ht := Lib.hid ht
    go_enter Try.func52, Try.ntmps52
    go_wp2
    go_loopg [13] n (fun gk vi wr => ∃ j : Nat, j + gk = n ∧ vi = .int .i64 j ∧ Hid (l.take j = m.take j) ∧ St w [] [] wr)
    case atStart => exact ⟨0, Nat.zero_add _, rfl, Lib.hid (by simp), hS⟩
    case round =>
      clear hS
      obtain ⟨j, hj, rfl, hr, hS⟩ := hrel
      by_cases hlt : j < n
      · obtain ⟨b1, o1, rfl, c1⟩ := sl_int hs.out j (by rw [hn.out]; exact hlt)
        obtain ⟨b2, o2, rfl, c2⟩ := sl_int ht.out j (by rw [hk.out]; exact hlt)
        have t1 := Lib.hid (take_snoc_i l j (by rw [hn.out]; exact hlt))
        have t2 := Lib.hid (take_snoc_i m j (by rw [hk.out]; exact hlt))
        have t3 := Lib.hid (show l = m → l[j]'(by rw [hn.out]; exact hlt) = m[j]'(by rw [hk.out]; exact hlt) by intro e; subst e; rfl)
        generalize l[j]'(by rw [hn.out]; exact hlt) = x at c1 t1 t3
        generalize m[j]'(by rw [hk.out]; exact hlt) = y at c2 t2 t3
        have k1 := hS.kold0 c1
        have k2 := hS.kold0 c2
        clear c1 c2
        by_cases hx : x = y
        · subst hx
          go_wp2_with fail
          refine mixs_begin (by kernel_rfl) hS ?_
          clear hS
          intro w2 hS
          refine tk 0 ?_
          refine tk 1 ?_
          refine tk 2 ?_
          refine tk 3 ?_
          refine tk 4 ?_
          refine tk 5 ?_
          refine tk 6 ?_
          refine tk 7 ?_
          refine tk 8 ?_
          refine wpAnyH_done (by kernel_rfl) ?_ _
          clear k1 k2
          go_wp2_with fail
          go_roundg (n - (j + 1))
          case measure => omega
          case rel => exact ⟨j + 1, by omega, by go_num, Lib.hid (by rw [t1.out, t2.out, hr.out]), hS⟩
        · have hxb : (x != y) = true := by simpa using hx
          replace hx := Lib.hid hx
          go_wp2_with fail
          refine mixs_begin (by kernel_rfl) hS ?_
          clear hS
          intro w2 hS
          refine tk 0 ?_
          refine tk 1 ?_
          refine tk 2 ?_
          refine tk 3 ?_
          refine tk 4 ?_
          refine tk 5 ?_
          refine tk 6 ?_
          refine tk 7 ?_
          refine tk 8 ?_
          refine wpAnyH_done (by kernel_rfl) ?_ _
          clear k1 k2
          go_wp2_with fail
          go_ret
          have : decide (l = m) = false := by rw [decide_eq_false_iff_not]; intro e; exact hx.out (t3.out e)
          exact ⟨by rw [this]; rfl, hS.below⟩
      · obtain rfl : j = n := by omega
        go_wp2_with fail
        go_ret
        have e1 := hr.out
        rw [List.take_of_length_le (by rw [hn.out]; exact Nat.le_refl _), List.take_of_length_le (by rw [hk.out]; exact Nat.le_refl _)] at e1
        exact ⟨by rw [decide_eq_true e1]; rfl, hS.below⟩
  · have e : decide (l = m) = false := by rw [decide_eq_false_iff_not]; intro e; subst e; omega
    have hb : ((n : Int) != (k : Int)) = true := by simp; omega
    rw [e]
    clear hlen hn hk e
    go_enter Try.func52, Try.ntmps52
    go_wp2_with fail
    go_ret
    exact ⟨rfl, hS.below⟩
end Go.Proofs.Ytkbekagmfbgefaa
end
