/- Groups: a card that joins, and quits. -/
import Derived.Test.YtplgpbbghhlbjaaGrp3
set_option linter.unusedSimpArgs false
set_option linter.unusedVariables false
namespace Go.Proofs.Ytplgpbbghhlbjaa
open Go.RowKit Go.Ofp
set_option linter.unusedVariables false
set_option maxRecDepth 100000
set_option maxHeartbeats 4000000

/-- Members that a callee hands back, or an error. -/
def MOut (r : Int × List Int) (w : World) (e : Ending) (w' : World) : Prop := ∃ a c, e = .returned (.tuple #[.slice a r.2.length c, .int .i64 r.1]) ∧ St w [] [irow a c r.2] w'
def joinM (m : List Int) (id : Int) : Int × List Int := if Ids.has m id then (7, []) else (0, Ids.put m id)
def quitM (m : List Int) (id : Int) : Int × List Int := if Ids.has m id then (0, Ids.drop m id) else (6, [])
theorem mOut_err {w w' : World} {e : Int} (hS : St w [] [] w') : MOut (e, []) w (.returned (.tuple #[.slice none 0 0, .int .i64 e])) w' := ⟨none, 0, rfl, hS.nilrow 3 1⟩
theorem up_get {gs : List Gr} {p : Nat} (h : p < gs.length) : (nos gs).length = gs.length := by simp [nos]

/-- What a turn of one group's members makes of the groups. -/
def turnK (ks : List Key) (g id : Int) (f : List Int → Int → Int × List Int) : Int × List Key :=
  if g < 0 ∨ 16 ≤ g ∨ id < 1 ∨ 1073741824 ≤ id then (1, []) else if Ids.has (knos ks) g then
    (if (f (memAt ks g) id).1 = 0 then (0, ks.set (Ids.place (knos ks) g) (g, (f (memAt ks g) id).2)) else ((f (memAt ks g) id).1, [])) else (6, [])
theorem turn_join (ks : List Key) (g id : Int) : turnK ks g id joinM = joinK ks g id := by
  unfold turnK joinK joinM
  by_cases h1 : g < 0 ∨ 16 ≤ g ∨ id < 1 ∨ 1073741824 ≤ id
  · rw [if_pos h1, if_pos h1]
  · rw [if_neg h1, if_neg h1]
    cases Ids.has (knos ks) g <;> cases Ids.has (memAt ks g) id <;> simp
theorem turn_quit (ks : List Key) (g id : Int) : turnK ks g id quitM = quitK ks g id := by
  unfold turnK quitK quitM
  by_cases h1 : g < 0 ∨ 16 ≤ g ∨ id < 1 ∨ 1073741824 ≤ id
  · rw [if_pos h1, if_pos h1]
  · rw [if_neg h1, if_neg h1]
    cases Ids.has (knos ks) g <;> cases Ids.has (memAt ks g) id <;> simp
theorem keys_take (gs : List Gr) (p : Nat) : keys (gs.take p) = (keys gs).take p := by simp [keys]
theorem keys_drop (gs : List Gr) (p : Nat) : keys (gs.drop p) = (keys gs).drop p := by simp [keys]
theorem set_split {α : Type} (l : List α) (p : Nat) (x : α) (h : p < l.length) : l.set p x = l.take p ++ x :: l.drop (p + 1) := by
  rw [List.set_eq_take_append_cons_drop, if_pos h]

theorem join1_any (A : Option Addr) (m : List Int) (C gi : Nat) (id : Int) (w : World) (hs : Sl w A (m.map vi)) (hm : m.length ≤ 10000) (hc : A = none → C = 0) (hu : Ids.Up m) (hi : w.cell? ⟨gi, 0, none⟩ = some (.int .i64 id)) :
    Calls Try.prog 71 #[.slice A m.length C, .pointer (some ⟨gi, 0, none⟩)] w (MOut (joinM m id) w) := by
  have hS := St.start w
  have cH := fun W h => has_any A m m.length C id W h rfl (by omega) hu
  have cP := fun W h => put_any A m m.length C id W h rfl hm hc hu
  unfold joinM
  generalize Ids.has m id = hb at cH ⊢
  generalize m.length = n at *
  replace cH := Lib.hid cH
  replace cP := Lib.hid cP
  replace hs := Lib.hid hs
  clear hu hc
  cases hb
  all_goals
    go_enter Try.func71, Try.ntmps71
    go_wp2_with (first
      | (go_at_call 29; (with_reducible refine (cH.out _ (hS.sl hs.out)).mono ?_); rintro _ _ ⟨rfl, rfl⟩)
      | (go_at_call 24; (with_reducible refine (cP.out _ (hS.sl hs.out)).mono ?_); rintro _ w3 ⟨a3, c3, rfl, h31, h32, hb3⟩; have hS1 := hS.made hb3; clear hS hb3; have hS := hS1; clear hS1))
    go_ret2
    first
      | exact mOut_err hS
      | exact ⟨_, _, rfl, hS⟩

theorem turned_join (a : Option Addr) (gs : List Gr) (n cap gi : Nat) (g id : Int) (w : World) (hD : Deep w a n cap gs) (hm : n ≤ 1000) (hmm : ∀ g ∈ gs, g.mem.length ≤ 10000) (hu : Ids.Up (nos gs)) (hum : ∀ g ∈ gs, Ids.Up g.mem) (hi : w.cell? ⟨gi, 0, none⟩ = some (.int .i64 id)) :
    Calls Try.prog 70 #[.slice a n cap, .int .i64 g, .int .i64 id, .func (.func 71) #[] #[.pointer (some ⟨gi, 0, none⟩)]] w (GsOut (turnK (keys gs) g id joinM) w) := by
  have hS := St.start w
  have cF := fun W (h : Deep W a n cap gs) => find_any a gs n cap g W h (by omega) hu
  have cC := fun W (h : Deep W a n cap gs) => copied_any a gs n cap W h hm hmm
  have hnl : (nos gs).length = n := by rw [nos, List.length_map, hD.len]
  have hlen := hD.len
  have hlt := Ids.has_lt (nos gs) g hu
  have hhp := Ids.has_place (nos gs) g hu
  rw [hnl] at hlt
  unfold turnK memAt
  rw [← nos_keys]
  generalize Ids.has (nos gs) g = hb at cF hlt hhp ⊢
  generalize Ids.place (nos gs) g = p at cF hlt hhp ⊢
  have hD3 := fun W (h : Below w.heap.size w W) => hD.below h
  replace hD := Lib.hid hD
  replace cF := Lib.hid cF
  replace cC := Lib.hid cC
  replace hD3 := Lib.hid hD3
  have hio := Lib.hid (fun W (h : Below w.heap.size w W) => (Below.cell h (p := ⟨gi, 0, none⟩) (World.block_lt_of_cell? w _ hi)).trans hi)
  clear hi hu
  by_cases hbad : g < 0 ∨ 16 ≤ g ∨ id < 1 ∨ 1073741824 ≤ id
  · rw [if_pos hbad]
    clear hlen hlt hnl hhp
    have key : g < 0 ∨ (decide (g < 0) = false ∧ 16 ≤ g) ∨ (decide (g < 0) = false ∧ decide (16 ≤ g) = false ∧ id < 1) ∨ (decide (g < 0) = false ∧ decide (16 ≤ g) = false ∧ decide (id < 1) = false ∧ 1073741824 ≤ id) := by
      by_cases k1 : g < 0
      · exact .inl k1
      · by_cases k2 : 16 ≤ g
        · exact .inr (.inl ⟨decide_eq_false k1, k2⟩)
        · by_cases k3 : id < 1
          · exact .inr (.inr (.inl ⟨decide_eq_false k1, decide_eq_false k2, k3⟩))
          · exact .inr (.inr (.inr ⟨decide_eq_false k1, decide_eq_false k2, decide_eq_false k3, by omega⟩))
    clear hbad
    rcases key with k1 | ⟨k1, k2⟩ | ⟨k1, k2, k3⟩ | ⟨k1, k2, k3, k4⟩
    all_goals
      go_enter Try.func70, Try.ntmps70
      go_wp2_with fail
      go_ret2
      exact gsOut_err hS.below
  · rw [if_neg hbad]
    have d1 : decide (g < 0) = false := decide_eq_false (by omega)
    have d2 : decide (16 ≤ g) = false := decide_eq_false (by omega)
    have d3 : decide (id < 1) = false := decide_eq_false (by omega)
    have d4 : decide (1073741824 ≤ id) = false := decide_eq_false (by omega)
    clear hbad
    cases hb with
    | false =>
      rw [if_neg (by simp)]
      clear hlen hlt hnl hhp
      go_enter Try.func70, Try.ntmps70
      go_wp2_with (go_at_call 69; (with_reducible refine (cF.out _ hD.out).mono ?_); rintro _ w3 ⟨rfl, hb3⟩; have hS1 := hS.keepB hb3; clear hb3 hS; have hS := hS1; clear hS1)
      go_ret2
      exact gsOut_err hS.below
    | true =>
      rw [if_pos rfl]
      have hpn := hlt rfl
      have hpg : p < gs.length := by omega
      have hno : gs[p].no = g := by
        rw [dif_pos (by rw [hnl]; exact hpn)] at hhp
        have := of_decide_eq_true hhp.symm
        simpa [nos] using this
      obtain ⟨b, off, rfl, c0, c1⟩ := hD.out.get p hpg
      have hgM := hD.out.mem gs[p] (List.getElem_mem hpg)
      have hgl := hmm gs[p] (List.getElem_mem hpg)
      have hgu := hum gs[p] (List.getElem_mem hpg)
      have hmem : ((keys gs).getD p (0, [])).2 = gs[p].mem := by
        unfold keys
        simp [List.getD_eq_getElem?_getD, hpg, Gr.key]
      rw [hmem]
      have hset : (keys gs).set p (g, (joinM gs[p].mem id).2) = (keys gs).take p ++ (gs[p].no, (joinM gs[p].mem id).2) :: (keys gs).drop (p + 1) := by
        rw [set_split _ _ _ (by simp [keys]; exact hpg), hno]
      rw [hset]
      have hkp : (keys gs)[p]? = some gs[p].key := by simp [keys, hpg]
      generalize gs[p] = gp0 at c0 c1 hgM hgl hgu hkp
      have cJ := fun W h1 h2 => join1_any gp0.a gp0.mem gp0.c gi id W h1 hgl hgM.nz hgu h2
      obtain ⟨⟨fe, fl⟩, hfe⟩ : ∃ x, joinM gp0.mem id = x := ⟨_, rfl⟩
      rw [hfe] at cJ ⊢
      have hsl := Lib.hid (fun W (h : Below w.heap.size w W) => hgM.sl.below h)
      clear hfe hlt hnl hhp hmem hset hgM hno
      replace cJ := Lib.hid cJ
      replace hlen := Lib.hid hlen
      replace c1 := Lib.hid c1
      clear c0
      replace hkp := Lib.hid hkp
      have hcc := Lib.hid (fun W (h : St w [] [] W) => h.old c1.out (by simp))
      by_cases hf : fe = 0
      · subst hf
        rw [if_pos rfl]
        go_enter Try.func70, Try.ntmps70
        go_wp2_with (first
          | (go_at_call 69; (with_reducible refine (cF.out _ hD.out).mono ?_); rintro _ w3 ⟨rfl, hb3⟩; have hS1 := hS.keepB hb3; clear hb3 hS; have hS := hS1; clear hS1; have hcell := hcc.out _ hS)
          | (go_at_call 71; (with_reducible refine (cJ.out _ (hsl.out _ hS.below) (hio.out _ hS.below)).mono ?_); rintro _ w4 ⟨a5, c5, rfl, hb4⟩; clear hcell; have hS1 := hS.made hb4; clear hS hb4; have hS := hS1; clear hS1)
          | (go_at_call 75; (with_reducible refine (cC.out _ (hD3.out _ hS.below)).mono ?_); rintro _ w3 ⟨a3, c3, gs', hk3, rfl, hb3⟩; have hS1 := hS.made hb3; clear hS hb3; have hS := hS1; clear hS1; simp only [hlen.out] at hS ⊢; obtain ⟨g3, c4, e3, -⟩ := hS.rowat 0 rfl (by omega); cases e3; obtain ⟨cur, q1, q2, q3, q4, hS2⟩ := St.rowblk hS; clear hS; have hS := hS2; clear hS2; have hble : Nat.ble (p * 2 + 1 + 1) cur.size = true := (by rw [Nat.ble_eq, q1]; omega); replace q1 := Lib.hid q1; replace q2 := Lib.hid q2; replace hk3 := Lib.hid hk3; have hc63 : c3 ≤ 9223372036854775807 := (by unfold maxLen at q4; omega))
          | ((with_reducible refine wpList_store_st 0 hS rfl rfl rfl rfl (by kernel_rfl) rfl hble ?_); intro w6 hS1; clear hS; have hS := hS1; clear hS1))
        go_ret2
        have hl' : gs'.length = n := by
          have := congrArg List.length hk3.out
          simp only [keys, List.length_map] at this
          rw [this, hlen.out]
        have hp' : p < gs'.length := by omega
        have hsp : gs' = gs'.take p ++ gs'[p] :: gs'.drop (p + 1) := by
          rw [← List.drop_eq_getElem_cons hp', List.take_append_drop]
        have hno' : gs'[p].no = gp0.no := by
          have h1 := hkp.out
          rw [← hk3.out] at h1
          simp only [keys, List.getElem?_map, List.getElem?_eq_getElem hp', Option.map_some, Option.some.injEq] at h1
          exact congrArg Prod.fst h1
        generalize gs'[p] = gq at hsp hno'
        have hAl : (gs'.take p).length = p := by rw [List.length_take]; omega
        have hr := St.blkrow2 hS 2 (n := n) (c := c3) (xs := grows (gs'.take p ++ (⟨gq.no, a5, c5, fl⟩ : Gr) :: gs'.drop (p + 1))) (by rw [Array.size_setIfInBounds]; exact q1.out) q3 q4 (by
          have h2 := grows_set_mem (gs'.take p) (gs'.drop (p + 1)) gq a5 c5 fl
          rw [← hsp, hAl] at h2
          rw [Array.toList_setIfInBounds, List.take_set, q2.out]
          exact h2)
        have hlx : (gs'.take p ++ (⟨gq.no, a5, c5, fl⟩ : Gr) :: gs'.drop (p + 1)).length = n := by simp; omega
        have hd := deep_of hr rfl hlx (by
          intro x hx
          left
          simp only [List.mem_append, List.mem_cons] at hx
          rcases hx with hx | rfl | hx
          · exact List.mem_append.2 (.inl (List.mem_map.2 ⟨x, by simpa using List.mem_of_mem_take hx, rfl⟩))
          · exact List.mem_append.2 (.inr List.mem_cons_self)
          · exact List.mem_append.2 (.inl (List.mem_map.2 ⟨x, by simpa using List.mem_of_mem_drop hx, rfl⟩)))
        refine ⟨_, _, _, ?_, ?_, by rw [hlx]; exact hd, hS.below⟩
        · rw [← hk3.out]
          simp [keys, Gr.key, hno']
        · rw [hlx]; rfl
      · rw [if_neg hf]
        have hfb : (fe != 0) = true := by simpa using hf
        replace hf := Lib.hid hf
        go_enter Try.func70, Try.ntmps70
        go_wp2_with (first
          | (go_at_call 69; (with_reducible refine (cF.out _ hD.out).mono ?_); rintro _ w3 ⟨rfl, hb3⟩; have hS1 := hS.keepB hb3; clear hb3 hS; have hS := hS1; clear hS1; have hcell := hcc.out _ hS)
          | (go_at_call 71; (with_reducible refine (cJ.out _ (hsl.out _ hS.below) (hio.out _ hS.below)).mono ?_); rintro _ w4 ⟨a5, c5, rfl, hb4⟩; clear hcell; have hS1 := hS.made hb4; clear hS hb4; have hS := hS1; clear hS1))
        go_ret2
        exact gsOut_err hS.below

theorem join_any (a : Option Addr) (gs : List Gr) (n cap : Nat) (g id : Int) (w : World) (hD : Deep w a n cap gs) (hm : n ≤ 1000) (hmm : ∀ g ∈ gs, g.mem.length ≤ 10000) (hu : Ids.Up (nos gs)) (hum : ∀ g ∈ gs, Ids.Up g.mem) :
    Calls Try.prog 40 #[.slice a n cap, .int .i64 g, .int .i64 id] w (GsOut (joinK (keys gs) g id) w) := by
  rw [← turn_join]
  have hS := St.start w
  have hmf : ∀ (fn : Fn) (first cap : Array Value) (w : World), (Instr.makeFunc fn first cap).run Try.prog w = .ok (.func fn first cap) w := fun _ _ _ _ => rfl
  have cT := Lib.hid (fun W gi h1 h2 => turned_join a gs n cap gi g id W h1 hm hmm hu hum h2)
  have hD3 := Lib.hid (fun W (h : Below w.heap.size w W) => hD.below h)
  clear hD hu hum hmm
  go_enter Try.func40, Try.ntmps40
  go_wp2_with (first
    | (with_reducible refine wpList_box_st hS rfl rfl rfl ?_; intro g1 w1 hS1; clear hS; replace hS := hS1; clear hS1) | (with_reducible refine wpList_box1_st hS rfl rfl rfl ?_; intro g1 w1 hS1; clear hS; replace hS := hS1; clear hS1) | (with_reducible refine wpList_alloc_st hS rfl rfl (by assumption) ?_; intro g1 w1 hS1; clear hS; replace hS := hS1; clear hS1) | (with_reducible refine wpList_alloc1_st hS rfl rfl (by assumption) rfl ?_; intro g1 w1 hS1; clear hS; replace hS := hS1; clear hS1) | ((with_reducible refine wpList_load_st 0 hS rfl rfl rfl rfl ?_ rfl ?_); focus (simp [scalarB, go_sem]; done)) | ((with_reducible refine wpList_loadall_st 0 hS rfl rfl rfl rfl ?_ (by kernel_rfl) ?_); focus (simp [rowB, go_sem]; done)) | ((with_reducible refine wpList_store_st 0 hS rfl rfl rfl rfl (by kernel_rfl) rfl rfl ?_); intro w1 hS1; clear hS; replace hS := hS1; clear hS1; try simp only [List.set_cons_zero, List.set_cons_succ, List.setIfInBounds_toArray, List.take_succ_cons, List.take_zero, List.drop_succ_cons, List.drop_zero, List.nil_append, List.cons_append, List.append_nil, List.drop_nil, List.take_nil, List.length_cons, List.length_nil, Nat.zero_add, Nat.add_zero, Nat.reduceAdd] at hS) | ((with_reducible refine wpList_storerow_st 0 hS rfl rfl rfl rfl (by kernel_rfl) rfl rfl rfl rfl ?_); intro w1 hS1; clear hS; replace hS := hS1; clear hS1; try simp only [List.set_cons_zero, List.set_cons_succ, List.setIfInBounds_toArray, List.take_succ_cons, List.take_zero, List.drop_succ_cons, List.drop_zero, List.nil_append, List.cons_append, List.append_nil, List.drop_nil, List.take_nil, List.length_cons, List.length_nil, Nat.zero_add, Nat.add_zero, Nat.reduceAdd] at hS)
    | (go_at_call 70; (with_reducible refine (cT.out _ _ (hD3.out _ hS.below) (hS.cell 0 rfl 0)).mono ?_); rintro _ w3 ⟨a3, c3, gs', hk3, rfl, hd3, hb3⟩; have hS1 := hS.keepB hb3; clear hb3 hS; have hS := hS1; clear hS1))
  go_ret2
  exact ⟨a3, c3, gs', hk3, rfl, hd3, hS.below⟩

theorem quit1_any (A : Option Addr) (m : List Int) (C gi : Nat) (id : Int) (w : World) (hs : Sl w A (m.map vi)) (hm : m.length ≤ 10000) (hc : A = none → C = 0) (hu : Ids.Up m) (hi : w.cell? ⟨gi, 0, none⟩ = some (.int .i64 id)) :
    Calls Try.prog 72 #[.slice A m.length C, .pointer (some ⟨gi, 0, none⟩)] w (MOut (quitM m id) w) := by
  have hS := St.start w
  have cH := fun W h => has_any A m m.length C id W h rfl (by omega) hu
  have cP := fun W h => drop_any A m m.length C id W h rfl hm hc hu
  unfold quitM
  generalize Ids.has m id = hb at cH ⊢
  generalize m.length = n at *
  replace cH := Lib.hid cH
  replace cP := Lib.hid cP
  replace hs := Lib.hid hs
  clear hu hc
  cases hb
  all_goals
    go_enter Try.func72, Try.ntmps72
    go_wp2_with (first
      | (go_at_call 29; (with_reducible refine (cH.out _ (hS.sl hs.out)).mono ?_); rintro _ _ ⟨rfl, rfl⟩)
      | (go_at_call 23; (with_reducible refine (cP.out _ (hS.sl hs.out)).mono ?_); rintro _ w3 ⟨a3, c3, rfl, h31, h32, hb3⟩; have hS1 := hS.made hb3; clear hS hb3; have hS := hS1; clear hS1))
    go_ret2
    first
      | exact mOut_err hS
      | exact ⟨_, _, rfl, hS⟩

theorem turned_quit (a : Option Addr) (gs : List Gr) (n cap gi : Nat) (g id : Int) (w : World) (hD : Deep w a n cap gs) (hm : n ≤ 1000) (hmm : ∀ g ∈ gs, g.mem.length ≤ 10000) (hu : Ids.Up (nos gs)) (hum : ∀ g ∈ gs, Ids.Up g.mem) (hi : w.cell? ⟨gi, 0, none⟩ = some (.int .i64 id)) :
    Calls Try.prog 70 #[.slice a n cap, .int .i64 g, .int .i64 id, .func (.func 72) #[] #[.pointer (some ⟨gi, 0, none⟩)]] w (GsOut (turnK (keys gs) g id quitM) w) := by
  have hS := St.start w
  have cF := fun W (h : Deep W a n cap gs) => find_any a gs n cap g W h (by omega) hu
  have cC := fun W (h : Deep W a n cap gs) => copied_any a gs n cap W h hm hmm
  have hnl : (nos gs).length = n := by rw [nos, List.length_map, hD.len]
  have hlen := hD.len
  have hlt := Ids.has_lt (nos gs) g hu
  have hhp := Ids.has_place (nos gs) g hu
  rw [hnl] at hlt
  unfold turnK memAt
  rw [← nos_keys]
  generalize Ids.has (nos gs) g = hb at cF hlt hhp ⊢
  generalize Ids.place (nos gs) g = p at cF hlt hhp ⊢
  have hD3 := fun W (h : Below w.heap.size w W) => hD.below h
  replace hD := Lib.hid hD
  replace cF := Lib.hid cF
  replace cC := Lib.hid cC
  replace hD3 := Lib.hid hD3
  have hio := Lib.hid (fun W (h : Below w.heap.size w W) => (Below.cell h (p := ⟨gi, 0, none⟩) (World.block_lt_of_cell? w _ hi)).trans hi)
  clear hi hu
  by_cases hbad : g < 0 ∨ 16 ≤ g ∨ id < 1 ∨ 1073741824 ≤ id
  · rw [if_pos hbad]
    clear hlen hlt hnl hhp
    have key : g < 0 ∨ (decide (g < 0) = false ∧ 16 ≤ g) ∨ (decide (g < 0) = false ∧ decide (16 ≤ g) = false ∧ id < 1) ∨ (decide (g < 0) = false ∧ decide (16 ≤ g) = false ∧ decide (id < 1) = false ∧ 1073741824 ≤ id) := by
      by_cases k1 : g < 0
      · exact .inl k1
      · by_cases k2 : 16 ≤ g
        · exact .inr (.inl ⟨decide_eq_false k1, k2⟩)
        · by_cases k3 : id < 1
          · exact .inr (.inr (.inl ⟨decide_eq_false k1, decide_eq_false k2, k3⟩))
          · exact .inr (.inr (.inr ⟨decide_eq_false k1, decide_eq_false k2, decide_eq_false k3, by omega⟩))
    clear hbad
    rcases key with k1 | ⟨k1, k2⟩ | ⟨k1, k2, k3⟩ | ⟨k1, k2, k3, k4⟩
    all_goals
      go_enter Try.func70, Try.ntmps70
      go_wp2_with fail
      go_ret2
      exact gsOut_err hS.below
  · rw [if_neg hbad]
    have d1 : decide (g < 0) = false := decide_eq_false (by omega)
    have d2 : decide (16 ≤ g) = false := decide_eq_false (by omega)
    have d3 : decide (id < 1) = false := decide_eq_false (by omega)
    have d4 : decide (1073741824 ≤ id) = false := decide_eq_false (by omega)
    clear hbad
    cases hb with
    | false =>
      rw [if_neg (by simp)]
      clear hlen hlt hnl hhp
      go_enter Try.func70, Try.ntmps70
      go_wp2_with (go_at_call 69; (with_reducible refine (cF.out _ hD.out).mono ?_); rintro _ w3 ⟨rfl, hb3⟩; have hS1 := hS.keepB hb3; clear hb3 hS; have hS := hS1; clear hS1)
      go_ret2
      exact gsOut_err hS.below
    | true =>
      rw [if_pos rfl]
      have hpn := hlt rfl
      have hpg : p < gs.length := by omega
      have hno : gs[p].no = g := by
        rw [dif_pos (by rw [hnl]; exact hpn)] at hhp
        have := of_decide_eq_true hhp.symm
        simpa [nos] using this
      obtain ⟨b, off, rfl, c0, c1⟩ := hD.out.get p hpg
      have hgM := hD.out.mem gs[p] (List.getElem_mem hpg)
      have hgl := hmm gs[p] (List.getElem_mem hpg)
      have hgu := hum gs[p] (List.getElem_mem hpg)
      have hmem : ((keys gs).getD p (0, [])).2 = gs[p].mem := by
        unfold keys
        simp [List.getD_eq_getElem?_getD, hpg, Gr.key]
      rw [hmem]
      have hset : (keys gs).set p (g, (quitM gs[p].mem id).2) = (keys gs).take p ++ (gs[p].no, (quitM gs[p].mem id).2) :: (keys gs).drop (p + 1) := by
        rw [set_split _ _ _ (by simp [keys]; exact hpg), hno]
      rw [hset]
      have hkp : (keys gs)[p]? = some gs[p].key := by simp [keys, hpg]
      generalize gs[p] = gp0 at c0 c1 hgM hgl hgu hkp
      have cJ := fun W h1 h2 => quit1_any gp0.a gp0.mem gp0.c gi id W h1 hgl hgM.nz hgu h2
      obtain ⟨⟨fe, fl⟩, hfe⟩ : ∃ x, quitM gp0.mem id = x := ⟨_, rfl⟩
      rw [hfe] at cJ ⊢
      have hsl := Lib.hid (fun W (h : Below w.heap.size w W) => hgM.sl.below h)
      clear hfe hlt hnl hhp hmem hset hgM hno
      replace cJ := Lib.hid cJ
      replace hlen := Lib.hid hlen
      replace c1 := Lib.hid c1
      clear c0
      replace hkp := Lib.hid hkp
      have hcc := Lib.hid (fun W (h : St w [] [] W) => h.old c1.out (by simp))
      by_cases hf : fe = 0
      · subst hf
        rw [if_pos rfl]
        go_enter Try.func70, Try.ntmps70
        go_wp2_with (first
          | (go_at_call 69; (with_reducible refine (cF.out _ hD.out).mono ?_); rintro _ w3 ⟨rfl, hb3⟩; have hS1 := hS.keepB hb3; clear hb3 hS; have hS := hS1; clear hS1; have hcell := hcc.out _ hS)
          | (go_at_call 72; (with_reducible refine (cJ.out _ (hsl.out _ hS.below) (hio.out _ hS.below)).mono ?_); rintro _ w4 ⟨a5, c5, rfl, hb4⟩; clear hcell; have hS1 := hS.made hb4; clear hS hb4; have hS := hS1; clear hS1)
          | (go_at_call 75; (with_reducible refine (cC.out _ (hD3.out _ hS.below)).mono ?_); rintro _ w3 ⟨a3, c3, gs', hk3, rfl, hb3⟩; have hS1 := hS.made hb3; clear hS hb3; have hS := hS1; clear hS1; simp only [hlen.out] at hS ⊢; obtain ⟨g3, c4, e3, -⟩ := hS.rowat 0 rfl (by omega); cases e3; obtain ⟨cur, q1, q2, q3, q4, hS2⟩ := St.rowblk hS; clear hS; have hS := hS2; clear hS2; have hble : Nat.ble (p * 2 + 1 + 1) cur.size = true := (by rw [Nat.ble_eq, q1]; omega); replace q1 := Lib.hid q1; replace q2 := Lib.hid q2; replace hk3 := Lib.hid hk3; have hc63 : c3 ≤ 9223372036854775807 := (by unfold maxLen at q4; omega))
          | ((with_reducible refine wpList_store_st 0 hS rfl rfl rfl rfl (by kernel_rfl) rfl hble ?_); intro w6 hS1; clear hS; have hS := hS1; clear hS1))
        go_ret2
        have hl' : gs'.length = n := by
          have := congrArg List.length hk3.out
          simp only [keys, List.length_map] at this
          rw [this, hlen.out]
        have hp' : p < gs'.length := by omega
        have hsp : gs' = gs'.take p ++ gs'[p] :: gs'.drop (p + 1) := by
          rw [← List.drop_eq_getElem_cons hp', List.take_append_drop]
        have hno' : gs'[p].no = gp0.no := by
          have h1 := hkp.out
          rw [← hk3.out] at h1
          simp only [keys, List.getElem?_map, List.getElem?_eq_getElem hp', Option.map_some, Option.some.injEq] at h1
          exact congrArg Prod.fst h1
        generalize gs'[p] = gq at hsp hno'
        have hAl : (gs'.take p).length = p := by rw [List.length_take]; omega
        have hr := St.blkrow2 hS 2 (n := n) (c := c3) (xs := grows (gs'.take p ++ (⟨gq.no, a5, c5, fl⟩ : Gr) :: gs'.drop (p + 1))) (by rw [Array.size_setIfInBounds]; exact q1.out) q3 q4 (by
          have h2 := grows_set_mem (gs'.take p) (gs'.drop (p + 1)) gq a5 c5 fl
          rw [← hsp, hAl] at h2
          rw [Array.toList_setIfInBounds, List.take_set, q2.out]
          exact h2)
        have hlx : (gs'.take p ++ (⟨gq.no, a5, c5, fl⟩ : Gr) :: gs'.drop (p + 1)).length = n := by simp; omega
        have hd := deep_of hr rfl hlx (by
          intro x hx
          left
          simp only [List.mem_append, List.mem_cons] at hx
          rcases hx with hx | rfl | hx
          · exact List.mem_append.2 (.inl (List.mem_map.2 ⟨x, by simpa using List.mem_of_mem_take hx, rfl⟩))
          · exact List.mem_append.2 (.inr List.mem_cons_self)
          · exact List.mem_append.2 (.inl (List.mem_map.2 ⟨x, by simpa using List.mem_of_mem_drop hx, rfl⟩)))
        refine ⟨_, _, _, ?_, ?_, by rw [hlx]; exact hd, hS.below⟩
        · rw [← hk3.out]
          simp [keys, Gr.key, hno']
        · rw [hlx]; rfl
      · rw [if_neg hf]
        have hfb : (fe != 0) = true := by simpa using hf
        replace hf := Lib.hid hf
        go_enter Try.func70, Try.ntmps70
        go_wp2_with (first
          | (go_at_call 69; (with_reducible refine (cF.out _ hD.out).mono ?_); rintro _ w3 ⟨rfl, hb3⟩; have hS1 := hS.keepB hb3; clear hb3 hS; have hS := hS1; clear hS1; have hcell := hcc.out _ hS)
          | (go_at_call 72; (with_reducible refine (cJ.out _ (hsl.out _ hS.below) (hio.out _ hS.below)).mono ?_); rintro _ w4 ⟨a5, c5, rfl, hb4⟩; clear hcell; have hS1 := hS.made hb4; clear hS hb4; have hS := hS1; clear hS1))
        go_ret2
        exact gsOut_err hS.below

theorem quit_any (a : Option Addr) (gs : List Gr) (n cap : Nat) (g id : Int) (w : World) (hD : Deep w a n cap gs) (hm : n ≤ 1000) (hmm : ∀ g ∈ gs, g.mem.length ≤ 10000) (hu : Ids.Up (nos gs)) (hum : ∀ g ∈ gs, Ids.Up g.mem) :
    Calls Try.prog 41 #[.slice a n cap, .int .i64 g, .int .i64 id] w (GsOut (quitK (keys gs) g id) w) := by
  rw [← turn_quit]
  have hS := St.start w
  have hmf : ∀ (fn : Fn) (first cap : Array Value) (w : World), (Instr.makeFunc fn first cap).run Try.prog w = .ok (.func fn first cap) w := fun _ _ _ _ => rfl
  have cT := Lib.hid (fun W gi h1 h2 => turned_quit a gs n cap gi g id W h1 hm hmm hu hum h2)
  have hD3 := Lib.hid (fun W (h : Below w.heap.size w W) => hD.below h)
  clear hD hu hum hmm
  go_enter Try.func41, Try.ntmps41
  go_wp2_with (first
    | (with_reducible refine wpList_box_st hS rfl rfl rfl ?_; intro g1 w1 hS1; clear hS; replace hS := hS1; clear hS1) | (with_reducible refine wpList_box1_st hS rfl rfl rfl ?_; intro g1 w1 hS1; clear hS; replace hS := hS1; clear hS1) | (with_reducible refine wpList_alloc_st hS rfl rfl (by assumption) ?_; intro g1 w1 hS1; clear hS; replace hS := hS1; clear hS1) | (with_reducible refine wpList_alloc1_st hS rfl rfl (by assumption) rfl ?_; intro g1 w1 hS1; clear hS; replace hS := hS1; clear hS1) | ((with_reducible refine wpList_load_st 0 hS rfl rfl rfl rfl ?_ rfl ?_); focus (simp [scalarB, go_sem]; done)) | ((with_reducible refine wpList_loadall_st 0 hS rfl rfl rfl rfl ?_ (by kernel_rfl) ?_); focus (simp [rowB, go_sem]; done)) | ((with_reducible refine wpList_store_st 0 hS rfl rfl rfl rfl (by kernel_rfl) rfl rfl ?_); intro w1 hS1; clear hS; replace hS := hS1; clear hS1; try simp only [List.set_cons_zero, List.set_cons_succ, List.setIfInBounds_toArray, List.take_succ_cons, List.take_zero, List.drop_succ_cons, List.drop_zero, List.nil_append, List.cons_append, List.append_nil, List.drop_nil, List.take_nil, List.length_cons, List.length_nil, Nat.zero_add, Nat.add_zero, Nat.reduceAdd] at hS) | ((with_reducible refine wpList_storerow_st 0 hS rfl rfl rfl rfl (by kernel_rfl) rfl rfl rfl rfl ?_); intro w1 hS1; clear hS; replace hS := hS1; clear hS1; try simp only [List.set_cons_zero, List.set_cons_succ, List.setIfInBounds_toArray, List.take_succ_cons, List.take_zero, List.drop_succ_cons, List.drop_zero, List.nil_append, List.cons_append, List.append_nil, List.drop_nil, List.take_nil, List.length_cons, List.length_nil, Nat.zero_add, Nat.add_zero, Nat.reduceAdd] at hS)
    | (go_at_call 70; (with_reducible refine (cT.out _ _ (hD3.out _ hS.below) (hS.cell 0 rfl 0)).mono ?_); rintro _ w3 ⟨a3, c3, gs', hk3, rfl, hd3, hb3⟩; have hS1 := hS.keepB hb3; clear hb3 hS; have hS := hS1; clear hS1))
  go_ret2
  exact ⟨a3, c3, gs', hk3, rfl, hd3, hS.below⟩
end Go.Proofs.Ytplgpbbghhlbjaa
