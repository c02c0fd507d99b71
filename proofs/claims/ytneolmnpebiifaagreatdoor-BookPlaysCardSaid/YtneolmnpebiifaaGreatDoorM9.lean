import Derived.RangeFuncNested
import Derived.RangeFuncCalls
import Derived.RangeFuncLeaves
import Derived.RangeFuncBox
import Derived.Maps.AppendAt
import Derived.OwnWalkIn
import Derived.TacticsInMore
import Derived.LoopNIn
import Derived.LoopIn
import Derived.Test.YtneolmnpebiifaaGreatDoorM8
set_option linter.unusedVariables false
set_option linter.unusedSimpArgs false
set_option maxRecDepth 100000
section
namespace Go.Proofs.YtneolmnpebiifaaGreatDoor
open Go.RowKit Go.Ofp
set_option maxHeartbeats 4000000
def GsK (gs0 : List Gr) (a : Option Addr) (n c : Nat) (gs : List Gr) (L : List Ch) : Prop :=
 ∀ (w0 : World) (F : List Nat) (A B : List Ch) (W : World), St w0 F (A ++ (L ++ B)) W → (∀ g ∈ gs0, Mem W g) → Deep W a n c gs
def GsOutK (gs0 : List Gr) (r : Int × List Key) (w : World) (e : Ending) (w' : World) : Prop := ∃ a c gs' L, keys gs' = r.2 ∧ e = .returned (.tuple #[.slice a gs'.length c, .int .i64 r.1]) ∧ GsK gs0 a gs'.length c gs' L ∧ St w [] L w'
def GsRetK (gs0 : List Gr) (ks : List Key) (w : World) (e : Ending) (w' : World) : Prop := ∃ a c gs' L, keys gs' = ks ∧ e = .returned (.slice a gs'.length c) ∧ GsK gs0 a gs'.length c gs' L ∧ St w [] L w'
theorem gsOutK_err {gs0 : List Gr} {w w' : World} {e : Int} (hb : St w [] [] w') : GsOutK gs0 (e, []) w (.returned (.tuple #[.slice none 0 0, .int .i64 e])) w' := ⟨none, 0, [], [], rfl, rfl, fun _ _ _ _ W _ _ => deep_nil W, hb⟩
theorem deepK_of {gs0 : List Gr} {w w' : World} {F : List Nat} {a : Option Addr} {n c : Nat} {gs : List Gr} {xs : List Value} {T : List Ch} (hS : St w F (Ch.row 82 2 (.slice a n c) n xs :: T) w') (hx : xs = grows gs) (hn : gs.length = n) (hM : ∀ g ∈ gs, gp g ∈ T ∨ (∀ W, Mem W g) ∨ g ∈ gs0) : GsK gs0 a n c gs (Ch.row 82 2 (.slice a n c) n xs :: T) := by
 intro w0 F' A B W hW h0
 subst hx
 have hW := St.fore (R := B) (St.back hW)
 obtain ⟨a', c', e, hs, -, h1, h2⟩ := hW.row 0 rfl
 cases e
 refine ⟨hs, hn, h1, h2, hW.rownil 0 rfl, fun g hg => ?_⟩
 rcases hM g hg with h | h | h
 · exact mem_of_gp (hW.mem (List.mem_cons_of_mem _ h))
 · exact h W
 · exact h0 g h
theorem open_k (a : Option Addr) (gs : List Gr) (n cap : Nat) (g : Int) (w : World) (hD : Deep w a n cap gs) (hm : n ≤ 1000) (hmm : ∀ g ∈ gs, g.mem.length ≤ 10000) (hu : Ids.Up (nos gs)) :
 Calls Tryz.prog 76 #[.slice a n cap, .int .i64 g] w (GsOutK gs (openK (keys gs) g) w) := by
 have hS := St.start w
 have cF := fun W (h : Deep W a n cap gs) => find_any a gs n cap g W h (by omega) hu
 have cC := fun W (h : Deep W a n cap gs) => copied_any a gs n cap W h hm hmm
 have hpl := place_le (nos gs) g
 have hnl : (nos gs).length = n := by rw [nos, List.length_map, hD.len]
 have hlen := hD.len
 have hlt := Ids.has_lt (nos gs) g hu
 rw [hnl] at hpl
 unfold openK
 rw [← nos_keys]
 generalize Ids.has (nos gs) g = hb at cF ⊢
 generalize Ids.place (nos gs) g = p at cF hpl ⊢
 replace hD := Lib.hid hD
 replace cF := Lib.hid cF
 replace cC := Lib.hid cC
 clear hnl hu hlt
 by_cases h1 : g < 0
 · rw [if_pos (.inl h1)]
   clear hlen
   go_enter Tryz.func76, Tryz.ntmps76
   go_wp2_with fail
   go_ret2
   exact gsOutK_err hS.empty
 · have h1' : 0 ≤ g := by omega
   by_cases h2 : 16 ≤ g
   · rw [if_pos (.inr h2)]
     have d1 : decide (g < 0) = false := decide_eq_false h1
     clear hlen h1
     go_enter Tryz.func76, Tryz.ntmps76
     go_wp2_with fail
     go_ret2
     exact gsOutK_err hS.empty
   · have h2' : g < 16 := by omega
     have d1 : decide (g < 0) = false := decide_eq_false h1
     have d2 : decide (16 ≤ g) = false := decide_eq_false h2
     rw [if_neg (by omega)]
     clear h1 h2
     cases hb with
     | true =>
      rw [if_pos rfl]
      clear hlen
      go_enter Tryz.func76, Tryz.ntmps76
      go_wp2_with (go_at_call 118; (with_reducible refine (cF.out _ hD.out).mono ?_); rintro _ w3 ⟨rfl, hb3⟩; have hS1 := hS.keepB hb3; clear hb3 hS; have hS := hS1; clear hS1)
      go_ret2
      exact gsOutK_err hS.empty
     | false =>
      rw [if_neg (by simp)]
      have hD3 := fun W (h : Below w.heap.size w W) => hD.out.below h
      have cI := fun a3 c3 gs' gv W h => ginsert_any a3 gv n c3 p (grows gs') [.int .i64 g, .slice none 0 0] W h (grows_one gs') (by intro u hu; simp at hu; rcases hu with rfl | rfl <;> rfl) rfl hpl (by omega)
      replace cI := Lib.hid cI
      replace hlen := Lib.hid hlen
      replace hD3 := Lib.hid hD3
      go_enter Tryz.func76, Tryz.ntmps76
      go_wp2_with (first | (go_at_call 118; (with_reducible refine (cF.out _ hD.out).mono ?_); rintro _ w3 ⟨rfl, hb3⟩; have hS1 := hS.keepB hb3; clear hb3 hS; have hS := hS1; clear hS1) | (go_at_call 120; (with_reducible refine (cC.out _ (hD3.out _ hS.below)).mono ?_); rintro _ w3 ⟨a3, c3, gs', hk3, rfl, hb3⟩; have hS1 := hS.made hb3; clear hS hb3; have hS := hS1; clear hS1; simp only [hlen.out, List.append_nil] at hS ⊢; replace hk3 := Lib.hid hk3) | ((with_reducible refine wpList_build1 rfl rfl (.int .i64 g) rfl (build_g g) ?_)) | ((with_reducible refine wpList_build1a_st hS rfl rfl Tryz.underlying29 elem_g rfl rfl (by omega) ?_); intro g3 w4 hS1; clear hS; have hS := hS1.swap; clear hS1) | (go_at_call 119; (refine (cI.out a3 c3 gs' g3 _ (hS.pre (gA a3 n c3 g3 (grows gs') [.int .i64 g, .slice none 0 0]) _ rfl)).mono ?_); rintro _ w5 ⟨a4, c4, rfl, hb3⟩; have hS1 := hS.call (gA a3 n c3 g3 (grows gs') [.int .i64 g, .slice none 0 0]) _ rfl hb3; clear hS hb3; have hS := hS1; clear hS1))
      go_ret2
      have hl' : gs'.length = n := by
       have := congrArg List.length hk3.out
       simp only [keys, List.length_map] at this
       rw [this, hlen.out]
      have hlx : (gs'.take p ++ (⟨g, none, 0, []⟩ : Gr) :: gs'.drop p).length = n + 1 := by simp; omega
      have hd := deepK_of (gs0 := gs) (gs := gs'.take p ++ (⟨g, none, 0, []⟩ : Gr) :: gs'.drop p) hS (by
       rw [grows_take, grows_drop, grows_append]; simp [grows, Gr.row]) hlx (by
       intro x hx
       simp only [List.mem_append, List.mem_cons] at hx
       rcases hx with hx | rfl | hx
       · left; exact List.mem_map.2 ⟨x, by simpa using List.mem_of_mem_take hx, rfl⟩
       · right; left; exact fun _ => ⟨Sl.nil _ _, Nat.le_refl _, Nat.zero_le _, fun _ => rfl⟩
       · left; exact List.mem_map.2 ⟨x, by simpa using List.mem_of_mem_drop hx, rfl⟩)
      refine ⟨a4, c4, _, _, ?_, ?_, by rw [hlx]; exact hd, hS⟩
      · rw [← hk3.out]
        simp [keys, Gr.key]
      · rw [hlx]; rfl
theorem close_k (a : Option Addr) (gs : List Gr) (n cap : Nat) (g : Int) (w : World) (hD : Deep w a n cap gs) (hm : n ≤ 1000) (hmm : ∀ g ∈ gs, g.mem.length ≤ 10000) (hu : Ids.Up (nos gs)) :
 Calls Tryz.prog 78 #[.slice a n cap, .int .i64 g] w (GsOutK gs (closeK (keys gs) g) w) := by
 have hS := St.start w
 have cF := fun W (h : Deep W a n cap gs) => find_any a gs n cap g W h (by omega) hu
 have cC := fun W (h : Deep W a n cap gs) => copied_any a gs n cap W h hm hmm
 have hnl : (nos gs).length = n := by rw [nos, List.length_map, hD.len]
 have hlen := hD.len
 have hlt := Ids.has_lt (nos gs) g hu
 rw [hnl] at hlt
 unfold closeK
 rw [← nos_keys]
 generalize Ids.has (nos gs) g = hb at cF hlt ⊢
 generalize Ids.place (nos gs) g = p at cF hlt ⊢
 replace hD := Lib.hid hD
 replace cF := Lib.hid cF
 replace cC := Lib.hid cC
 clear hnl hu
 by_cases h1 : g < 0
 · rw [if_pos (.inl h1)]
   clear hlen hlt
   go_enter Tryz.func78, Tryz.ntmps78
   go_wp2_with fail
   go_ret2
   exact gsOutK_err hS.empty
 · have h1' : 0 ≤ g := by omega
   by_cases h2 : 16 ≤ g
   · rw [if_pos (.inr h2)]
     have d1 : decide (g < 0) = false := decide_eq_false h1
     clear hlen h1 hlt
     go_enter Tryz.func78, Tryz.ntmps78
     go_wp2_with fail
     go_ret2
     exact gsOutK_err hS.empty
   · have h2' : g < 16 := by omega
     have d1 : decide (g < 0) = false := decide_eq_false h1
     have d2 : decide (16 ≤ g) = false := decide_eq_false h2
     rw [if_neg (by omega)]
     clear h1 h2
     cases hb with
     | false =>
      rw [if_neg (by simp)]
      clear hlen hlt
      go_enter Tryz.func78, Tryz.ntmps78
      go_wp2_with (go_at_call 118; (with_reducible refine (cF.out _ hD.out).mono ?_); rintro _ w3 ⟨rfl, hb3⟩; have hS1 := hS.keepB hb3; clear hb3 hS; have hS := hS1; clear hS1)
      go_ret2
      exact gsOutK_err hS.empty
     | true =>
      rw [if_pos rfl]
      have hpn := hlt rfl
      obtain ⟨k, rfl⟩ : ∃ k, n = k + 1 := ⟨n - 1, by omega⟩
      have hD3 := fun W (h : Below w.heap.size w W) => hD.out.below h
      have cI := fun g3 c3 gs' W h => gdelete_any g3 k c3 p (grows gs') W h (grows_one gs') (by omega) (by omega)
      replace cI := Lib.hid cI
      replace hlen := Lib.hid hlen
      replace hD3 := Lib.hid hD3
      clear hlt
      go_enter Tryz.func78, Tryz.ntmps78
      go_wp2_with (first | (go_at_call 118; (with_reducible refine (cF.out _ hD.out).mono ?_); rintro _ w3 ⟨rfl, hb3⟩; have hS1 := hS.keepB hb3; clear hb3 hS; have hS := hS1; clear hS1) | (go_at_call 120; (with_reducible refine (cC.out _ (hD3.out _ hS.below)).mono ?_); rintro _ w3 ⟨a3, c3, gs', hk3, rfl, hb3⟩; have hS1 := hS.made hb3; clear hS hb3; have hS := hS1; clear hS1; simp only [hlen.out, List.append_nil] at hS ⊢; replace hk3 := Lib.hid hk3; obtain ⟨g3, c4, e3, -⟩ := hS.rowat 0 rfl (by omega); cases e3) | (go_at_call 121; (refine (cI.out g3 c3 gs' _ (hS.pre [Ch.row 82 2 (.slice (some ⟨g3, 0, none⟩) (k + 1) c3) (k + 1) (grows gs')] _ rfl)).mono ?_); rintro _ w5 ⟨rfl, hb3⟩; have hS1 := hS.call [Ch.row 82 2 (.slice (some ⟨g3, 0, none⟩) (k + 1) c3) (k + 1) (grows gs')] _ rfl hb3; clear hS hb3; have hS := hS1; clear hS1))
      go_ret2
      have hl' : gs'.length = k + 1 := by
       have := congrArg List.length hk3.out
       simp only [keys, List.length_map] at this
       rw [this, hlen.out]
      have hlx : (gs'.take p ++ gs'.drop (p + 1)).length = k := by simp; omega
      have hd := deepK_of (gs0 := gs) (gs := gs'.take p ++ gs'.drop (p + 1)) hS (by
       rw [grows_take, grows_drop, grows_append]) hlx (by
       intro x hx
       simp only [List.mem_append] at hx
       rcases hx with hx | hx
       · left; exact List.mem_map.2 ⟨x, by simpa using List.mem_of_mem_take hx, rfl⟩
       · left; exact List.mem_map.2 ⟨x, by simpa using List.mem_of_mem_drop hx, rfl⟩)
      refine ⟨_, _, _, _, ?_, ?_, by rw [hlx]; exact hd, hS⟩
      · rw [← hk3.out]
        simp [keys]
      · rw [hlx]; rfl
theorem turned_join_k (a : Option Addr) (gs : List Gr) (n cap gi : Nat) (g id : Int) (w : World) (hD : Deep w a n cap gs) (hm : n ≤ 1000) (hmm : ∀ g ∈ gs, g.mem.length ≤ 10000) (hu : Ids.Up (nos gs)) (hum : ∀ g ∈ gs, Ids.Up g.mem) (hi : w.cell? ⟨gi, 0, none⟩ = some (.int .i64 id)) :
 Calls Tryz.prog 122 #[.slice a n cap, .int .i64 g, .int .i64 id, .func (.func 123) #[] #[.pointer (some ⟨gi, 0, none⟩)]] w (GsOutK gs (turnK (keys gs) g id joinM) w) := by
 have hS := St.start w
 have cF := fun W (h : Deep W a n cap gs) => find_any a gs n cap g W h (by omega) hu
 have cC := fun W (h : Deep W a n cap gs) => copied_any a gs n cap W h hm hmm
 have hnl : (nos gs).length = n := by rw [nos, List.length_map, hD.len]
 have hlen := hD.len
 have hlt := Ids.has_lt (nos gs) g hu
 have hhp := Ids.has_place (nos gs) g hu
 rw [hnl] at hlt
 unfold turnK memAt
 rw [← nos_keys]
 generalize Ids.has (nos gs) g = hb at cF hlt hhp ⊢
 generalize Ids.place (nos gs) g = p at cF hlt hhp ⊢
 have hD3 := fun W (h : Below w.heap.size w W) => hD.below h
 replace hD := Lib.hid hD
 replace cF := Lib.hid cF
 replace cC := Lib.hid cC
 replace hD3 := Lib.hid hD3
 have hio := Lib.hid (fun W (h : Below w.heap.size w W) => (Below.cell h (p := ⟨gi, 0, none⟩) (World.block_lt_of_cell? w _ hi)).trans hi)
 clear hi hu
 by_cases hbad : g < 0 ∨ 16 ≤ g ∨ id < 1 ∨ 1073741824 ≤ id
 · rw [if_pos hbad]
   clear hlen hlt hnl hhp
   have key : g < 0 ∨ (decide (g < 0) = false ∧ 16 ≤ g) ∨ (decide (g < 0) = false ∧ decide (16 ≤ g) = false ∧ id < 1) ∨ (decide (g < 0) = false ∧ decide (16 ≤ g) = false ∧ decide (id < 1) = false ∧ 1073741824 ≤ id) := by
    by_cases k1 : g < 0
    · exact .inl k1
    · by_cases k2 : 16 ≤ g
      · exact .inr (.inl ⟨decide_eq_false k1, k2⟩)
      · by_cases k3 : id < 1
        · exact .inr (.inr (.inl ⟨decide_eq_false k1, decide_eq_false k2, k3⟩))
        · exact .inr (.inr (.inr ⟨decide_eq_false k1, decide_eq_false k2, decide_eq_false k3, by omega⟩))
   clear hbad
   rcases key with k1 | ⟨k1, k2⟩ | ⟨k1, k2, k3⟩ | ⟨k1, k2, k3, k4⟩
   all_goals
    go_enter Tryz.func122, Tryz.ntmps122
    go_wp2_with fail
    go_ret2
    exact gsOutK_err hS.empty
 · rw [if_neg hbad]
   have d1 : decide (g < 0) = false := decide_eq_false (by omega)
   have d2 : decide (16 ≤ g) = false := decide_eq_false (by omega)
   have d3 : decide (id < 1) = false := decide_eq_false (by omega)
   have d4 : decide (1073741824 ≤ id) = false := decide_eq_false (by omega)
   clear hbad
   cases hb with
   | false =>
    rw [if_neg (by simp)]
    clear hlen hlt hnl hhp
    go_enter Tryz.func122, Tryz.ntmps122
    go_wp2_with (go_at_call 118; (with_reducible refine (cF.out _ hD.out).mono ?_); rintro _ w3 ⟨rfl, hb3⟩; have hS1 := hS.keepB hb3; clear hb3 hS; have hS := hS1; clear hS1)
    go_ret2
    exact gsOutK_err hS.empty
   | true =>
    rw [if_pos rfl]
    have hpn := hlt rfl
    have hpg : p < gs.length := by omega
    have hno : gs[p].no = g := by
     rw [dif_pos (by rw [hnl]; exact hpn)] at hhp
     have := of_decide_eq_true hhp.symm
     simpa [nos] using this
    obtain ⟨b, off, rfl, c0, c1⟩ := hD.out.get p hpg
    have hgM := hD.out.mem gs[p] (List.getElem_mem hpg)
    have hgl := hmm gs[p] (List.getElem_mem hpg)
    have hgu := hum gs[p] (List.getElem_mem hpg)
    have hmem : ((keys gs).getD p (0, [])).2 = gs[p].mem := by
     unfold keys
     simp [List.getD_eq_getElem?_getD, hpg, Gr.key]
    rw [hmem]
    have hset : (keys gs).set p (g, (joinM gs[p].mem id).2) = (keys gs).take p ++ (gs[p].no, (joinM gs[p].mem id).2) :: (keys gs).drop (p + 1) := by
     rw [set_split _ _ _ (by simp [keys]; exact hpg), hno]
    rw [hset]
    have hkp : (keys gs)[p]? = some gs[p].key := by simp [keys, hpg]
    generalize gs[p] = gp0 at c0 c1 hgM hgl hgu hkp
    have cJ := fun W h1 h2 => join1_any gp0.a gp0.mem gp0.c gi id W h1 hgl hgM.nz hgu h2
    obtain ⟨⟨fe, fl⟩, hfe⟩ : ∃ x, joinM gp0.mem id = x := ⟨_, rfl⟩
    rw [hfe] at cJ ⊢
    have hsl := Lib.hid (fun W (h : Below w.heap.size w W) => hgM.sl.below h)
    clear hfe hlt hnl hhp hmem hset hgM hno
    replace cJ := Lib.hid cJ
    replace hlen := Lib.hid hlen
    replace c1 := Lib.hid c1
    clear c0
    replace hkp := Lib.hid hkp
    have hcc := Lib.hid (fun W (h : St w [] [] W) => h.old c1.out (by simp))
    by_cases hf : fe = 0
    · subst hf
      rw [if_pos rfl]
      go_enter Tryz.func122, Tryz.ntmps122
      go_wp2_with (first | (go_at_call 118; (with_reducible refine (cF.out _ hD.out).mono ?_); rintro _ w3 ⟨rfl, hb3⟩; have hS1 := hS.keepB hb3; clear hb3 hS; have hS := hS1; clear hS1; have hcell := hcc.out _ hS) | (go_at_call 123; (with_reducible refine (cJ.out _ (hsl.out _ hS.below) (hio.out _ hS.below)).mono ?_); rintro _ w4 ⟨a5, c5, rfl, hb4⟩; clear hcell; have hS1 := hS.made hb4; clear hS hb4; have hS := hS1; clear hS1) | (go_at_call 120; (with_reducible refine (cC.out _ (hD3.out _ hS.below)).mono ?_); rintro _ w3 ⟨a3, c3, gs', hk3, rfl, hb3⟩; have hS1 := hS.made hb3; clear hS hb3; have hS := hS1; clear hS1; simp only [hlen.out] at hS ⊢; obtain ⟨g3, c4, e3, -⟩ := hS.rowat 0 rfl (by omega); cases e3; obtain ⟨cur, q1, q2, q3, q4, hS2⟩ := St.rowblk hS; clear hS; have hS := hS2; clear hS2; have hble : Nat.ble (p * 2 + 1 + 1) cur.size = true := (by rw [Nat.ble_eq, q1]; omega); replace q1 := Lib.hid q1; replace q2 := Lib.hid q2; replace hk3 := Lib.hid hk3; have hc63 : c3 ≤ 9223372036854775807 := (by unfold maxLen at q4; omega)) | ((with_reducible refine wpList_store_st 0 hS rfl rfl rfl rfl (by kernel_rfl) rfl hble ?_); clear hS; intro w6 hS))
      go_ret2
      have hl' : gs'.length = n := by
       have := congrArg List.length hk3.out
       simp only [keys, List.length_map] at this
       rw [this, hlen.out]
      have hp' : p < gs'.length := by omega
      have hsp : gs' = gs'.take p ++ gs'[p] :: gs'.drop (p + 1) := by
       rw [← List.drop_eq_getElem_cons hp', List.take_append_drop]
      have hno' : gs'[p].no = gp0.no := by
       have h1 := hkp.out
       rw [← hk3.out] at h1
       simp only [keys, List.getElem?_map, List.getElem?_eq_getElem hp', Option.map_some, Option.some.injEq] at h1
       exact congrArg Prod.fst h1
      generalize gs'[p] = gq at hsp hno'
      have hAl : (gs'.take p).length = p := by rw [List.length_take]; omega
      have hr := St.blkrow2 hS 2 (n := n) (c := c3) (xs := grows (gs'.take p ++ (⟨gq.no, a5, c5, fl⟩ : Gr) :: gs'.drop (p + 1))) (by rw [Array.size_setIfInBounds]; exact q1.out) q3 q4 (by
       have h2 := grows_set_mem (gs'.take p) (gs'.drop (p + 1)) gq a5 c5 fl
       rw [← hsp, hAl] at h2
       rw [Array.toList_setIfInBounds, List.take_set, q2.out]
       exact h2)
      have hlx : (gs'.take p ++ (⟨gq.no, a5, c5, fl⟩ : Gr) :: gs'.drop (p + 1)).length = n := by simp; omega
      have hd := deepK_of (gs0 := gs) hr rfl hlx (by
       intro x hx
       left
       simp only [List.mem_append, List.mem_cons] at hx
       rcases hx with hx | rfl | hx
       · exact List.mem_append.2 (.inl (List.mem_map.2 ⟨x, by simpa using List.mem_of_mem_take hx, rfl⟩))
       · exact List.mem_append.2 (.inr List.mem_cons_self)
       · exact List.mem_append.2 (.inl (List.mem_map.2 ⟨x, by simpa using List.mem_of_mem_drop hx, rfl⟩)))
      refine ⟨_, _, _, _, ?_, ?_, by rw [hlx]; exact hd, hr⟩
      · rw [← hk3.out]
        simp [keys, Gr.key, hno']
      · rw [hlx]; rfl
    · rw [if_neg hf]
      have hfb : (fe != 0) = true := by simpa using hf
      replace hf := Lib.hid hf
      go_enter Tryz.func122, Tryz.ntmps122
      go_wp2_with (first | (go_at_call 118; (with_reducible refine (cF.out _ hD.out).mono ?_); rintro _ w3 ⟨rfl, hb3⟩; have hS1 := hS.keepB hb3; clear hb3 hS; have hS := hS1; clear hS1; have hcell := hcc.out _ hS) | (go_at_call 123; (with_reducible refine (cJ.out _ (hsl.out _ hS.below) (hio.out _ hS.below)).mono ?_); rintro _ w4 ⟨a5, c5, rfl, hb4⟩; clear hcell; have hS1 := hS.made hb4; clear hS hb4; have hS := hS1; clear hS1))
      go_ret2
      exact gsOutK_err hS.empty
theorem join_k (a : Option Addr) (gs : List Gr) (n cap : Nat) (g id : Int) (w : World) (hD : Deep w a n cap gs) (hm : n ≤ 1000) (hmm : ∀ g ∈ gs, g.mem.length ≤ 10000) (hu : Ids.Up (nos gs)) (hum : ∀ g ∈ gs, Ids.Up g.mem) :
 Calls Tryz.prog 79 #[.slice a n cap, .int .i64 g, .int .i64 id] w (GsOutK gs (joinK (keys gs) g id) w) := by
 rw [← turn_join]
 have hS := St.start w
 have hmf : ∀ (fn : Fn) (first cap : Array Value) (w : World), (Instr.makeFunc fn first cap).run Tryz.prog w = .ok (.func fn first cap) w := fun _ _ _ _ => rfl
 have cT := Lib.hid (fun W gi h1 h2 => turned_join_k a gs n cap gi g id W h1 hm hmm hu hum h2)
 have hD3 := Lib.hid (fun W (h : Below w.heap.size w W) => hD.below h)
 clear hD hu hum hmm
 go_enter Tryz.func79, Tryz.ntmps79
 go_wp2_with (first | (with_reducible refine wpList_box1_st hS rfl rfl rfl ?_; clear hS; intro g1 w1 hS) | (with_reducible refine ld 0 hS rfl rfl rfl rfl rfl ?_) | (go_at_call 122; (with_reducible refine (cT.out _ _ (hD3.out _ hS.below) (hS.cell 0 rfl 0)).mono ?_); rintro _ w3 ⟨a3, c3, gs', L3, hk3, rfl, hd3, hb3⟩; have hS1 := hS.made hb3; clear hS hb3; have hS := hS1; clear hS1))
 go_ret2
 exact ⟨a3, c3, gs', L3, hk3, rfl, hd3, hS.fore⟩
theorem turned_quit_k (a : Option Addr) (gs : List Gr) (n cap gi : Nat) (g id : Int) (w : World) (hD : Deep w a n cap gs) (hm : n ≤ 1000) (hmm : ∀ g ∈ gs, g.mem.length ≤ 10000) (hu : Ids.Up (nos gs)) (hum : ∀ g ∈ gs, Ids.Up g.mem) (hi : w.cell? ⟨gi, 0, none⟩ = some (.int .i64 id)) :
 Calls Tryz.prog 122 #[.slice a n cap, .int .i64 g, .int .i64 id, .func (.func 125) #[] #[.pointer (some ⟨gi, 0, none⟩)]] w (GsOutK gs (turnK (keys gs) g id quitM) w) := by
 have hS := St.start w
 have cF := fun W (h : Deep W a n cap gs) => find_any a gs n cap g W h (by omega) hu
 have cC := fun W (h : Deep W a n cap gs) => copied_any a gs n cap W h hm hmm
 have hnl : (nos gs).length = n := by rw [nos, List.length_map, hD.len]
 have hlen := hD.len
 have hlt := Ids.has_lt (nos gs) g hu
 have hhp := Ids.has_place (nos gs) g hu
 rw [hnl] at hlt
 unfold turnK memAt
 rw [← nos_keys]
 generalize Ids.has (nos gs) g = hb at cF hlt hhp ⊢
 generalize Ids.place (nos gs) g = p at cF hlt hhp ⊢
 have hD3 := fun W (h : Below w.heap.size w W) => hD.below h
 replace hD := Lib.hid hD
 replace cF := Lib.hid cF
 replace cC := Lib.hid cC
 replace hD3 := Lib.hid hD3
 have hio := Lib.hid (fun W (h : Below w.heap.size w W) => (Below.cell h (p := ⟨gi, 0, none⟩) (World.block_lt_of_cell? w _ hi)).trans hi)
 clear hi hu
 by_cases hbad : g < 0 ∨ 16 ≤ g ∨ id < 1 ∨ 1073741824 ≤ id
 · rw [if_pos hbad]
   clear hlen hlt hnl hhp
   have key : g < 0 ∨ (decide (g < 0) = false ∧ 16 ≤ g) ∨ (decide (g < 0) = false ∧ decide (16 ≤ g) = false ∧ id < 1) ∨ (decide (g < 0) = false ∧ decide (16 ≤ g) = false ∧ decide (id < 1) = false ∧ 1073741824 ≤ id) := by
    by_cases k1 : g < 0
    · exact .inl k1
    · by_cases k2 : 16 ≤ g
      · exact .inr (.inl ⟨decide_eq_false k1, k2⟩)
      · by_cases k3 : id < 1
        · exact .inr (.inr (.inl ⟨decide_eq_false k1, decide_eq_false k2, k3⟩))
        · exact .inr (.inr (.inr ⟨decide_eq_false k1, decide_eq_false k2, decide_eq_false k3, by omega⟩))
   clear hbad
   rcases key with k1 | ⟨k1, k2⟩ | ⟨k1, k2, k3⟩ | ⟨k1, k2, k3, k4⟩
   all_goals
    go_enter Tryz.func122, Tryz.ntmps122
    go_wp2_with fail
    go_ret2
    exact gsOutK_err hS.empty
 · rw [if_neg hbad]
   have d1 : decide (g < 0) = false := decide_eq_false (by omega)
   have d2 : decide (16 ≤ g) = false := decide_eq_false (by omega)
   have d3 : decide (id < 1) = false := decide_eq_false (by omega)
   have d4 : decide (1073741824 ≤ id) = false := decide_eq_false (by omega)
   clear hbad
   cases hb with
   | false =>
    rw [if_neg (by simp)]
    clear hlen hlt hnl hhp
    go_enter Tryz.func122, Tryz.ntmps122
    go_wp2_with (go_at_call 118; (with_reducible refine (cF.out _ hD.out).mono ?_); rintro _ w3 ⟨rfl, hb3⟩; have hS1 := hS.keepB hb3; clear hb3 hS; have hS := hS1; clear hS1)
    go_ret2
    exact gsOutK_err hS.empty
   | true =>
    rw [if_pos rfl]
    have hpn := hlt rfl
    have hpg : p < gs.length := by omega
    have hno : gs[p].no = g := by
     rw [dif_pos (by rw [hnl]; exact hpn)] at hhp
     have := of_decide_eq_true hhp.symm
     simpa [nos] using this
    obtain ⟨b, off, rfl, c0, c1⟩ := hD.out.get p hpg
    have hgM := hD.out.mem gs[p] (List.getElem_mem hpg)
    have hgl := hmm gs[p] (List.getElem_mem hpg)
    have hgu := hum gs[p] (List.getElem_mem hpg)
    have hmem : ((keys gs).getD p (0, [])).2 = gs[p].mem := by
     unfold keys
     simp [List.getD_eq_getElem?_getD, hpg, Gr.key]
    rw [hmem]
    have hset : (keys gs).set p (g, (quitM gs[p].mem id).2) = (keys gs).take p ++ (gs[p].no, (quitM gs[p].mem id).2) :: (keys gs).drop (p + 1) := by
     rw [set_split _ _ _ (by simp [keys]; exact hpg), hno]
    rw [hset]
    have hkp : (keys gs)[p]? = some gs[p].key := by simp [keys, hpg]
    generalize gs[p] = gp0 at c0 c1 hgM hgl hgu hkp
    have cJ := fun W h1 h2 => quit1_any gp0.a gp0.mem gp0.c gi id W h1 hgl hgM.nz hgu h2
    obtain ⟨⟨fe, fl⟩, hfe⟩ : ∃ x, quitM gp0.mem id = x := ⟨_, rfl⟩
    rw [hfe] at cJ ⊢
    have hsl := Lib.hid (fun W (h : Below w.heap.size w W) => hgM.sl.below h)
    clear hfe hlt hnl hhp hmem hset hgM hno
    replace cJ := Lib.hid cJ
    replace hlen := Lib.hid hlen
    replace c1 := Lib.hid c1
    clear c0
    replace hkp := Lib.hid hkp
    have hcc := Lib.hid (fun W (h : St w [] [] W) => h.old c1.out (by simp))
    by_cases hf : fe = 0
    · subst hf
      rw [if_pos rfl]
      go_enter Tryz.func122, Tryz.ntmps122
      go_wp2_with (first | (go_at_call 118; (with_reducible refine (cF.out _ hD.out).mono ?_); rintro _ w3 ⟨rfl, hb3⟩; have hS1 := hS.keepB hb3; clear hb3 hS; have hS := hS1; clear hS1; have hcell := hcc.out _ hS) | (go_at_call 125; (with_reducible refine (cJ.out _ (hsl.out _ hS.below) (hio.out _ hS.below)).mono ?_); rintro _ w4 ⟨a5, c5, rfl, hb4⟩; clear hcell; have hS1 := hS.made hb4; clear hS hb4; have hS := hS1; clear hS1) | (go_at_call 120; (with_reducible refine (cC.out _ (hD3.out _ hS.below)).mono ?_); rintro _ w3 ⟨a3, c3, gs', hk3, rfl, hb3⟩; have hS1 := hS.made hb3; clear hS hb3; have hS := hS1; clear hS1; simp only [hlen.out] at hS ⊢; obtain ⟨g3, c4, e3, -⟩ := hS.rowat 0 rfl (by omega); cases e3; obtain ⟨cur, q1, q2, q3, q4, hS2⟩ := St.rowblk hS; clear hS; have hS := hS2; clear hS2; have hble : Nat.ble (p * 2 + 1 + 1) cur.size = true := (by rw [Nat.ble_eq, q1]; omega); replace q1 := Lib.hid q1; replace q2 := Lib.hid q2; replace hk3 := Lib.hid hk3; have hc63 : c3 ≤ 9223372036854775807 := (by unfold maxLen at q4; omega)) | ((with_reducible refine wpList_store_st 0 hS rfl rfl rfl rfl (by kernel_rfl) rfl hble ?_); clear hS; intro w6 hS))
      go_ret2
      have hl' : gs'.length = n := by
       have := congrArg List.length hk3.out
       simp only [keys, List.length_map] at this
       rw [this, hlen.out]
      have hp' : p < gs'.length := by omega
      have hsp : gs' = gs'.take p ++ gs'[p] :: gs'.drop (p + 1) := by
       rw [← List.drop_eq_getElem_cons hp', List.take_append_drop]
      have hno' : gs'[p].no = gp0.no := by
       have h1 := hkp.out
       rw [← hk3.out] at h1
       simp only [keys, List.getElem?_map, List.getElem?_eq_getElem hp', Option.map_some, Option.some.injEq] at h1
       exact congrArg Prod.fst h1
      generalize gs'[p] = gq at hsp hno'
      have hAl : (gs'.take p).length = p := by rw [List.length_take]; omega
      have hr := St.blkrow2 hS 2 (n := n) (c := c3) (xs := grows (gs'.take p ++ (⟨gq.no, a5, c5, fl⟩ : Gr) :: gs'.drop (p + 1))) (by rw [Array.size_setIfInBounds]; exact q1.out) q3 q4 (by
       have h2 := grows_set_mem (gs'.take p) (gs'.drop (p + 1)) gq a5 c5 fl
       rw [← hsp, hAl] at h2
       rw [Array.toList_setIfInBounds, List.take_set, q2.out]
       exact h2)
      have hlx : (gs'.take p ++ (⟨gq.no, a5, c5, fl⟩ : Gr) :: gs'.drop (p + 1)).length = n := by simp; omega
      have hd := deepK_of (gs0 := gs) hr rfl hlx (by
       intro x hx
       left
       simp only [List.mem_append, List.mem_cons] at hx
       rcases hx with hx | rfl | hx
       · exact List.mem_append.2 (.inl (List.mem_map.2 ⟨x, by simpa using List.mem_of_mem_take hx, rfl⟩))
       · exact List.mem_append.2 (.inr List.mem_cons_self)
       · exact List.mem_append.2 (.inl (List.mem_map.2 ⟨x, by simpa using List.mem_of_mem_drop hx, rfl⟩)))
      refine ⟨_, _, _, _, ?_, ?_, by rw [hlx]; exact hd, hr⟩
      · rw [← hk3.out]
        simp [keys, Gr.key, hno']
      · rw [hlx]; rfl
    · rw [if_neg hf]
      have hfb : (fe != 0) = true := by simpa using hf
      replace hf := Lib.hid hf
      go_enter Tryz.func122, Tryz.ntmps122
      go_wp2_with (first | (go_at_call 118; (with_reducible refine (cF.out _ hD.out).mono ?_); rintro _ w3 ⟨rfl, hb3⟩; have hS1 := hS.keepB hb3; clear hb3 hS; have hS := hS1; clear hS1; have hcell := hcc.out _ hS) | (go_at_call 125; (with_reducible refine (cJ.out _ (hsl.out _ hS.below) (hio.out _ hS.below)).mono ?_); rintro _ w4 ⟨a5, c5, rfl, hb4⟩; clear hcell; have hS1 := hS.made hb4; clear hS hb4; have hS := hS1; clear hS1))
      go_ret2
      exact gsOutK_err hS.empty
theorem quit_k (a : Option Addr) (gs : List Gr) (n cap : Nat) (g id : Int) (w : World) (hD : Deep w a n cap gs) (hm : n ≤ 1000) (hmm : ∀ g ∈ gs, g.mem.length ≤ 10000) (hu : Ids.Up (nos gs)) (hum : ∀ g ∈ gs, Ids.Up g.mem) :
 Calls Tryz.prog 80 #[.slice a n cap, .int .i64 g, .int .i64 id] w (GsOutK gs (quitK (keys gs) g id) w) := by
 rw [← turn_quit]
 have hS := St.start w
 have hmf : ∀ (fn : Fn) (first cap : Array Value) (w : World), (Instr.makeFunc fn first cap).run Tryz.prog w = .ok (.func fn first cap) w := fun _ _ _ _ => rfl
 have cT := Lib.hid (fun W gi h1 h2 => turned_quit_k a gs n cap gi g id W h1 hm hmm hu hum h2)
 have hD3 := Lib.hid (fun W (h : Below w.heap.size w W) => hD.below h)
 clear hD hu hum hmm
 go_enter Tryz.func80, Tryz.ntmps80
 go_wp2_with (first | (with_reducible refine wpList_box1_st hS rfl rfl rfl ?_; clear hS; intro g1 w1 hS) | (with_reducible refine ld 0 hS rfl rfl rfl rfl rfl ?_) | (go_at_call 122; (with_reducible refine (cT.out _ _ (hD3.out _ hS.below) (hS.cell 0 rfl 0)).mono ?_); rintro _ w3 ⟨a3, c3, gs', L3, hk3, rfl, hd3, hb3⟩; have hS1 := hS.made hb3; clear hS hb3; have hS := hS1; clear hS1))
 go_ret2
 exact ⟨a3, c3, gs', L3, hk3, rfl, hd3, hS.fore⟩
theorem leave_k (a : Option Addr) (gs : List Gr) (n cap : Nat) (id : Int) (w : World) (hD : Deep w a n cap gs) (hm : n ≤ 1000) (hmm : ∀ g ∈ gs, g.mem.length ≤ 10000) (hum : ∀ g ∈ gs, Ids.Up g.mem) :
 Calls Tryz.prog 75 #[.slice a n cap, .int .i64 id] w (GsRetK gs (leaveK (keys gs) id) w) := by
 have cC := gclone_any a gs n cap w hD (by omega)
 have hS := St.start w
 by_cases hz : n = 0
 · have hgs : gs = [] := List.length_eq_zero_iff.1 (hD.len.trans hz)
   subst hgs
   subst hz
   replace cC := Lib.hid cC
   clear hD
   go_enter Tryz.func75, Tryz.ntmps75
   go_wp2_with (go_at_call 116; (with_reducible refine cC.out.mono ?_); rintro _ w3 ⟨a3, c3, rfl, hb3⟩)
   go_loopg [11] 0 (fun gk vx wr => vx = .int .i64 0 ∧ wr = w3)
   case atStart => exact ⟨rfl, rfl⟩
   case round =>
    obtain ⟨rfl, rfl⟩ := hrel
    go_wp2_with fail
    go_ret
    exact ⟨a3, c3, [], _, rfl, rfl, deepK_of hb3 rfl rfl (by simp), hb3⟩
 · have hlen := Lib.hid hD.len
   have hD' := Lib.hid hD
   replace cC := Lib.hid cC
   clear hD
   go_enter Tryz.func75, Tryz.ntmps75
   go_wp2_with (go_at_call 116; (with_reducible refine cC.out.mono ?_); rintro _ w3 ⟨a3, c3, rfl, hb3⟩; have hS1 := hS.made hb3; clear hS hb3; have hS := hS1; clear hS1; obtain ⟨g3, c4, e3, -⟩ := hS.rowat 0 rfl (by omega); cases e3)
   obtain ⟨cur, q1, q2, q3, q4, hS2⟩ := hS.rowblk
   clear hS
   have hc63 : c3 ≤ 9223372036854775807 := by unfold maxLen at q4; omega
   go_loopg [11] n (fun gk vx wr => ∃ (j : Nat) (cur : Array Value) (new : List Gr), j + gk = n ∧ vx = .int .i64 j ∧ Hid (new.length = j ∧ cur.size = c3 * 2 ∧ cur.toList.take (n * 2) = grows (new ++ gs.drop j) ∧ keys new = leaveK (keys (gs.take j)) id) ∧ St w [] (Ch.blk g3 82 cur :: new.reverse.map gp) wr)
   case atStart => exact ⟨0, cur, [], Nat.zero_add _, rfl, Lib.hid ⟨rfl, q1, by simpa using q2, by simp [keys, leaveK]⟩, hS2⟩
   case round =>
    clear hS2 q1 q2
    obtain ⟨j, cur, new, hj, rfl, hr, hS⟩ := hrel
    by_cases hlt : j < n
    · obtain ⟨r1, r2, r3, r4⟩ := hr.out
      have hjl : j < gs.length := by rw [hlen.out]; exact hlt
      have hd := List.drop_eq_getElem_cons (l := gs) (i := j) hjl
      have hM := hD'.out.mem gs[j] (List.getElem_mem hjl)
      have hml := hmm gs[j] (List.getElem_mem hjl)
      have hMu := hum gs[j] (List.getElem_mem hjl)
      have htk : gs.take (j + 1) = gs.take j ++ [gs[j]] := by rw [List.take_succ_eq_append_getElem hjl]
      rw [hd] at r3
      generalize gs[j] = gj at hd hM hml hMu htk r3
      have hcur1 : cur[j * 2 + 1]? = some (.slice gj.a gj.mem.length gj.c) := by
       have h1 : (cur.toList.take (n * 2))[j * 2 + 1]? = some (.slice gj.a gj.mem.length gj.c) := by rw [r3, ← r1]; exact grows_get1 new _ gj
       rw [List.getElem?_take] at h1
       rw [if_pos (by omega)] at h1
       simpa using h1
      have hcell := (hS.cell 0 rfl (j * 2 + 1)).trans hcur1
      have cI := Lib.hid (drop_any gj.a gj.mem _ gj.c id wr (hS.sl hM.sl) rfl (by omega) hM.nz hMu)
      have hble : Nat.ble (j * 2 + 1 + 1) cur.size = true := by rw [Nat.ble_eq, r2]; omega
      have hnew : ∀ (a5 : Option Addr) (c5 : Nat), (new ++ [(⟨gj.no, a5, c5, Ids.drop gj.mem id⟩ : Gr)]).length = j + 1 ∧ (cur.setIfInBounds (j * 2 + 1) (.slice a5 (Ids.drop gj.mem id).length c5)).size = c3 * 2 ∧ (cur.setIfInBounds (j * 2 + 1) (.slice a5 (Ids.drop gj.mem id).length c5)).toList.take (n * 2) = grows (new ++ [(⟨gj.no, a5, c5, Ids.drop gj.mem id⟩ : Gr)] ++ gs.drop (j + 1)) ∧ keys (new ++ [(⟨gj.no, a5, c5, Ids.drop gj.mem id⟩ : Gr)]) = leaveK (keys (gs.take (j + 1))) id := by
       intro a5 c5
       refine ⟨by simp [r1], by simp [r2], ?_, ?_⟩
       · rw [Array.toList_setIfInBounds, List.take_set, r3, ← r1, grows_set_mem]
         simp
       · rw [htk]
         unfold keys leaveK at r4 ⊢
         rw [List.map_append, List.map_append, List.map_append, r4]
         rfl
      replace hnew := Lib.hid hnew
      clear hcur1 r1 r2 r3 r4 hd htk hM hml hr
      go_wp2_with (first | (go_at_call 117; (with_reducible refine cI.out.mono ?_); rintro _ w5 ⟨a5, c5, rfl, h51, h52, hb5⟩; have hS1 := hS.made hb5; clear hS hb5; have hS := hS1; clear hS1) | ((with_reducible refine wpList_store_st 1 hS rfl rfl rfl rfl (by kernel_rfl) rfl hble ?_); clear hS; intro w6 hS))
      go_roundg (n - (j + 1))
      case measure => omega
      case rel =>
       refine ⟨j + 1, _, _, by omega, by go_num, Lib.hid (hnew.out a5 c5), ?_⟩
       rw [List.reverse_append]
       exact St.swap hS
    · obtain rfl : j = n := by omega
      go_wp2_with fail
      go_ret
      obtain ⟨r1, r2, r3, r4⟩ := hr.out
      rw [List.drop_of_length_le (by rw [hlen.out]; exact Nat.le_refl _), List.append_nil] at r3
      rw [List.take_of_length_le (by rw [hlen.out]; exact Nat.le_refl _)] at r4
      have hr2 := hS.blkrow2 2 (n := j) (c := c3) r2 q3 q4 r3
      have hl' : new.length = j := r1
      have hd := deepK_of (gs0 := gs) (gs := new) hr2 rfl hl' (by
       intro x hx
       left
       exact List.mem_map.2 ⟨x, by simpa using hx, rfl⟩)
      exact ⟨_, c3, new, _, r4, by rw [hl']; rfl, by rw [hl']; exact hd, hr2⟩
end Go.Proofs.YtneolmnpebiifaaGreatDoor
end
section
namespace Go.Ofp
open Go.RowKit
variable {F : Fence} {n : Nat} {P : Program}
def Gives (F : Fence) (n : Nat) (P : Program) (g : Nat) (lb : Array Value) (xs : List Value) (n0 Bn : Nat) (w : World) : Prop :=
 ∀ (l : Nat) (J : Nat → World → Prop) (W : World), Below n0 w W → (∀ k A B, J k A → A.grownBy B (some Bn) → J k B) →
  (∀ k x A, J k A → xs[k]? = some x → YieldAt F (n - 1) P l #[x] A fun e B => e = .returned (.bool true) ∧ J (k + 1) B ∧ Below n0 A B) →
  J 0 W → CallsIn F n P g (#[.func (.yield l) #[] #[]] ++ lb) W fun e B => (∃ v, e = .returned v) ∧ J xs.length B
theorem Gives.later {g : Nat} {lb : Array Value} {xs : List Value} {n0 Bn : Nat} {w w1 : World} (h : Gives F n P g lb xs n0 Bn w) (hb : Below n0 w w1) : Gives F n P g lb xs n0 Bn w1 :=
 fun l J W hW hJ hY h0 => h l J W (hb.trans hW) hJ hY h0
def goOn (n0 B : Nat) (I : Nat → World → Prop) (k : Nat) (W : World) : Exit → Act → World → Prop
 | .normal, _, W' => KeepsFrom B W W' ∧ Below n0 W W' ∧ I (k + 1) W'
 | _, _, _ => False
def Abide (B Bn : Nat) (I : Nat → World → Prop) : Prop :=
 ∀ k A C row, I k A → A.grownBy C row → (∀ r, row = some r → r = Bn ∨ (B ≤ r ∧ ∃ o : Obj, A.heap[r]? = some o ∧ o.isCells = false)) → I k C
theorem Abide.and {B Bn : Nat} {I I' : Nat → World → Prop} (h : Abide B Bn I) (h' : Abide B Bn I') : Abide B Bn (fun k W => I k W ∧ I' k W) :=
 fun k A C row hs hg hr => ⟨h k A C row hs.1 hg hr, h' k A C row hs.2 hg hr⟩
theorem Abide.alloc {B Bn : Nat} {I : Nat → World → Prop} (h : Abide B Bn I) {k : Nat} {A : World} (o : Obj) (hs : I k A) : I k (A.alloc o) := h k A _ none hs (World.grownBy_alloc A o none) (fun r e => by cases e)
theorem Abide.put {B Bn : Nat} {I : Nat → World → Prop} (h : Abide B Bn I) {k l : Nat} {A : World} {o : Obj} (o' : Obj) (hs : I k A) (hB : B ≤ l) (hl : A.heap[l]? = some o) (ho : o.isCells = false) : I k (A.putObj l o') :=
 h k A _ (some l) hs (grownBy_putObj' A l o') (fun r e => by cases e; exact .inr ⟨hB, o, hl, ho⟩)
theorem abide_fr {B Bn : Nat} {w0 : World} (hB : w0.heap.size ≤ B) : Abide B Bn (fun _ W => Fr [Bn] w0 W) := fun k A C row hs hg hr =>
 ⟨hg.os.trans hs.os, hg.tape.trans hs.tape, hg.output.trans hs.output, Nat.le_trans hs.size hg.size, fun j hj hn =>
  (hg.block j (Nat.lt_of_lt_of_le hj hs.size) (fun e => by
   rcases hr j e.symm with rfl | h
   · simp at hn
   · omega)).trans (hs.block j hj hn)⟩
theorem Fr.belowN {F : List Nat} {w0 A C : World} (h : Fr F w0 A) (k : Below w0.heap.size A C) : Fr F w0 C :=
 ⟨k.os.trans h.os, k.tape.trans h.tape, k.output.trans h.output, Nat.le_trans h.size k.size, fun j hj hn => (k.block j hj).trans (h.block j hj hn)⟩
theorem St.ofRow {F : List Nat} {w0 w : World} {e size n : Nat} {v : Value} {xs : List Value} (h : Fr F w0 w) (ho : w.ownsRow w0.heap.size e size v n xs) : St w0 F [Ch.row e size v n xs] w :=
 ⟨h, fun i c hc => by
  cases i with
  | zero => simp at hc; subst hc; exact ⟨ownsRow_zero ho, fun g hg => .inr (ownsRow_foot ho g hg)⟩
  | succ i => simp at hc,
  fun i j c' d hc hd hij => by cases i <;> cases j <;> simp_all⟩
theorem abide_held {B Bn b base : Nat} {t e : TypeId} {size : Nat} {f : Nat → List Value} (h1 : Bn < base) (h2 : base ≤ b) (h3 : b < B) : Abide B Bn (fun k W => ∃ v, Boxed W b t v ∧ W.ownsRow base e size v k (f k)) := by
 rintro k A C row ⟨v, hv, hr⟩ hg hrow
 refine ⟨v, hv.kept hg (fun e' => ?_), hr.kept hg ?_⟩
 · rcases hrow b e'.symm with h | h <;> omega
 · rcases hr.2 with ⟨rfl, _⟩ | ⟨g, cap, cur, rfl, hbg, hgb, _⟩
   · exact .inl rfl
   · refine .inr fun e' => ?_
     rcases hrow g (by simpa [Value.ownBlock] using e'.symm) with h | ⟨_, o, ho, hc⟩
     · omega
     · rw [hgb] at ho
       cases ho
       cases hc
section
variable {g : Operand} {ps : Array Tmp} {assign body : Code} {Q : Exit → Act → World → Prop} {a : Act} {w : World}
theorem wpIn_gives (hro : F.round = none) (h1 : 1 ≤ n) {gf : Nat} {lb : Array Value} (hg : a.eval g = .func (.func gf) #[] lb) (hFg : F.fn gf) (eg : ∀ args w, (callFunc gf args).run P w = .ok (.enter gf args) w)
 {xs : List Value} {n0 Bn : Nat} (hs : Gives F (n - 1) P gf lb xs n0 Bn w) (hBn : Bn < w.heap.size) (hn0 : n0 ≤ w.heap.size) (hps : ps.size = 1)
 (I : Nat → World → Prop) (hI : Abide w.heap.size Bn I) (h0 : I 0 w) (a1 : Value → Act)
 (hassign : ∀ (l : Nat) (x : Value) (W : World) (K : Act → World → Prop), x ∈ xs → K (a1 x) W →
  assign.wpIn (F.inRound l) (n - 1 - 1) P (Exit.then K (fun _ _ _ => False)) { tmps := (ps.zip #[x]).foldl (fun t (p, v) => t.setIfInBounds p v) a.tmps, defers := [] } W)
 (hbody : ∀ (l k : Nat) (x : Value) (W : World), I k W → xs[k]? = some x → body.wpIn (F.inRound l) (n - 1 - 1) P (goOn n0 w.heap.size I k W) (a1 x) W)
 (hdone : ∀ (D : Nat) (W : World), w.heap.size ≤ D → I xs.length W → W.heap[D]? = some (.deferred (some [])) → Q .normal { a with defers := { target := .collected D, args := #[] } :: a.defers } W) :
 (Code.rangeFunc g ps assign body).wpIn F n P Q a w := by
 refine wpIn_rangeFunc fun fn hfn => ?_
 rw [hro]
 obtain ⟨b, hb⟩ : ∃ b, w.heap.size = b := ⟨_, rfl⟩
 obtain ⟨rec, hrec⟩ : ∃ rec : LoopState → Loop, rec = fun st => { state := st, pending := none, fn, tmps := a.tmps, params := ps, assign, body, defers := b } := ⟨_, rfl⟩
 have hst : ∀ s, (rec s).state = s := fun s => by rw [hrec]
 have hto : ∀ s t, { rec s with state := t } = rec t := fun s t => by rw [hrec]
 have hto2 : ∀ s t, { rec s with state := t, pending := none } = rec t := fun s t => by rw [hrec]
 have hpe : ∀ s, (rec s).pending = none := fun s => by rw [hrec]
 obtain ⟨W1, hW1⟩ : ∃ W1, (w.alloc (.deferred (some []))).alloc (.loop (rec .ready)) = W1 := ⟨_, rfl⟩
 have hL1 : W1.heap[b + 1]? = some (.loop (rec .ready)) := by
  rw [← hW1, ← hb]
  have := World.alloc_heap_new (w.alloc (.deferred (some []))) (.loop (rec .ready))
  rwa [World.size_alloc] at this
 have hD1 : W1.heap[b]? = some (.deferred (some [])) := by
  rw [← hW1, ← hb]
  exact (Below.heap_alloc _ _ _ (by simp)).trans (World.alloc_heap_new w _)
 have hI1 : I 0 W1 := by
  rw [← hW1]
  exact hI.alloc _ (hI.alloc _ h0)
 have hB1 : Below n0 w W1 := by
  rw [← hW1]
  exact ((Below.refl _ w).alloc hn0 _).alloc (by simp; omega) _
 have hput : ∀ (A : World) (o o' : Obj), A.heap[b + 1]? = some o → o.isCells = false → Below n0 A (A.putObj (b + 1) o') := fun A o o' h1 h2 =>
  (Below.refl n0 A).grown (grownBy_putObj' A _ o') (by have := (Array.getElem?_eq_some_iff.1 h1).1; omega) (fun j e => by cases e; omega)
 refine ⟨b + 1, [{ target := .collected b, args := #[] }], W1, { target := .fn (.func gf) lb, args := #[.func (.yield (b + 1)) #[] #[]] }, W1, gf,
  #[.func (.yield (b + 1)) #[] #[]] ++ lb, W1, ?_, ?_, ?_, ?_, fun _ => h1, ?_⟩
 · rw [← hW1, hrec, ← hb]
   exact run_enterLoop_outer _ _ _ _ _
 · simp only [resolve, hg]
   simp [go_sem]
 · intro f' hf'
   simp [Target.leads] at hf'
   subst hf'
   exact hFg
 · simp [invoke, go_sem, eg]
 refine (hs (b + 1) (fun k W => I k W ∧ W.heap[b + 1]? = some (.loop (rec .ready)) ∧ W.heap[b]? = some (.deferred (some []))) W1 hB1 ?_ ?_ ⟨hI1, hL1, hD1⟩).mono ?_
 · rintro k A C ⟨h2, h3, h4⟩ hgr
   exact ⟨hI k A C _ h2 hgr (fun r e => by cases e; exact .inl rfl), (hgr.block _ (Array.getElem?_eq_some_iff.1 h3).1 (by simp; omega)).trans h3, (hgr.block _ (Array.getElem?_eq_some_iff.1 h4).1 (by simp; omega)).trans h4⟩
 · rintro k x A ⟨h2, h3, h4⟩ hx
   have hlt := (Array.getElem?_eq_some_iff.1 h3).1
   have hy := run_yield (P := P) (args := #[x]) h3 (by rw [hrec]; simp [hps])
   rw [hrec] at hy
   refine ⟨fn, _, assign, body, hy, roundIn_of_wpIn hfn (hassign _ x A _ (List.mem_of_getElem? hx) ⟨_, run_beginRound h3 (hst _), ?_⟩)⟩
   rw [hto]
   have h5 : (A.putObj (b + 1) (.loop (rec .busy))).heap[b + 1]? = some (.loop (rec .busy)) := World.putObj_heap_same hlt
   have h6 : (A.putObj (b + 1) (.loop (rec .busy))).heap[b]? = some (.deferred (some [])) := (World.putObj_heap_other (by omega)).trans h4
   refine wpIn_mono (hbody _ k x _ (hI.put _ h2 (by omega) h3 rfl) hx) ?_
   rintro e a3 C hp
   cases e with
   | normal =>
    obtain ⟨k1, k2, k3⟩ := hp
    have h7 := k1.same _ _ (by omega) h5 rfl
    have h8 := k1.same _ _ (by omega) h6 rfl
    have hr := run_endRound (P := P) none h7
    rw [Option.isNone_none, if_pos rfl, hto2] at hr
    exact ⟨_, _, hr, rfl, ⟨hI.put _ k3 (by omega) h7 rfl, World.putObj_heap_same (Array.getElem?_eq_some_iff.1 h7).1, (World.putObj_heap_other (by omega)).trans h8⟩,
     ((hput A _ _ h3 rfl).trans k2).trans (hput C _ _ h7 rfl)⟩
   | ret => exact hp.elim
   | exit id => exact hp.elim
   | goto t => exact hp.elim
   | panic c => exact hp.elim
   | outgrown => exact hp.elim
 · rintro e W2 ⟨⟨v, rfl⟩, h2, h3, h4⟩
   refine ⟨none, _, ?_, hdone b _ (by omega) (hI.put (.loop (rec .exhausted)) h2 (by omega) h3 rfl) ((World.putObj_heap_other (by omega)).trans h4)⟩
   have := run_endLoop (P := P) h3 (by rw [hst]; simp)
   rw [hrec] at this ⊢
   exact this
end
end Go.Ofp
end
