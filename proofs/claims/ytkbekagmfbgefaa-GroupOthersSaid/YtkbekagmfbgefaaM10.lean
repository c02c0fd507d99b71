import Derived.Test.YtkbekagmfbgefaaM9
set_option linter.unusedVariables false
set_option linter.unusedSimpArgs false
set_option maxRecDepth 100000
section
namespace Go.Proofs.Ytkbekagmfbgefaa
open Go.RowKit Go.Ofp
set_option maxHeartbeats 4000000
theorem grows_snoc (gs : List Gr) (j : Nat) (h : j < gs.length) : grows (gs.take (j + 1)) = grows (gs.take j) ++ [.int .i64 gs[j].no, .slice gs[j].a gs[j].mem.length gs[j].c] := by
  rw [List.take_succ_eq_append_getElem h, grows_append]
  simp [grows, Gr.row]
theorem row2_one (g : Int) (A : Option Addr) (N C : Nat) : ∀ u ∈ [Value.int .i64 g, .slice A N C], u.oneCell' = true := by
  intro u hu
  simp only [List.mem_cons, List.not_mem_nil, or_false] at hu
  rcases hu with rfl | rfl <;> rfl
theorem ropen_main (a : Option Addr) (gs : List Gr) (n cap : Nat) (g : Int) (w : World) (hD : Deep w a n cap gs) (hm : n ≤ 1000) (hu : Ids.Up (nos gs)) (h1 : 0 ≤ g) (h2 : g < 16) (hb : Ids.has (nos gs) g = false) :
    Calls Try.prog 19 #[.slice a n cap, .int .i64 g] w (GsOut (0, (keys gs).take (Ids.place (nos gs) g) ++ (g, []) :: (keys gs).drop (Ids.place (nos gs) g)) w) := by
  have hS := St.start w
  have cP := rgplace_any a gs n cap g w hD (by omega) hu
  rw [hb, show plR false (Ids.place (nos gs) g) = -1 from rfl] at cP
  have hpl := place_le (nos gs) g
  have hnl : (nos gs).length = n := by rw [nos, List.length_map, hD.len]
  have hlen := hD.len
  rw [hnl] at hpl
  have hlt : ∀ j (hj : j < gs.length), gs[j].no < g ↔ j < Ids.place (nos gs) g := by
    intro j hj
    have := Ids.lt_place (nos gs) g hu j (by simpa [nos] using hj)
    simpa [nos] using this
  generalize Ids.place (nos gs) g = p at hpl hlt ⊢
  have hget := Lib.hid hD.get
  have hMl := Lib.hid (fun W (h : St w [] [] W) g hg => (hD.mem g hg).below h.below)
  have d1 : decide (g < 0) = false := decide_eq_false (by omega)
  have d2 : decide (16 ≤ g) = false := decide_eq_false (by omega)
  have hgt : (grows (gs.drop p)).length = (n - p) * 2 := by rw [grows_len, List.length_drop, hlen]
  have hcap := hD.le
  have hcm : cap ≤ 9223372036854775807 := by have := hD.cm; unfold maxLen at this; omega
  have hend : ∀ (ao : Option Addr) (co : Nat) (W : World), St w [] [Ch.row 31 2 (.slice ao (p + 1 + (n - p)) co) (p + 1 + (n - p)) (grows (gs.take p) ++ [.int .i64 g, .slice none 0 0] ++ grows (gs.drop p))] W → GsOut (0, (keys gs).take p ++ (g, []) :: (keys gs).drop p) w (.returned (.tuple #[.slice ao (p + 1 + (n - p)) co, .int .i64 0])) W := by
    intro ao co W h
    have hlx : (gs.take p ++ (⟨g, none, 0, []⟩ : Gr) :: gs.drop p).length = p + 1 + (n - p) := by simp; omega
    have hd := deep_of (gs := gs.take p ++ (⟨g, none, 0, []⟩ : Gr) :: gs.drop p) h (by rw [grows_append]; simp [grows, Gr.row]) hlx (by
      intro x hx
      simp only [List.mem_append, List.mem_cons] at hx
      rcases hx with hx | rfl | hx
      · exact .inr (hMl.out _ h.empty x (List.mem_of_mem_take hx))
      · exact .inr ⟨Sl.nil _ _, Nat.le_refl _, Nat.zero_le _, fun _ => rfl⟩
      · exact .inr (hMl.out _ h.empty x (List.mem_of_mem_drop hx)))
    refine ⟨_, _, _, ?_, ?_, by rw [hlx]; exact hd, h.below⟩
    · simp [keys, Gr.key]
    · rw [hlx]
  replace hend := Lib.hid hend
  replace hlt := Lib.hid hlt
  replace hlen := Lib.hid hlen
  replace hgt := Lib.hid hgt
  replace cP := Lib.hid cP
  have hone := Lib.hid (grows_one (gs.drop p))
  by_cases hpn : p = n
  · have hgz : grows (gs.drop p) = [] := by rw [List.drop_of_length_le (by rw [hlen.out]; omega)]; rfl
    rw [hgz] at hend hgt
    subst hpn
    cases a with
    | none =>
      have hg0 : p = 0 := by have := hD.nz rfl; omega
      clear hD hu hb hnl h1 h2 hpl
      subst hg0
      go_enter Try.func19, Try.ntmps19
      go_wp2_with (first
        | (go_at_call 44; (with_reducible refine cP.out.mono ?_); rintro _ _ ⟨rfl, rfl⟩)
        | ((with_reducible refine wpList_build0_st hS rfl rfl Try.underlying22 elem_g ?_); intro g1 w3 hS1; clear hS; have hS := hS1; clear hS1))
      go_loopg [6, 7] 0 (fun gk vo vx wr => ∃ (j : Nat) (ao : Option Addr) (co : Nat), j + gk = 0 ∧ vx = .int .i64 j ∧ vo = .slice ao j co ∧ St w [] [Ch.row 31 2 (.slice ao j co) j (grows (gs.take j))] wr)
      case atStart => exact ⟨0, _, _, Nat.zero_add _, rfl, rfl, hS⟩
      case round =>
        clear hS
        obtain ⟨j, ao, co, hj, rfl, rfl, hS⟩ := hrel
        by_cases hjp : j < 0
        · omega
        · obtain rfl : j = 0 := by omega
          go_wp2_with (first
            | ((with_reducible refine wpList_build1 rfl rfl (.int .i64 g) rfl (build_g g) ?_))
            | ((with_reducible refine wpList_build1a_st hS rfl rfl Try.underlying22 elem_g rfl rfl (by omega) ?_); intro g3 w4 hS1; clear hS; have hS := hS1; clear hS1)
            | (at_builtin; ((with_reducible refine wpList_app_st 1 hS rfl rfl rfl Try.underlying22 elem_g rfl (Src.slice Try.underlying22 (hS.blksl2 0 rfl) rfl) rfl (row2_one g none 0 0) (by omega) (by unfold maxLen; omega) ?_); intro v5 w5 hS1; clear hS; have hS := hS1.drop; clear hS1; obtain ⟨a5, c5, rfl, -⟩ := hS.row 0 rfl))
            | (at_builtin; ((with_reducible refine wpList_app_st 0 hS rfl rfl rfl Try.underlying22 elem_g rfl (Src.slice Try.underlying22 (Sl.nil _ _) (by simp)) rfl nil_one (by omega) (by unfold maxLen; omega) ?_); intro v5 w5 hS1; clear hS; have hS := hS1; clear hS1; obtain ⟨a7, c7, rfl, -⟩ := hS.row 0 rfl)))
          go_ret2
          have r := hend.out _ _ _ (by
            skip
            simpa using hS)
          skip
          exact r
    | some ad =>
      obtain ⟨b, off, spot⟩ := ad
      clear hD hu hb hnl h1 h2 hpl
      by_cases hcp : cap = p
      · subst hcp
        go_enter Try.func19, Try.ntmps19
        go_wp2_with (first
          | (go_at_call 44; (with_reducible refine cP.out.mono ?_); rintro _ _ ⟨rfl, rfl⟩)
          | ((with_reducible refine wpList_build0_st hS rfl rfl Try.underlying22 elem_g ?_); intro g1 w3 hS1; clear hS; have hS := hS1; clear hS1))
        go_loopg [6, 7] cap (fun gk vo vx wr => ∃ (j : Nat) (ao : Option Addr) (co : Nat), j + gk = cap ∧ vx = .int .i64 j ∧ vo = .slice ao j co ∧ St w [] [Ch.row 31 2 (.slice ao j co) j (grows (gs.take j))] wr)
        case atStart => exact ⟨0, _, _, Nat.zero_add _, rfl, rfl, hS⟩
        case round =>
          clear hS
          obtain ⟨j, ao, co, hj, rfl, rfl, hS⟩ := hrel
          by_cases hjp : j < cap
          · have hjg : j < gs.length := by rw [hlen.out]; omega
            obtain ⟨b1, o1, e1, c0, c1⟩ := hget.out j hjg
            cases e1
            have hsn := Lib.hid (grows_snoc gs j hjg)
            have hx := (hlt.out j hjg).2 hjp
            have c0' := hS.old c0 (by simp)
            have c1' := hS.old c1 (by simp)
            generalize gs[j] = x at *
            obtain ⟨xn, xa, xc, xm⟩ := x
            simp only at *
            generalize xm.length = l1 at *
            have hjn : j < cap := by omega
            clear c0 c1
            go_wp2_with (first
              | ((with_reducible refine wpList_build1a_st hS rfl rfl Try.underlying22 elem_g rfl rfl (by omega) ?_); intro g3 w4 hS1; clear hS; have hS := hS1; clear hS1)
              | (at_builtin; ((with_reducible refine wpList_app_st 1 hS rfl rfl rfl Try.underlying22 elem_g rfl (Src.slice Try.underlying22 (hS.blksl2 0 rfl) rfl) rfl (row2_one xn xa l1 xc) (by omega) (by unfold maxLen; omega) ?_); intro v5 w5 hS1; clear hS; have hS := hS1.drop; clear hS1; obtain ⟨a5, c5, rfl, -⟩ := hS.row 0 rfl)))
            go_roundg (cap - (j + 1))
            case measure => omega
            case rel => exact ⟨j + 1, _, _, by omega, by go_num, rfl, by rw [hsn.out]; exact hS⟩
          · obtain rfl : j = cap := by omega
            clear hjp
            go_wp2_with (first
              | ((with_reducible refine wpList_build1 rfl rfl (.int .i64 g) rfl (build_g g) ?_))
              | ((with_reducible refine wpList_build1a_st hS rfl rfl Try.underlying22 elem_g rfl rfl (by omega) ?_); intro g3 w4 hS1; clear hS; have hS := hS1; clear hS1)
              | (at_builtin; ((with_reducible refine wpList_app_st 1 hS rfl rfl rfl Try.underlying22 elem_g rfl (Src.slice Try.underlying22 (hS.blksl2 0 rfl) rfl) rfl (row2_one g none 0 0) (by omega) (by unfold maxLen; omega) ?_); intro v5 w5 hS1; clear hS; have hS := hS1.drop; clear hS1; obtain ⟨a5, c5, rfl, -⟩ := hS.row 0 rfl))
              | (at_builtin; ((with_reducible refine wpList_app_st 0 hS rfl rfl rfl Try.underlying22 elem_g rfl (Src.slice Try.underlying22 (Sl.nil _ _) (by simp)) rfl nil_one (by omega) (by unfold maxLen; omega) ?_); intro v5 w5 hS1; clear hS; have hS := hS1; clear hS1; obtain ⟨a7, c7, rfl, -⟩ := hS.row 0 rfl)))
            go_ret2
            have r := hend.out _ _ _ (by
              rw [Nat.sub_self]
              simpa using hS)
            rw [Nat.sub_self] at r
            exact r
      · go_enter Try.func19, Try.ntmps19
        go_wp2_with (first
          | (go_at_call 44; (with_reducible refine cP.out.mono ?_); rintro _ _ ⟨rfl, rfl⟩)
          | ((with_reducible refine wpList_build0_st hS rfl rfl Try.underlying22 elem_g ?_); intro g1 w3 hS1; clear hS; have hS := hS1; clear hS1))
        go_loopg [6, 7] p (fun gk vo vx wr => ∃ (j : Nat) (ao : Option Addr) (co : Nat), j + gk = p ∧ vx = .int .i64 j ∧ vo = .slice ao j co ∧ St w [] [Ch.row 31 2 (.slice ao j co) j (grows (gs.take j))] wr)
        case atStart => exact ⟨0, _, _, Nat.zero_add _, rfl, rfl, hS⟩
        case round =>
          clear hS
          obtain ⟨j, ao, co, hj, rfl, rfl, hS⟩ := hrel
          by_cases hjp : j < p
          · have hjg : j < gs.length := by rw [hlen.out]; omega
            obtain ⟨b1, o1, e1, c0, c1⟩ := hget.out j hjg
            cases e1
            have hsn := Lib.hid (grows_snoc gs j hjg)
            have hx := (hlt.out j hjg).2 hjp
            have c0' := hS.old c0 (by simp)
            have c1' := hS.old c1 (by simp)
            generalize gs[j] = x at *
            obtain ⟨xn, xa, xc, xm⟩ := x
            simp only at *
            generalize xm.length = l1 at *
            have hjn : j < p := by omega
            clear c0 c1
            go_wp2_with (first
              | ((with_reducible refine wpList_build1a_st hS rfl rfl Try.underlying22 elem_g rfl rfl (by omega) ?_); intro g3 w4 hS1; clear hS; have hS := hS1; clear hS1)
              | (at_builtin; ((with_reducible refine wpList_app_st 1 hS rfl rfl rfl Try.underlying22 elem_g rfl (Src.slice Try.underlying22 (hS.blksl2 0 rfl) rfl) rfl (row2_one xn xa l1 xc) (by omega) (by unfold maxLen; omega) ?_); intro v5 w5 hS1; clear hS; have hS := hS1.drop; clear hS1; obtain ⟨a5, c5, rfl, -⟩ := hS.row 0 rfl)))
            go_roundg (p - (j + 1))
            case measure => omega
            case rel => exact ⟨j + 1, _, _, by omega, by go_num, rfl, by rw [hsn.out]; exact hS⟩
          · obtain rfl : j = p := by omega
            clear hjp
            go_wp2_with (first
              | ((with_reducible refine wpList_build1 rfl rfl (.int .i64 g) rfl (build_g g) ?_))
              | ((with_reducible refine wpList_build1a_st hS rfl rfl Try.underlying22 elem_g rfl rfl (by omega) ?_); intro g3 w4 hS1; clear hS; have hS := hS1; clear hS1)
              | (at_builtin; ((with_reducible refine wpList_app_st 1 hS rfl rfl rfl Try.underlying22 elem_g rfl (Src.slice Try.underlying22 (hS.blksl2 0 rfl) rfl) rfl (row2_one g none 0 0) (by omega) (by unfold maxLen; omega) ?_); intro v5 w5 hS1; clear hS; have hS := hS1.drop; clear hS1; obtain ⟨a5, c5, rfl, -⟩ := hS.row 0 rfl))
              | (at_builtin; ((with_reducible refine wpList_app_st 0 hS rfl rfl rfl Try.underlying22 elem_g rfl (Src.slice Try.underlying22 (Sl.nil _ _) (by simp)) rfl nil_one (by omega) (by unfold maxLen; omega) ?_); intro v5 w5 hS1; clear hS; have hS := hS1; clear hS1; obtain ⟨a7, c7, rfl, -⟩ := hS.row 0 rfl)))
            go_ret2
            have r := hend.out _ _ _ (by
              rw [Nat.sub_self]
              simpa using hS)
            rw [Nat.sub_self] at r
            exact r
  · have hpn2 : p < n := by omega
    obtain ⟨b, off, rfl, -⟩ := hD.get p (by rw [hlen.out]; exact hpn2)
    have hs2 : Sl w (some ⟨b, off + p * 2, none⟩) (grows (gs.drop p)) := by
      have := hD.sl.drop (p * 2)
      rwa [grows_drop] at this
    have hcp : ¬ (cap = p) := by omega
    replace hs2 := Lib.hid hs2
    clear hD hu hb hnl h1 h2 hpn
    go_enter Try.func19, Try.ntmps19
    go_wp2_with (first
      | (go_at_call 44; (with_reducible refine cP.out.mono ?_); rintro _ _ ⟨rfl, rfl⟩)
      | ((with_reducible refine wpList_build0_st hS rfl rfl Try.underlying22 elem_g ?_); intro g1 w3 hS1; clear hS; have hS := hS1; clear hS1))
    go_loopg [6, 7] p (fun gk vo vx wr => ∃ (j : Nat) (ao : Option Addr) (co : Nat), j + gk = p ∧ vx = .int .i64 j ∧ vo = .slice ao j co ∧ St w [] [Ch.row 31 2 (.slice ao j co) j (grows (gs.take j))] wr)
    case atStart => exact ⟨0, _, _, Nat.zero_add _, rfl, rfl, hS⟩
    case round =>
      clear hS
      obtain ⟨j, ao, co, hj, rfl, rfl, hS⟩ := hrel
      by_cases hjp : j < p
      · have hjg : j < gs.length := by rw [hlen.out]; omega
        obtain ⟨b1, o1, e1, c0, c1⟩ := hget.out j hjg
        cases e1
        have hsn := Lib.hid (grows_snoc gs j hjg)
        have hx := (hlt.out j hjg).2 hjp
        have c0' := hS.old c0 (by simp)
        have c1' := hS.old c1 (by simp)
        generalize gs[j] = x at *
        obtain ⟨xn, xa, xc, xm⟩ := x
        simp only at *
        generalize xm.length = l1 at *
        have hjn : j < n := by omega
        clear c0 c1
        go_wp2_with (first
          | ((with_reducible refine wpList_build1a_st hS rfl rfl Try.underlying22 elem_g rfl rfl (by omega) ?_); intro g3 w4 hS1; clear hS; have hS := hS1; clear hS1)
          | (at_builtin; ((with_reducible refine wpList_app_st 1 hS rfl rfl rfl Try.underlying22 elem_g rfl (Src.slice Try.underlying22 (hS.blksl2 0 rfl) rfl) rfl (row2_one xn xa l1 xc) (by omega) (by unfold maxLen; omega) ?_); intro v5 w5 hS1; clear hS; have hS := hS1.drop; clear hS1; obtain ⟨a5, c5, rfl, -⟩ := hS.row 0 rfl)))
        go_roundg (p - (j + 1))
        case measure => omega
        case rel => exact ⟨j + 1, _, _, by omega, by go_num, rfl, by rw [hsn.out]; exact hS⟩
      · obtain rfl : j = p := by omega
        have hjg : j < gs.length := by rw [hlen.out]; omega
        obtain ⟨b1, o1, e1, c0, c1⟩ := hget.out j hjg
        cases e1
        have hx : decide (gs[j].no < g) = false := decide_eq_false (fun h => hjp ((hlt.out j hjg).1 h))
        have c0' := hS.old c0 (by simp)
        generalize gs[j].no = xn at *
        clear c0 c1 hjp
        go_wp2_with (first
          | ((with_reducible refine wpList_build1 rfl rfl (.int .i64 g) rfl (build_g g) ?_))
          | ((with_reducible refine wpList_build1a_st hS rfl rfl Try.underlying22 elem_g rfl rfl (by omega) ?_); intro g3 w4 hS1; clear hS; have hS := hS1; clear hS1)
          | (at_builtin; ((with_reducible refine wpList_app_st 1 hS rfl rfl rfl Try.underlying22 elem_g rfl (Src.slice Try.underlying22 (hS.blksl2 0 rfl) rfl) rfl (row2_one g none 0 0) (by omega) (by unfold maxLen; omega) ?_); intro v5 w5 hS1; clear hS; have hS := hS1.drop; clear hS1; obtain ⟨a5, c5, rfl, -⟩ := hS.row 0 rfl))
          | (at_builtin; ((with_reducible refine wpList_app_st 0 hS rfl rfl rfl Try.underlying22 elem_g rfl (Src.slice Try.underlying22 (hS.sl hs2.out) (hgt.out)) rfl hone.out (by omega) (by unfold maxLen; omega) ?_); intro v5 w5 hS1; clear hS; have hS := hS1; clear hS1; obtain ⟨a7, c7, rfl, -⟩ := hS.row 0 rfl)))
        go_ret2
        exact hend.out _ _ _ hS
theorem ropen_any (a : Option Addr) (gs : List Gr) (n cap : Nat) (g : Int) (w : World) (hD : Deep w a n cap gs) (hm : n ≤ 1000) (hu : Ids.Up (nos gs)) :
    Calls Try.prog 19 #[.slice a n cap, .int .i64 g] w (GsOut (openK (keys gs) g) w) := by
  unfold openK
  rw [← nos_keys]
  have hS := St.start w
  have cP := rgplace_any a gs n cap g w hD (by omega) hu
  have hpl := place_le (nos gs) g
  by_cases h1 : g < 0
  · rw [if_pos (.inl h1)]
    clear hD hu cP hpl
    go_enter Try.func19, Try.ntmps19
    go_wp2_with fail
    go_ret2
    exact gsOut_err hS.below
  · by_cases h2 : 16 ≤ g
    · rw [if_pos (.inr h2)]
      have d1 : decide (g < 0) = false := decide_eq_false h1
      clear hD hu cP hpl h1
      go_enter Try.func19, Try.ntmps19
      go_wp2_with fail
      go_ret2
      exact gsOut_err hS.below
    · rw [if_neg (by omega)]
      cases hb : Ids.has (nos gs) g with
      | false =>
        rw [if_neg (by simp)]
        exact ropen_main a gs n cap g w hD hm hu (by omega) (by omega) hb
      | true =>
        rw [if_pos rfl]
        rw [hb, show plR true (Ids.place (nos gs) g) = (Ids.place (nos gs) g : Int) from rfl] at cP
        have d1 : decide (g < 0) = false := decide_eq_false h1
        have d2 : decide (16 ≤ g) = false := decide_eq_false h2
        generalize Ids.place (nos gs) g = p at cP
        have h0 : (0 : Int) ≤ (p : Int) := by omega
        replace cP := Lib.hid cP
        clear hD hu hpl h1 h2 hb
        go_enter Try.func19, Try.ntmps19
        go_wp2_with (go_at_call 44; (with_reducible refine cP.out.mono ?_); rintro _ _ ⟨rfl, rfl⟩)
        go_ret2
        exact gsOut_err hS.below
theorem rclose_any (a : Option Addr) (gs : List Gr) (n cap : Nat) (g : Int) (w : World) (hD : Deep w a n cap gs) (hm : n ≤ 1000) (hu : Ids.Up (nos gs)) :
    Calls Try.prog 21 #[.slice a n cap, .int .i64 g] w (GsOut (closeK (keys gs) g) w) := by
  unfold closeK
  rw [← nos_keys]
  have hS := St.start w
  have cP := rgplace_any a gs n cap g w hD (by omega) hu
  have hlt := Ids.has_lt (nos gs) g hu
  have hnl : (nos gs).length = n := by rw [nos, List.length_map, hD.len]
  have hlen := hD.len
  rw [hnl] at hlt
  by_cases h1 : g < 0
  · rw [if_pos (.inl h1)]
    clear hD hu cP hlt hnl hlen
    go_enter Try.func21, Try.ntmps21
    go_wp2_with fail
    go_ret2
    exact gsOut_err hS.below
  · by_cases h2 : 16 ≤ g
    · rw [if_pos (.inr h2)]
      have d1 : decide (g < 0) = false := decide_eq_false h1
      clear hD hu cP h1 hlt hnl hlen
      go_enter Try.func21, Try.ntmps21
      go_wp2_with fail
      go_ret2
      exact gsOut_err hS.below
    · rw [if_neg (by omega)]
      have d1 : decide (g < 0) = false := decide_eq_false h1
      have d2 : decide (16 ≤ g) = false := decide_eq_false h2
      generalize Ids.has (nos gs) g = hb at cP hlt ⊢
      generalize Ids.place (nos gs) g = p at cP hlt ⊢
      clear h1 h2 hu hnl
      cases hb with
      | false =>
        rw [if_neg (by simp)]
        rw [show plR false p = -1 from rfl] at cP
        replace cP := Lib.hid cP
        clear hD hlt hlen
        go_enter Try.func21, Try.ntmps21
        go_wp2_with (go_at_call 44; (with_reducible refine cP.out.mono ?_); rintro _ _ ⟨rfl, rfl⟩)
        go_ret2
        exact gsOut_err hS.below
      | true =>
        rw [if_pos rfl]
        rw [show plR true p = (p : Int) from rfl] at cP
        have hpn := hlt rfl
        obtain ⟨b, off, rfl, -⟩ := hD.get p (by omega)
        have h0 : (0 : Int) ≤ (p : Int) := by omega
        have hcap := hD.le
        have hcm : cap ≤ 9223372036854775807 := by have := hD.cm; unfold maxLen at this; omega
        have hs1 : Sl w (some ⟨b, off, none⟩) (grows (gs.take p)) := by
          have := hD.sl.take (p * 2)
          rwa [grows_take] at this
        have hs2 : Sl w (some ⟨b, off + (p + 1) * 2, none⟩) (grows (gs.drop (p + 1))) := by
          have := hD.sl.drop ((p + 1) * 2)
          rwa [grows_drop] at this
        have hl1 : (grows (gs.take p)).length = p * 2 := by rw [grows_len, List.length_take]; omega
        have hl2 : (grows (gs.drop (p + 1))).length = (n - (p + 1)) * 2 := by rw [grows_len, List.length_drop, hlen]
        have ho1 := Lib.hid (grows_one (gs.take p))
        have ho2 := Lib.hid (grows_one (gs.drop (p + 1)))
        have hMl := Lib.hid (fun W (h : St w [] [] W) g hg => (hD.mem g hg).below h.below)
        have hend : ∀ (ao : Option Addr) (co : Nat) (W : World), St w [] [Ch.row 31 2 (.slice ao (p + (n - (p + 1))) co) (p + (n - (p + 1))) (grows (gs.take p) ++ grows (gs.drop (p + 1)))] W → GsOut (0, (keys gs).take p ++ (keys gs).drop (p + 1)) w (.returned (.tuple #[.slice ao (p + (n - (p + 1))) co, .int .i64 0])) W := by
          intro ao co W h
          have hlx : (gs.take p ++ gs.drop (p + 1)).length = p + (n - (p + 1)) := by simp; omega
          have hd := deep_of (gs := gs.take p ++ gs.drop (p + 1)) h (by rw [grows_append]) hlx (by
            intro x hx
            simp only [List.mem_append] at hx
            rcases hx with hx | hx
            · exact .inr (hMl.out _ h.empty x (List.mem_of_mem_take hx))
            · exact .inr (hMl.out _ h.empty x (List.mem_of_mem_drop hx)))
          refine ⟨_, _, _, ?_, ?_, by rw [hlx]; exact hd, h.below⟩
          · simp [keys]
          · rw [hlx]
        have s1 : (0 : Int) ≤ (p : Int) + 1 := by omega
        have s2 : ((p : Int) + 1).toNat = p + 1 := by omega
        have s3 : (p : Int) + 1 ≤ (n : Int) := by omega
        have s5 : IntKind.i64.wrap ((p : Int) + 1) = (p : Int) + 1 := IntWalk.i64_in _ (by omega)
        have s6 : (p : Int) ≤ (cap : Int) := by omega
        have s7 : p ≤ cap := by omega
        replace s1 := Lib.hid s1
        replace s2 := Lib.hid s2
        replace s3 := Lib.hid s3
        replace s5 := Lib.hid s5
        replace hend := Lib.hid hend
        replace hs1 := Lib.hid hs1
        replace hs2 := Lib.hid hs2
        replace hl1 := Lib.hid hl1
        replace hl2 := Lib.hid hl2
        replace cP := Lib.hid cP
        clear hD hlt hlen
        by_cases hc : cap = p + 1
        · obtain rfl : n = p + 1 := by omega
          have hgz : grows (gs.drop (p + 1)) = [] := List.eq_nil_of_length_eq_zero (by rw [hl2.out]; omega)
          rw [hgz] at hend
          subst hc
          clear hs2 hl2 ho2
          go_enter Try.func21, Try.ntmps21
          go_wp2_with (go_at_call 44; (with_reducible refine cP.out.mono ?_); rintro _ _ ⟨rfl, rfl⟩)
          have q1 := s1.out
          have q2 := s2.out
          have q5 := s5.out
          have q6 : (p : Int) ≤ (p : Int) + 1 := by omega
          refine mixs_beginE (by kernel_rfl) hS ?_
          clear hS
          intro w2 hS hC
          refine tk 1 ?_
          refine tk 2 ?_
          refine tk 3 ?_
          refine tk 5 ?_
          refine tk 6 ?_
          refine tk 7 ?_
          refine tk 8 ?_
          refine mixs_one 0 (by kernel_rfl) rfl (fun K hK => ?_)
          ( first | (refine op_build0_st (by kernel_rfl) hS rfl Try.underlying22 elem_g ?_; intro g1 w3 hS1; clear hS; have hS := hS1; clear hS1) | (refine op_app_st (by kernel_rfl) 0 hS rfl rfl Try.underlying22 elem_g rfl (Src.slice Try.underlying22 (hS.sl hs1.out) hl1.out) rfl ho1.out (by omega) (by unfold maxLen; omega) ?_; intro v5 w3 hS1; clear hS; simp only [List.set_cons_zero, Nat.zero_add, List.nil_append] at hS1; have hS := hS1; clear hS1; obtain ⟨a5, c5, rfl, -⟩ := hS.row 0 rfl) | (refine op_app_st (by kernel_rfl) 0 hS rfl rfl Try.underlying22 elem_g rfl (Src.slice Try.underlying22 (Sl.nil _ _) (by simp)) rfl nil_one (by omega) (by unfold maxLen; omega) ?_; intro v5 w3 hS1; clear hS; have hS := hS1; clear hS1; obtain ⟨a7, c7, rfl, -⟩ := hS.row 0 rfl) )
          try clear hC
          refine cl hK (fun hC => ?_)
          clear hK K
          refine mixs_one 4 (by kernel_rfl) rfl (fun K hK => ?_)
          ( first | (refine op_build0_st (by kernel_rfl) hS rfl Try.underlying22 elem_g ?_; intro g1 w3 hS1; clear hS; have hS := hS1; clear hS1) | (refine op_app_st (by kernel_rfl) 0 hS rfl rfl Try.underlying22 elem_g rfl (Src.slice Try.underlying22 (hS.sl hs1.out) hl1.out) rfl ho1.out (by omega) (by unfold maxLen; omega) ?_; intro v5 w3 hS1; clear hS; simp only [List.set_cons_zero, Nat.zero_add, List.nil_append] at hS1; have hS := hS1; clear hS1; obtain ⟨a5, c5, rfl, -⟩ := hS.row 0 rfl) | (refine op_app_st (by kernel_rfl) 0 hS rfl rfl Try.underlying22 elem_g rfl (Src.slice Try.underlying22 (Sl.nil _ _) (by simp)) rfl nil_one (by omega) (by unfold maxLen; omega) ?_; intro v5 w3 hS1; clear hS; have hS := hS1; clear hS1; obtain ⟨a7, c7, rfl, -⟩ := hS.row 0 rfl) )
          try clear hC
          refine cl hK (fun hC => ?_)
          clear hK K
          refine mixs_one 9 (by kernel_rfl) rfl (fun K hK => ?_)
          ( first | (refine op_build0_st (by kernel_rfl) hS rfl Try.underlying22 elem_g ?_; intro g1 w3 hS1; clear hS; have hS := hS1; clear hS1) | (refine op_app_st (by kernel_rfl) 0 hS rfl rfl Try.underlying22 elem_g rfl (Src.slice Try.underlying22 (hS.sl hs1.out) hl1.out) rfl ho1.out (by omega) (by unfold maxLen; omega) ?_; intro v5 w3 hS1; clear hS; simp only [List.set_cons_zero, Nat.zero_add, List.nil_append] at hS1; have hS := hS1; clear hS1; obtain ⟨a5, c5, rfl, -⟩ := hS.row 0 rfl) | (refine op_app_st (by kernel_rfl) 0 hS rfl rfl Try.underlying22 elem_g rfl (Src.slice Try.underlying22 (Sl.nil _ _) (by simp)) rfl nil_one (by omega) (by unfold maxLen; omega) ?_; intro v5 w3 hS1; clear hS; have hS := hS1; clear hS1; obtain ⟨a7, c7, rfl, -⟩ := hS.row 0 rfl) )
          try clear hC
          refine cl hK (fun hC => ?_)
          clear hK K
          refine tk 10 ?_
          refine tk 11 ?_
          refine wpAnyH_done (by kernel_rfl) ?_ _
          go_wp2_with fail
          go_ret2
          have r := hend.out _ _ _ (by
            rw [Nat.sub_self]
            simpa using hS)
          rw [Nat.sub_self] at r
          exact r
        · go_enter Try.func21, Try.ntmps21
          go_wp2_with (go_at_call 44; (with_reducible refine cP.out.mono ?_); rintro _ _ ⟨rfl, rfl⟩)
          have q1 := s1.out
          have q2 := s2.out
          have q3 := s3.out
          have q5 := s5.out
          refine mixs_beginE (by kernel_rfl) hS ?_
          clear hS
          intro w2 hS hC
          refine tk 1 ?_
          refine tk 2 ?_
          refine tk 3 ?_
          refine tk 5 ?_
          refine tk 6 ?_
          refine tk 7 ?_
          refine tk 8 ?_
          refine mixs_one 0 (by kernel_rfl) rfl (fun K hK => ?_)
          ( first | (refine op_build0_st (by kernel_rfl) hS rfl Try.underlying22 elem_g ?_; intro g1 w3 hS1; clear hS; have hS := hS1; clear hS1) | (refine op_app_st (by kernel_rfl) 0 hS rfl rfl Try.underlying22 elem_g rfl (Src.slice Try.underlying22 (hS.sl hs1.out) hl1.out) rfl ho1.out (by omega) (by unfold maxLen; omega) ?_; intro v5 w3 hS1; clear hS; simp only [List.set_cons_zero, Nat.zero_add, List.nil_append] at hS1; have hS := hS1; clear hS1; obtain ⟨a5, c5, rfl, -⟩ := hS.row 0 rfl) | (refine op_app_st (by kernel_rfl) 0 hS rfl rfl Try.underlying22 elem_g rfl (Src.slice Try.underlying22 (hS.sl hs2.out) hl2.out) rfl ho2.out (by omega) (by unfold maxLen; omega) ?_; intro v5 w3 hS1; clear hS; have hS := hS1; clear hS1; obtain ⟨a7, c7, rfl, -⟩ := hS.row 0 rfl) )
          try clear hC
          refine cl hK (fun hC => ?_)
          clear hK K
          refine mixs_one 4 (by kernel_rfl) rfl (fun K hK => ?_)
          ( first | (refine op_build0_st (by kernel_rfl) hS rfl Try.underlying22 elem_g ?_; intro g1 w3 hS1; clear hS; have hS := hS1; clear hS1) | (refine op_app_st (by kernel_rfl) 0 hS rfl rfl Try.underlying22 elem_g rfl (Src.slice Try.underlying22 (hS.sl hs1.out) hl1.out) rfl ho1.out (by omega) (by unfold maxLen; omega) ?_; intro v5 w3 hS1; clear hS; simp only [List.set_cons_zero, Nat.zero_add, List.nil_append] at hS1; have hS := hS1; clear hS1; obtain ⟨a5, c5, rfl, -⟩ := hS.row 0 rfl) | (refine op_app_st (by kernel_rfl) 0 hS rfl rfl Try.underlying22 elem_g rfl (Src.slice Try.underlying22 (hS.sl hs2.out) hl2.out) rfl ho2.out (by omega) (by unfold maxLen; omega) ?_; intro v5 w3 hS1; clear hS; have hS := hS1; clear hS1; obtain ⟨a7, c7, rfl, -⟩ := hS.row 0 rfl) )
          try clear hC
          refine cl hK (fun hC => ?_)
          clear hK K
          refine mixs_one 9 (by kernel_rfl) rfl (fun K hK => ?_)
          ( first | (refine op_build0_st (by kernel_rfl) hS rfl Try.underlying22 elem_g ?_; intro g1 w3 hS1; clear hS; have hS := hS1; clear hS1) | (refine op_app_st (by kernel_rfl) 0 hS rfl rfl Try.underlying22 elem_g rfl (Src.slice Try.underlying22 (hS.sl hs1.out) hl1.out) rfl ho1.out (by omega) (by unfold maxLen; omega) ?_; intro v5 w3 hS1; clear hS; simp only [List.set_cons_zero, Nat.zero_add, List.nil_append] at hS1; have hS := hS1; clear hS1; obtain ⟨a5, c5, rfl, -⟩ := hS.row 0 rfl) | (refine op_app_st (by kernel_rfl) 0 hS rfl rfl Try.underlying22 elem_g rfl (Src.slice Try.underlying22 (hS.sl hs2.out) hl2.out) rfl ho2.out (by omega) (by unfold maxLen; omega) ?_; intro v5 w3 hS1; clear hS; have hS := hS1; clear hS1; obtain ⟨a7, c7, rfl, -⟩ := hS.row 0 rfl) )
          try clear hC
          refine cl hK (fun hC => ?_)
          clear hK K
          refine tk 10 ?_
          refine tk 11 ?_
          refine wpAnyH_done (by kernel_rfl) ?_ _
          go_wp2_with fail
          go_ret2
          exact hend.out _ _ _ hS
theorem rleave_any (a : Option Addr) (gs : List Gr) (n cap : Nat) (id : Int) (w : World) (hD : Deep w a n cap gs) (hm : n ≤ 1000) (hmm : ∀ g ∈ gs, g.mem.length ≤ 10000) :
    Calls Try.prog 29 #[.slice a n cap, .int .i64 id] w (GsRet (leaveK (keys gs) id) w) := by
  have hS := St.start w
  have hlen := Lib.hid hD.len
  have hget := Lib.hid hD.get
  have hM := Lib.hid (fun j (hj : j < gs.length) => hD.mem gs[j] (List.getElem_mem hj))
  have hml := Lib.hid (fun j (hj : j < gs.length) => hmm gs[j] (List.getElem_mem hj))
  have hcm : n ≤ 9223372036854775807 := by omega
  clear hD hmm
  go_enter Try.func29, Try.ntmps29
  go_wp2_with ((with_reducible refine wpList_build0_st hS rfl rfl Try.underlying22 elem_g ?_); intro g1 w3 hS1; clear hS; have hS := hS1; clear hS1)
  go_loopg [5, 6] n (fun gk vo vx wr => ∃ (j : Nat) (ao : Option Addr) (co : Nat) (new : List Gr), j + gk = n ∧ vx = .int .i64 j ∧ vo = .slice ao j co ∧ Hid (new.length = j ∧ keys new = leaveK ((keys gs).take j) id) ∧ St w [] (Ch.row 31 2 (.slice ao j co) j (grows new) :: new.reverse.map gp) wr)
  case atStart => exact ⟨0, _, _, [], Nat.zero_add _, rfl, rfl, Lib.hid ⟨rfl, by simp [keys, leaveK]⟩, hS⟩
  case round =>
    clear hS
    obtain ⟨j, ao, co, new, hj, rfl, rfl, hr, hS⟩ := hrel
    by_cases hlt : j < n
    · have hjg : j < gs.length := by rw [hlen.out]; exact hlt
      have hjk : j < (keys gs).length := by simpa [keys] using hjg
      obtain ⟨b, off, rfl, c0, c1⟩ := hget.out j hjg
      have hMj := hM.out j hjg
      have hmlj := hml.out j hjg
      have t1 : leaveK ((keys gs).take (j + 1)) id = leaveK ((keys gs).take j) id ++ [(gs[j].no, Ids.drop gs[j].mem id)] := by
        rw [List.take_succ_eq_append_getElem hjk]; simp [keys, leaveK, Gr.key]
      generalize gs[j] = x at c0 c1 hMj hmlj t1
      have cD := fun W h => rdrop_any x.a x.mem x.mem.length x.c id W h rfl hmlj
      have hsl := Lib.hid (fun W (h : St w [] [] W) => h.sl hMj.sl)
      have k0 := hS.empty.kold0 c0
      have k1 := hS.empty.kold0 c1
      obtain ⟨xn, xa, xc, xm⟩ := x
      simp only at *
      have hbg := fun A N C W => build_g2 xn A N C W
      generalize hdm : Ids.drop xm id = dm at cD t1
      generalize xm.length = l1 at *
      have hnew : ∀ (a5 : Option Addr) (c5 : Nat), (new ++ [(⟨xn, a5, c5, dm⟩ : Gr)]).length = j + 1 ∧ keys (new ++ [(⟨xn, a5, c5, dm⟩ : Gr)]) = leaveK ((keys gs).take (j + 1)) id := by
        intro a5 c5
        obtain ⟨r1, r2⟩ := hr.out
        refine ⟨by simp [r1], ?_⟩
        rw [t1, ← r2]
        simp [keys, Gr.key]
      replace hnew := Lib.hid hnew
      replace cD := Lib.hid cD
      clear hdm hMj t1 c0 c1
      go_wp2_with fail
      refine mixs_beginE (by kernel_rfl) hS ?_
      clear hS
      intro w2 hS hC
      refine tk 0 ?_
      refine tk 1 ?_
      refine tk 2 ?_
      refine tk 3 ?_
      refine tk 4 ?_
      refine tk 5 ?_
      refine tk 6 ?_
      refine tk 7 ?_
      refine tk 8 ?_
      refine tk 9 ?_
      refine tk 10 ?_
      refine tk 11 ?_
      refine mixs_one 12 (by kernel_rfl) rfl (fun K hK => ?_)
      go_simp
      ( first | (go_at_call 49; (with_reducible refine (cD.out _ (hsl.out _ hS.empty)).mono ?_); rintro _ w3 ⟨a5, c5, rfl, h51, h52, hb3⟩; have hS1 := hS.made hb3; clear hS hb3; have hS := hS1; clear hS1) | (refine op_build1_st (by kernel_rfl) hS rfl Try.underlying22 elem_g rfl rfl (by omega) ?_; intro g3 w4 hS1; clear hS; have hS := hS1; clear hS1) | (refine op_app_st (by kernel_rfl) 2 hS rfl rfl Try.underlying22 elem_g rfl (Src.slice Try.underlying22 (hS.blksl2 0 rfl) rfl) rfl (row2_one xn a5 dm.length c5) (by omega) (by unfold maxLen; omega) ?_; intro v6 w5 hS1; clear hS; have hS := hS1.drop.swap; clear hS1; obtain ⟨a6, c6, rfl, -⟩ := hS.row 0 rfl) )
      try clear hC
      refine cl hK (fun hC => ?_)
      clear hK K
      refine tk 13 ?_
      refine mixs_one 14 (by kernel_rfl) rfl (fun K hK => ?_)
      ( first | (go_at_call 49; (with_reducible refine (cD.out _ (hsl.out _ hS.empty)).mono ?_); rintro _ w3 ⟨a5, c5, rfl, h51, h52, hb3⟩; have hS1 := hS.made hb3; clear hS hb3; have hS := hS1; clear hS1) | (refine op_build1_st (by kernel_rfl) hS rfl Try.underlying22 elem_g rfl rfl (by omega) ?_; intro g3 w4 hS1; clear hS; have hS := hS1; clear hS1) | (refine op_app_st (by kernel_rfl) 2 hS rfl rfl Try.underlying22 elem_g rfl (Src.slice Try.underlying22 (hS.blksl2 0 rfl) rfl) rfl (row2_one xn a5 dm.length c5) (by omega) (by unfold maxLen; omega) ?_; intro v6 w5 hS1; clear hS; have hS := hS1.drop.swap; clear hS1; obtain ⟨a6, c6, rfl, -⟩ := hS.row 0 rfl) )
      try clear hC
      refine cl hK (fun hC => ?_)
      clear hK K
      refine mixs_one 15 (by kernel_rfl) rfl (fun K hK => ?_)
      ( first | (go_at_call 49; (with_reducible refine (cD.out _ (hsl.out _ hS.empty)).mono ?_); rintro _ w3 ⟨a5, c5, rfl, h51, h52, hb3⟩; have hS1 := hS.made hb3; clear hS hb3; have hS := hS1; clear hS1) | (refine op_build1_st (by kernel_rfl) hS rfl Try.underlying22 elem_g rfl rfl (by omega) ?_; intro g3 w4 hS1; clear hS; have hS := hS1; clear hS1) | (refine op_app_st (by kernel_rfl) 2 hS rfl rfl Try.underlying22 elem_g rfl (Src.slice Try.underlying22 (hS.blksl2 0 rfl) rfl) rfl (row2_one xn a5 dm.length c5) (by omega) (by unfold maxLen; omega) ?_; intro v6 w5 hS1; clear hS; have hS := hS1.drop.swap; clear hS1; obtain ⟨a6, c6, rfl, -⟩ := hS.row 0 rfl) )
      try clear hC
      refine cl hK (fun hC => ?_)
      clear hK K
      refine tk 16 ?_
      refine wpAnyH_done (by kernel_rfl) ?_ _
      clear k0 k1 hbg
      go_wp2_with fail
      go_roundg (n - (j + 1))
      case measure => omega
      case rel =>
        refine ⟨j + 1, _, _, new ++ [(⟨xn, a5, c5, dm⟩ : Gr)], by omega, by go_num, rfl, Lib.hid (hnew.out a5 c5), ?_⟩
        rw [List.reverse_append, grows_append]
        exact hS
    · obtain rfl : j = n := by omega
      obtain ⟨r1, r2⟩ := hr.out
      rw [List.take_of_length_le (by simp [keys, hlen.out])] at r2
      have r3 := Lib.hid r2
      have r4 := Lib.hid r1
      clear r1 r2
      go_wp2_with fail
      go_ret
      have hd := deep_of (gs := new) hS rfl r4.out (by
        intro x hx
        left
        exact List.mem_map.2 ⟨x, by simpa using hx, rfl⟩)
      exact ⟨_, _, new, r3.out, by rw [r4.out]; rfl, by rw [r4.out]; exact hd, hS.below⟩
end Go.Proofs.Ytkbekagmfbgefaa
end
