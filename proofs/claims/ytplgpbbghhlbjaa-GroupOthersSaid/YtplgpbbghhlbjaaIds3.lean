/- Lists of numbers: one put in, all of two. -/
import Derived.Test.YtplgpbbghhlbjaaSt6
import Derived.Test.YtplgpbbghhlbjaaIds2
set_option linter.unusedSimpArgs false
set_option linter.unusedVariables false
namespace Go.Proofs.Ytplgpbbghhlbjaa
open Go.RowKit Go.Ofp
set_option linter.unusedVariables false
set_option maxRecDepth 100000
set_option maxHeartbeats 4000000

theorem place_le (l : List Int) (id : Int) : Ids.place l id ≤ l.length := List.length_filter_le _ _

theorem intsRet_mk {w w' : World} {a : Option Addr} {c n : Nat} {l : List Int} {xs : List Value} (h : St w [] [Ch.row 3 1 (.slice a n c) n xs] w') (hx : xs = l.map vi) (hn : l.length = n) : IntsRet l w (.returned (.slice a n c)) w' := by
  subst hx hn
  obtain ⟨_, _, e2, -, -, h1, h2⟩ := h.row 0 rfl
  cases e2
  exact ⟨_, _, rfl, h1, h2, h⟩

theorem nil_one : ∀ u ∈ ([] : List Value), u.oneCell' = true := by simp
theorem rput_same (a : Option Addr) (l : List Int) (n cap : Nat) (id : Int) (w : World) (hs : Sl w a (l.map vi)) (hn : l.length = n) (hm : n ≤ 100000) (h : id < 1 ∨ 1073741824 ≤ id ∨ Ids.has l id = true) :
    Calls Try.prog 32 #[.slice a n cap, .int .i64 id] w (IntsRet l w) := by
  have cH := fun (W : World) hsl => rhas_any a l n cap id W hsl hn (by unfold maxLen; omega)
  have ez := elem_i
  have hS := St.start w
  generalize hx : Ids.has l id = hb at cH h
  replace cH := Lib.hid cH
  replace hx := Lib.hid hx
  replace hn := Lib.hid hn
  replace hs := Lib.hid hs
  have key : id < 1 ∨ (1 ≤ id ∧ 1073741824 ≤ id) ∨ ((1 ≤ id ∧ id < 1073741824) ∧ hb = true) := by
    rcases h with h | h | h
    · exact .inl h
    · exact .inr (.inl ⟨by omega, h⟩)
    · by_cases k1 : id < 1
      · exact .inl k1
      · by_cases k2 : 1073741824 ≤ id
        · exact .inr (.inl ⟨by omega, k2⟩)
        · exact .inr (.inr ⟨⟨by omega, by omega⟩, h⟩)
  clear h
  rcases key with h | ⟨h1, h2⟩ | ⟨⟨h1, h2⟩, rfl⟩
  all_goals
    go_enter Try.func32, Try.ntmps32
    go_wp2_with (first
      | (go_at_call 25; (with_reducible refine (cH.out _ hs.out).mono ?_); rintro _ _ ⟨rfl, rfl⟩)
      | ((with_reducible refine wpList_build0_st hS rfl rfl Try.underlying22 elem_i ?_); intro g1 w3 hS1; clear hS; have hS := hS1; clear hS1)
      | (at_builtin; (with_reducible refine wpList_app_st 0 hS rfl rfl rfl Try.underlying22 elem_i rfl (Src.slice Try.underlying22 (hS.sl hs.out) (by simp [hn.out])) rfl (vi_one l) (by omega) (by unfold maxLen; omega) ?_); intro v5 w3 hS1; clear hS; simp only [List.set_cons_zero, Nat.zero_add, List.nil_append] at hS1; have hS := hS1; clear hS1; obtain ⟨a5, c5, rfl, -⟩ := hS.row 0 rfl))
    go_ret
    have e1 := hn.out
    obtain ⟨_, _, e2, -, -, h1, h2⟩ := hS.row 0 rfl
    cases e2
    subst e1
    exact ⟨_, _, rfl, h1, h2, hS⟩

theorem rput_new (a : Option Addr) (l : List Int) (n cap : Nat) (id : Int) (w : World) (hs : Sl w a (l.map vi)) (hn : l.length = n) (hm : n ≤ 100000) (hnc : n ≤ cap) (h1 : 1 ≤ id) (h2 : id < 1073741824) (h3 : Ids.has l id = false) :
    Calls Try.prog 32 #[.slice a n cap, .int .i64 id] w (IntsRet (l.take (Ids.place l id) ++ id :: l.drop (Ids.place l id)) w) := by
  have cH := fun (W : World) hsl => rhas_any a l n cap id W hsl hn (by unfold maxLen; omega)
  have cP := fun (W : World) hsl => rplace_any a l n cap id W hsl hn (by unfold maxLen; omega)
  have ez := elem_i
  have hS := St.start w
  rw [h3] at cH
  have hp := place_le l id
  rw [hn] at hp
  generalize Ids.place l id = p at cP hp ⊢
  have hs1 : Sl w a ((l.take p).map vi) := by rw [List.map_take]; exact hs.take p
  have hl1 : ((l.take p).map vi).length = p * 1 := by simp; omega
  replace cH := Lib.hid cH
  replace cP := Lib.hid cP
  replace h3 := Lib.hid h3
  replace hs1 := Lib.hid hs1
  replace hl1 := Lib.hid hl1
  have hs2 : ∀ b off, a = some ⟨b, off, none⟩ → Sl w (some ⟨b, off + p, none⟩) ((l.drop p).map vi) := by
    rintro b off rfl
    have := hs.drop p
    rwa [← List.map_drop] at this
  have hl2 : ((l.drop p).map vi).length = (n - p) * 1 := by simp; omega
  have hfin : l.take p ++ [id] ++ l.drop p = l.take p ++ id :: l.drop p := by simp
  have hln : (l.take p ++ id :: l.drop p).length = p + 1 + (n - p) := by simp; omega
  replace hl2 := Lib.hid hl2
  replace hfin := Lib.hid hfin
  replace hln := Lib.hid hln
  replace hs2 := Lib.hid hs2
  by_cases hz : n = 0
  · subst hz
    obtain rfl : l = [] := List.length_eq_zero_iff.1 hn
    obtain rfl : p = 0 := by omega
    clear hs1 hs2 hnc hl1 hl2
    replace hs := Lib.hid hs
    replace hn := Lib.hid hn
    cases a with
    | none =>
      go_enter Try.func32, Try.ntmps32
      go_wp2_with (first
        | (go_at_call 25; (with_reducible refine (cH.out _ hs.out).mono ?_); rintro _ _ ⟨rfl, rfl⟩)
        | (go_at_call 28; (with_reducible refine (cP.out _ (hS.sl hs.out)).mono ?_); rintro _ _ ⟨rfl, rfl⟩)
        | ((with_reducible refine wpList_build0_st hS rfl rfl Try.underlying22 elem_i ?_); intro g1 w3 hS1; clear hS; have hS := hS1; clear hS1)
        | ((with_reducible refine wpList_build1c_st hS rfl rfl Try.underlying22 elem_i rfl ?_); intro g3 w3 hS1; clear hS; have hS := hS1; clear hS1)
        | (at_builtin; (with_reducible refine wpList_app_st 1 hS rfl rfl rfl Try.underlying22 elem_i rfl (Src.slice Try.underlying22 (hS.blksl 0 rfl) rfl) rfl (vi_one [id]) (by omega) (by unfold maxLen; omega) ?_); intro v5 w3 hS1; clear hS; have hS := hS1.drop; clear hS1; obtain ⟨a6, c6, rfl, -⟩ := hS.row 0 rfl)
        | (at_builtin; (with_reducible refine wpList_app_st 0 hS rfl rfl rfl Try.underlying22 elem_i rfl (Src.slice Try.underlying22 (Sl.nil _ _) (by simp)) rfl nil_one (by omega) (by unfold maxLen; omega) ?_); intro v5 w3 hS1; clear hS; simp only [List.set_cons_zero, Nat.zero_add, List.nil_append] at hS1; have hS := hS1; clear hS1; obtain ⟨a5, c5, rfl, -⟩ := hS.row 0 rfl)
        | (at_builtin; (with_reducible refine wpList_app_st 0 hS rfl rfl rfl Try.underlying22 elem_i rfl (Src.slice Try.underlying22 (Sl.nil _ _) (by simp)) rfl nil_one (by omega) (by unfold maxLen; omega) ?_); intro v5 w3 hS1; clear hS; have hS := hS1; clear hS1; obtain ⟨a7, c7, rfl, -⟩ := hS.row 0 rfl))
      go_ret
      have r := intsRet_mk hS (l := ([] : List Int).take 0 ++ id :: ([] : List Int).drop 0) (by simp) (by simp)
      exact r
    | some ad =>
      obtain ⟨b, off, spot⟩ := ad
      go_enter Try.func32, Try.ntmps32
      go_wp2_with (first
        | (go_at_call 25; (with_reducible refine (cH.out _ hs.out).mono ?_); rintro _ _ ⟨rfl, rfl⟩)
        | (go_at_call 28; (with_reducible refine (cP.out _ (hS.sl hs.out)).mono ?_); rintro _ _ ⟨rfl, rfl⟩)
        | ((with_reducible refine wpList_build0_st hS rfl rfl Try.underlying22 elem_i ?_); intro g1 w3 hS1; clear hS; have hS := hS1; clear hS1)
        | ((with_reducible refine wpList_build1c_st hS rfl rfl Try.underlying22 elem_i rfl ?_); intro g3 w3 hS1; clear hS; have hS := hS1; clear hS1)
        | (at_builtin; (with_reducible refine wpList_app_st 1 hS rfl rfl rfl Try.underlying22 elem_i rfl (Src.slice Try.underlying22 (hS.blksl 0 rfl) rfl) rfl (vi_one [id]) (by omega) (by unfold maxLen; omega) ?_); intro v5 w3 hS1; clear hS; have hS := hS1.drop; clear hS1; obtain ⟨a6, c6, rfl, -⟩ := hS.row 0 rfl)
        | (at_builtin; (with_reducible refine wpList_app_st 0 hS rfl rfl rfl Try.underlying22 elem_i rfl (Src.slice Try.underlying22 (Sl.nil _ _) (by simp)) rfl nil_one (by omega) (by unfold maxLen; omega) ?_); intro v5 w3 hS1; clear hS; simp only [List.set_cons_zero, Nat.zero_add, List.nil_append] at hS1; have hS := hS1; clear hS1; obtain ⟨a5, c5, rfl, -⟩ := hS.row 0 rfl)
        | (at_builtin; (with_reducible refine wpList_app_st 0 hS rfl rfl rfl Try.underlying22 elem_i rfl (Src.slice Try.underlying22 (Sl.nil _ _) (by simp)) rfl nil_one (by omega) (by unfold maxLen; omega) ?_); intro v5 w3 hS1; clear hS; have hS := hS1; clear hS1; obtain ⟨a7, c7, rfl, -⟩ := hS.row 0 rfl))
      go_ret
      have r := intsRet_mk hS (l := ([] : List Int).take 0 ++ id :: ([] : List Int).drop 0) (by simp) (by simp)
      exact r
  · obtain ⟨b, off, rfl⟩ := hs.cells (by intro e; rw [← hn] at hz; simp at e; simp [e] at hz)
    replace hs2 := hs2.out b off rfl
    by_cases hcp : cap = p
    · subst hcp
      obtain rfl : n = cap := by omega
      have hdn : l.drop n = [] := List.drop_of_length_le (by omega)
      rw [hdn] at hfin hln ⊢
      clear hl2
      replace hs := Lib.hid hs
      replace hn := Lib.hid hn
      replace hz := Lib.hid hz
      clear hs2 hdn
      go_enter Try.func32, Try.ntmps32
      go_wp2_with (first
        | (go_at_call 25; (with_reducible refine (cH.out _ hs.out).mono ?_); rintro _ _ ⟨rfl, rfl⟩)
        | (go_at_call 28; (with_reducible refine (cP.out _ (hS.sl hs.out)).mono ?_); rintro _ _ ⟨rfl, rfl⟩)
        | ((with_reducible refine wpList_build0_st hS rfl rfl Try.underlying22 elem_i ?_); intro g1 w3 hS1; clear hS; have hS := hS1; clear hS1)
        | ((with_reducible refine wpList_build1c_st hS rfl rfl Try.underlying22 elem_i rfl ?_); intro g3 w3 hS1; clear hS; have hS := hS1; clear hS1)
        | (at_builtin; (with_reducible refine wpList_app_st 1 hS rfl rfl rfl Try.underlying22 elem_i rfl (Src.slice Try.underlying22 (hS.blksl 0 rfl) rfl) rfl (vi_one [id]) (by omega) (by unfold maxLen; omega) ?_); intro v5 w3 hS1; clear hS; have hS := hS1.drop; clear hS1; obtain ⟨a6, c6, rfl, -⟩ := hS.row 0 rfl)
        | (at_builtin; (with_reducible refine wpList_app_st 0 hS rfl rfl rfl Try.underlying22 elem_i rfl (Src.slice Try.underlying22 (hS.sl hs1.out) hl1.out) rfl (vi_one _) (by omega) (by unfold maxLen; omega) ?_); intro v5 w3 hS1; clear hS; simp only [List.set_cons_zero, Nat.zero_add, List.nil_append] at hS1; have hS := hS1; clear hS1; obtain ⟨a5, c5, rfl, -⟩ := hS.row 0 rfl)
        | (at_builtin; (with_reducible refine wpList_app_st 0 hS rfl rfl rfl Try.underlying22 elem_i rfl (Src.slice Try.underlying22 (Sl.nil _ _) (by simp)) rfl nil_one (by omega) (by unfold maxLen; omega) ?_); intro v5 w3 hS1; clear hS; have hS := hS1; clear hS1; obtain ⟨a7, c7, rfl, -⟩ := hS.row 0 rfl))
      go_ret
      have r := intsRet_mk hS (l := l.take n ++ id :: []) (by simp) (by have := hln.out; omega)
      exact r
    · replace hs2 := Lib.hid hs2
      replace hs := Lib.hid hs
      replace hn := Lib.hid hn
      replace hz := Lib.hid hz
      go_enter Try.func32, Try.ntmps32
      go_wp2_with (first
        | (go_at_call 25; (with_reducible refine (cH.out _ hs.out).mono ?_); rintro _ _ ⟨rfl, rfl⟩)
        | (go_at_call 28; (with_reducible refine (cP.out _ (hS.sl hs.out)).mono ?_); rintro _ _ ⟨rfl, rfl⟩)
        | ((with_reducible refine wpList_build0_st hS rfl rfl Try.underlying22 elem_i ?_); intro g1 w3 hS1; clear hS; have hS := hS1; clear hS1)
        | ((with_reducible refine wpList_build1c_st hS rfl rfl Try.underlying22 elem_i rfl ?_); intro g3 w3 hS1; clear hS; have hS := hS1; clear hS1)
        | (at_builtin; (with_reducible refine wpList_app_st 1 hS rfl rfl rfl Try.underlying22 elem_i rfl (Src.slice Try.underlying22 (hS.blksl 0 rfl) rfl) rfl (vi_one [id]) (by omega) (by unfold maxLen; omega) ?_); intro v5 w3 hS1; clear hS; have hS := hS1.drop; clear hS1; obtain ⟨a6, c6, rfl, -⟩ := hS.row 0 rfl)
        | (at_builtin; (with_reducible refine wpList_app_st 0 hS rfl rfl rfl Try.underlying22 elem_i rfl (Src.slice Try.underlying22 (hS.sl hs1.out) hl1.out) rfl (vi_one _) (by omega) (by unfold maxLen; omega) ?_); intro v5 w3 hS1; clear hS; simp only [List.set_cons_zero, Nat.zero_add, List.nil_append] at hS1; have hS := hS1; clear hS1; obtain ⟨a5, c5, rfl, -⟩ := hS.row 0 rfl)
        | (at_builtin; (with_reducible refine wpList_app_st 0 hS rfl rfl rfl Try.underlying22 elem_i rfl (Src.slice Try.underlying22 (hS.sl hs2.out) hl2.out) rfl (vi_one _) (by omega) (by unfold maxLen; omega) ?_); intro v5 w3 hS1; clear hS; have hS := hS1; clear hS1; obtain ⟨a7, c7, rfl, -⟩ := hS.row 0 rfl))
      go_ret
      have r := intsRet_mk hS (l := l.take p ++ id :: l.drop p) (by rw [← hfin.out]; simp) hln.out
      exact r

theorem rput_any (a : Option Addr) (l : List Int) (n cap : Nat) (id : Int) (w : World) (hs : Sl w a (l.map vi)) (hn : l.length = n) (hm : n ≤ 100000) (hnc : n ≤ cap) :
    Calls Try.prog 32 #[.slice a n cap, .int .i64 id] w (IntsRet (Ids.put l id) w) := by
  by_cases h : id < 1 ∨ 1073741824 ≤ id ∨ Ids.has l id = true
  · rw [show Ids.put l id = l by unfold Ids.put; rw [if_pos h]]
    exact rput_same a l n cap id w hs hn hm h
  · rw [show Ids.put l id = l.take (Ids.place l id) ++ id :: l.drop (Ids.place l id) by unfold Ids.put; rw [if_neg h]]
    have h3 : Ids.has l id = false := by
      cases e : Ids.has l id with
      | false => rfl
      | true => exact absurd (.inr (.inr e)) h
    exact rput_new a l n cap id w hs hn hm hnc (by omega) (by omega) h3

theorem foldl_put_length (b : List Int) : ∀ a : List Int, (b.foldl Ids.put a).length ≤ a.length + b.length := by
  induction b with
  | nil => intro a; simp
  | cons x b ih =>
    intro a
    have h1 := ih (Ids.put a x)
    have h2 := Ids.put_length a x
    rw [List.foldl_cons, List.length_cons]
    omega

theorem reither_any (a b : Option Addr) (l m : List Int) (n k cap cap2 : Nat) (w : World) (hs : Sl w a (l.map vi)) (ht : Sl w b (m.map vi)) (hn : l.length = n) (hk : m.length = k) (hm : n ≤ 10000) (hm2 : k ≤ 10000) :
    Calls Try.prog 18 #[.slice a n cap, .slice b k cap2] w (IntsRet (Ids.either l m) w) := by
  have ez := elem_i
  have hS := St.start w
  replace hn := Lib.hid hn
  replace hk := Lib.hid hk
  replace hs := Lib.hid hs
  replace ht := Lib.hid ht
  go_enter Try.func18, Try.ntmps18
  go_wp2_with (first
    | ((with_reducible refine wpList_build0_st hS rfl rfl Try.underlying22 elem_i ?_); intro g1 w3 hS1; clear hS; have hS := hS1; clear hS1)
    | (at_builtin; (with_reducible refine wpList_app_st 0 hS rfl rfl rfl Try.underlying22 elem_i rfl (Src.slice Try.underlying22 (hS.sl hs.out) (by simp [hn.out])) rfl (vi_one l) (by omega) (by unfold maxLen; omega) ?_); intro v5 w3 hS1; clear hS; simp only [List.set_cons_zero, Nat.zero_add, List.nil_append] at hS1; have hS := hS1; clear hS1; obtain ⟨a5, c5, rfl, -⟩ := hS.row 0 rfl))
  go_loopg [5, 6] k (fun gk vo vx wr => ∃ (j q : Nat) (ao : Option Addr) (co : Nat), j + gk = k ∧ q ≤ n + j ∧ vx = .int .i64 j ∧ vo = .slice ao q co ∧ Hid (((m.take j).foldl Ids.put l).length = q) ∧ St w [] [Ch.row 3 1 (.slice ao q co) q (((m.take j).foldl Ids.put l).map vi)] wr)
  case atStart => exact ⟨0, n, _, _, Nat.zero_add _, Nat.le_refl _, rfl, rfl, Lib.hid hn.out, hS⟩
  case round =>
    clear hS
    obtain ⟨j, q, ao, co, hj, hq, rfl, rfl, hql, hS⟩ := hrel
    by_cases hlt : j < k
    · obtain ⟨b1, o1, rfl, c1⟩ := sl_int ht.out j (by rw [hk.out]; exact hlt)
      have t1 := Lib.hid (take_snoc_i m j (by rw [hk.out]; exact hlt))
      generalize m[j]'(by rw [hk.out]; exact hlt) = x at c1 t1
      have c2 := hS.old c1 (by simp)
      have hb := Lib.hid (show (m.take (j + 1)).foldl Ids.put l = Ids.put ((m.take j).foldl Ids.put l) x by rw [t1.out, List.foldl_append]; rfl)
      generalize (m.take j).foldl Ids.put l = acc at hb hql hS
      obtain ⟨_, _, e2, hsl, -, hqc, -⟩ := hS.row 0 rfl
      cases e2
      have cX := rput_any ao acc q co x wr hsl hql.out (by omega) hqc
      have hpl := Ids.put_length acc x
      rw [hql.out] at hpl
      clear t1 hsl
      replace cX := Lib.hid cX
      go_wp2_with (go_at_call 32; (with_reducible refine cX.out.mono ?_); rintro _ w3 ⟨a3, c3, rfl, h31, h32, hb3⟩; have hS1 := hS.made hb3; clear hS hb3; have hS := hS1.drop1; clear hS1)
      go_roundg (k - (j + 1))
      case measure => omega
      case rel => exact ⟨j + 1, (Ids.put acc x).length, _, _, by omega, by omega, by go_num, rfl, Lib.hid (by rw [hb.out]), by rw [hb.out]; exact hS⟩
    · obtain rfl : j = k := by omega
      go_wp2_with fail
      go_ret
      have e1 := hql.out
      rw [List.take_of_length_le (by rw [hk.out]; exact Nat.le_refl _)] at e1 hS
      have r := intsRet_mk hS rfl e1
      exact r
end Go.Proofs.Ytplgpbbghhlbjaa
