import Derived.Test.YtneolmnpebiifaaGreatDoorM3
set_option linter.unusedVariables false
set_option linter.unusedSimpArgs false
set_option maxRecDepth 100000
section
namespace Go.Proofs.YtneolmnpebiifaaGreatDoor
open Go.RowKit Go.Ofp
set_option maxHeartbeats 4000000
def vi (x : Int) : Value := .int .i64 x
theorem sl_int {w : World} {a : Option Addr} {l : List Int} (h : Sl w a (l.map vi)) (i : Nat) (hi : i < l.length) :
 ∃ b off, a = some ⟨b, off, none⟩ ∧ w.cell? ⟨b, off + i, none⟩ = some (.int .i64 (l[i])) := by
 obtain ⟨b, off, ha, hc⟩ := h i (by simpa using hi)
 exact ⟨b, off, ha, by simpa [vi] using hc⟩
theorem take_snoc_i (l : List Int) (k : Nat) (h : k < l.length) : l.take (k + 1) = l.take k ++ [l[k]] := by
 rw [List.take_succ_eq_append_getElem h]
theorem rhas_any (a : Option Addr) (l : List Int) (n cap : Nat) (id : Int) (w : World) (hs : Sl w a (l.map vi)) (hn : l.length = n) (hm : n ≤ maxLen) :
 Calls Tryz.prog 52 #[.slice a n cap, .int .i64 id] w fun e w' => e = .returned (.bool (Ids.has l id)) ∧ w = w' := by
 unfold maxLen at hm
 replace hn := Lib.hid hn
 replace hs := Lib.hid hs
 go_enter Tryz.func52, Tryz.ntmps52
 go_wp2
 go_loop [5] (fun i => ∃ k : Nat, k ≤ n ∧ i = .int .i64 k ∧ Hid (Ids.has (l.take k) id = false)) (fun i => n - (intOf i).toNat)
 case atStart => exact ⟨0, Nat.zero_le _, rfl, Lib.hid rfl⟩
 case round =>
  obtain ⟨k, hk, rfl, hr⟩ := hrel
  by_cases hlt : k < n
  · obtain ⟨b, off, rfl, hc⟩ := sl_int hs.out k (by rw [hn.out]; exact hlt)
    have hts := Lib.hid (take_snoc_i l k (by rw [hn.out]; exact hlt))
    have hmem := Lib.hid (List.getElem_mem (l := l) (n := k) (by rw [hn.out]; exact hlt))
    generalize l[k]'(by rw [hn.out]; exact hlt) = x at hc hts hmem
    by_cases hx : x = id
    · subst hx
      go_wp2
      go_ret
      have : Ids.has l x = true := by rw [Ids.has_iff]; exact hmem.out
      exact ⟨by rw [this]; rfl, rfl⟩
    · have hxb : (x == id) = false := by rw [beq_eq_false_iff_ne]; exact hx
      replace hx := Lib.hid hx
      go_wp2
      go_round
      case rel => exact ⟨k + 1, by omega, by go_num, Lib.hid (by
       rw [hts.out]
       have := hr.out
       unfold Ids.has at this ⊢
       rw [List.contains_eq_any_beq, List.any_append, ← List.contains_eq_any_beq, this]
       simp [show (id == x) = false by rw [beq_eq_false_iff_ne]; exact Ne.symm hx.out])⟩
      case measure => simp [intOf]; omega
  · obtain rfl : k = n := by omega
    go_wp2
    go_ret
    have := hr.out
    rw [List.take_of_length_le (by rw [hn.out]; exact Nat.le_refl _)] at this
    exact ⟨by rw [this]; rfl, rfl⟩
theorem rplace_any (a : Option Addr) (l : List Int) (n cap : Nat) (id : Int) (w : World) (hs : Sl w a (l.map vi)) (hn : l.length = n) (hm : n ≤ maxLen) :
 Calls Tryz.prog 181 #[.slice a n cap, .int .i64 id] w fun e w' => e = .returned (.int .i64 (Ids.place l id)) ∧ w = w' := by
 unfold maxLen at hm
 replace hn := Lib.hid hn
 replace hs := Lib.hid hs
 go_enter Tryz.func181, Tryz.ntmps181
 go_wp2
 go_loop [5, 6] (fun m i => ∃ k j : Nat, k ≤ n ∧ j ≤ k ∧ i = .int .i64 k ∧ m = .int .i64 j ∧ Hid (Ids.place (l.take k) id = j)) (fun _ i => n - (intOf i).toNat)
 case atStart => exact ⟨0, 0, Nat.zero_le _, Nat.le_refl _, rfl, rfl, Lib.hid rfl⟩
 case round =>
  obtain ⟨k, j, hk, hj, rfl, rfl, hr⟩ := hrel
  by_cases hlt : k < n
  · obtain ⟨b, off, rfl, hc⟩ := sl_int hs.out k (by rw [hn.out]; exact hlt)
    have hts := Lib.hid (take_snoc_i l k (by rw [hn.out]; exact hlt))
    generalize l[k]'(by rw [hn.out]; exact hlt) = x at hc hts
    have hs2 : Hid (Ids.place (l.take (k + 1)) id = if x < id then j + 1 else j) := Lib.hid (by
     rw [hts.out]
     have := hr.out
     unfold Ids.place at this ⊢
     rw [List.filter_append, List.length_append, this]
     split <;> simp_all)
    clear hts hr
    by_cases hx : x < id
    · go_wp2
      go_round
      case rel => exact ⟨k + 1, j + 1, by omega, by omega, by go_num, by go_num, Lib.hid (by rw [hs2.out, if_pos hx])⟩
      case measure => simp [intOf]; omega
    · have hx2 : id ≤ x := by omega
      go_wp2
      go_round
      case rel => exact ⟨k + 1, j, by omega, by omega, by go_num, by go_num, Lib.hid (by rw [hs2.out, if_neg hx])⟩
      case measure => simp [intOf]; omega
  · obtain rfl : k = n := by omega
    go_wp2
    go_ret
    have := hr.out
    rw [List.take_of_length_le (by rw [hn.out]; exact Nat.le_refl _)] at this
    exact ⟨by rw [this]; rfl, rfl⟩
theorem ints_any (a b : Option Addr) (l m : List Int) (n k cap cap2 : Nat) (w : World) (hs : Sl w a (l.map vi)) (ht : Sl w b (m.map vi)) (hn : l.length = n) (hk : m.length = k) (hm : n ≤ maxLen) (hm2 : k ≤ maxLen) :
 Calls Tryz.prog 81 #[.slice a n cap, .slice b k cap2] w fun e w' => e = .returned (.bool (decide (l = m))) ∧ Below w.heap.size w w' := by
 unfold maxLen at hm hm2
 have hS := St.start w
 by_cases hlen : n = k
 · subst hlen
   replace hn := Lib.hid hn
   replace hk := Lib.hid hk
   replace hs := Lib.hid hs
   replace ht := Lib.hid ht
   go_enter Tryz.func81, Tryz.ntmps81
   go_wp2
   go_loopg [5] n (fun gk vi wr => ∃ j : Nat, j + gk = n ∧ vi = .int .i64 j ∧ Hid (l.take j = m.take j) ∧ St w [] [] wr)
   case atStart => exact ⟨0, Nat.zero_add _, rfl, Lib.hid (by simp), hS⟩
   case round =>
    clear hS
    obtain ⟨j, hj, rfl, hr, hS⟩ := hrel
    by_cases hlt : j < n
    · obtain ⟨b1, o1, rfl, c1⟩ := sl_int hs.out j (by rw [hn.out]; exact hlt)
      obtain ⟨b2, o2, rfl, c2⟩ := sl_int ht.out j (by rw [hk.out]; exact hlt)
      have t1 := Lib.hid (take_snoc_i l j (by rw [hn.out]; exact hlt))
      have t2 := Lib.hid (take_snoc_i m j (by rw [hk.out]; exact hlt))
      have t3 := Lib.hid (show l = m → l[j]'(by rw [hn.out]; exact hlt) = m[j]'(by rw [hk.out]; exact hlt) by intro e; subst e; rfl)
      generalize l[j]'(by rw [hn.out]; exact hlt) = x at c1 t1 t3
      generalize m[j]'(by rw [hk.out]; exact hlt) = y at c2 t2 t3
      have k1 := hS.kold0 c1
      have k2 := hS.kold0 c2
      clear c1 c2
      by_cases hx : x = y
      · subst hx
        go_wp2_with fail
        refine mixs_begin (by kernel_rfl) hS ?_
        clear hS
        intro w2 hS
        refine tk 0 ?_
        refine tk 1 ?_
        refine tk 2 ?_
        refine tk 3 ?_
        refine tk 4 ?_
        refine tk 5 ?_
        refine tk 6 ?_
        refine tk 7 ?_
        refine tk 8 ?_
        refine wpAnyH_done (by kernel_rfl) ?_ _
        clear k1 k2
        go_wp2_with fail
        go_roundg (n - (j + 1))
        case measure => omega
        case rel => exact ⟨j + 1, by omega, by go_num, Lib.hid (by rw [t1.out, t2.out, hr.out]), hS⟩
      · have hxb : (x != y) = true := by simpa using hx
        replace hx := Lib.hid hx
        go_wp2_with fail
        refine mixs_begin (by kernel_rfl) hS ?_
        clear hS
        intro w2 hS
        refine tk 0 ?_
        refine tk 1 ?_
        refine tk 2 ?_
        refine tk 3 ?_
        refine tk 4 ?_
        refine tk 5 ?_
        refine tk 6 ?_
        refine tk 7 ?_
        refine tk 8 ?_
        refine wpAnyH_done (by kernel_rfl) ?_ _
        clear k1 k2
        go_wp2_with fail
        go_ret
        have : decide (l = m) = false := by rw [decide_eq_false_iff_not]; intro e; exact hx.out (t3.out e)
        exact ⟨by rw [this]; rfl, hS.below⟩
    · obtain rfl : j = n := by omega
      go_wp2_with fail
      go_ret
      have e1 := hr.out
      rw [List.take_of_length_le (by rw [hn.out]; exact Nat.le_refl _), List.take_of_length_le (by rw [hk.out]; exact Nat.le_refl _)] at e1
      exact ⟨by rw [decide_eq_true e1]; rfl, hS.below⟩
 · have e : decide (l = m) = false := by rw [decide_eq_false_iff_not]; intro e; subst e; omega
   have hb : ((n : Int) != (k : Int)) = true := by simp; omega
   rw [e]
   clear hlen hn hk e
   go_enter Tryz.func81, Tryz.ntmps81
   go_wp2_with fail
   go_ret
   exact ⟨rfl, hS.below⟩
end Go.Proofs.YtneolmnpebiifaaGreatDoor
end
section
namespace Go.Proofs.YtneolmnpebiifaaGreatDoor
open Go.RowKit Go.Ofp
set_option maxHeartbeats 4000000
theorem elem_i : Elem Tryz.prog 3 (.int .i64 0) 1 8 := Elem.mk (by kernel_rfl) (by rfl) (by decide)
theorem vi_one (l : List Int) : ∀ u ∈ l.map vi, u.oneCell' = true := by
 intro u hu
 obtain ⟨_, _, rfl⟩ := List.mem_map.1 hu
 rfl
def irow (a : Option Addr) (c : Nat) (l : List Int) : Ch := Ch.row 3 1 (.slice a l.length c) l.length (l.map vi)
def IntsRet (l : List Int) (w : World) (e : Ending) (w' : World) : Prop := ∃ a c, e = .returned (.slice a l.length c) ∧ l.length ≤ c ∧ c ≤ maxLen ∧ St w [] [irow a c l] w'
theorem rminus_any (a b : Option Addr) (l m : List Int) (n k cap cap2 : Nat) (w : World) (hs : Sl w a (l.map vi)) (ht : Sl w b (m.map vi)) (hk : m.length = k) (hm2 : k ≤ maxLen) (hn : l.length = n) (hm : n ≤ 100000) :
 Calls Tryz.prog 61 #[.slice a n cap, .slice b k cap2] w (IntsRet (Ids.minus l m) w) := by
 have cH := fun (id : Int) (W : World) hsl => rhas_any b m k cap2 id W hsl hk hm2
 replace cH := Lib.hid cH
 replace ht := Lib.hid ht
 clear hm2
 have ez := elem_i
 have hS := St.start w
 replace hn := Lib.hid hn
 replace hs := Lib.hid hs
 go_enter Tryz.func61, Tryz.ntmps61
 go_wp2_with ((with_reducible refine wpList_build0_st hS rfl rfl Tryz.underlying46 elem_i ?_); clear hS; intro g1 w3 hS)
 go_loopg [5, 6] n (fun gk vo vx wr => ∃ (j q : Nat) (ao : Option Addr) (co : Nat), j + gk = n ∧ q ≤ j ∧ vx = .int .i64 j ∧ vo = .slice ao q co ∧ Hid (q = (Ids.minus (l.take j) m).length) ∧ St w [] [Ch.row 3 1 (.slice ao q co) q ((Ids.minus (l.take j) m).map vi)] wr)
 case atStart => exact ⟨0, 0, _, _, Nat.zero_add _, Nat.le_refl _, rfl, rfl, Lib.hid rfl, hS⟩
 case round =>
  clear hS
  obtain ⟨j, q, ao, co, hj, hq, rfl, rfl, hql, hS⟩ := hrel
  by_cases hlt : j < n
  · obtain ⟨b1, o1, rfl, c1⟩ := sl_int hs.out j (by rw [hn.out]; exact hlt)
    have t1 := Lib.hid (take_snoc_i l j (by rw [hn.out]; exact hlt))
    generalize l[j]'(by rw [hn.out]; exact hlt) = x at c1 t1
    have c2 := hS.old c1 (by simp)
    have hb := Lib.hid (show Ids.minus (l.take (j + 1)) m = Ids.minus (l.take j) m ++ Ids.takes (!Ids.has m x) x by rw [t1.out]; unfold Ids.minus; rw [List.filter_append]; congr 1; simp [List.filter_cons, Ids.takes])
    have cX := cH.out x wr (hS.sl ht.out)
    generalize Ids.has m x = hx at cX hb
    replace cX := Lib.hid cX
    clear t1
    rcases Bool.eq_false_or_eq_true hx |>.symm with rfl | rfl
    · replace hb := Lib.hid (show Ids.minus (l.take (j + 1)) m = Ids.minus (l.take j) m ++ [x] from hb.out)
      go_wp2_with (first | (go_at_call 52; (with_reducible refine cX.out.mono ?_); rintro _ _ ⟨rfl, rfl⟩) | ((with_reducible refine wpList_build1c_st hS rfl rfl Tryz.underlying46 elem_i rfl ?_); clear hS; intro g3 w3 hS) | (at_builtin; (with_reducible refine wpList_app_st 1 hS rfl rfl rfl Tryz.underlying46 elem_i rfl (Src.slice Tryz.underlying46 (hS.blksl 0 rfl) rfl) rfl (vi_one [x]) (by omega) (by unfold maxLen; omega) ?_); intro v5 w3 hS1; clear hS; have hS := hS1.drop; clear hS1; obtain ⟨a5, c5, rfl, -⟩ := hS.row 0 rfl))
      go_roundg (n - (j + 1))
      case measure => omega
      case rel => exact ⟨j + 1, q + 1, _, _, by omega, by omega, by go_num, rfl, Lib.hid (by rw [hb.out, hql.out]; simp), by rw [hb.out, List.map_append]; exact hS⟩
    · replace hb := Lib.hid (show Ids.minus (l.take (j + 1)) m = Ids.minus (l.take j) m from hb.out.trans (List.append_nil _))
      go_wp2_with ((go_at_call 52; (with_reducible refine cX.out.mono ?_); rintro _ _ ⟨rfl, rfl⟩))
      go_roundg (n - (j + 1))
      case measure => omega
      case rel => exact ⟨j + 1, q, _, _, by omega, by omega, by go_num, rfl, Lib.hid (by rw [hb.out, hql.out]), by rw [hb.out]; exact hS⟩
  · obtain rfl : j = n := by omega
    go_wp2_with fail
    go_ret
    have e1 := hql.out
    obtain ⟨_, _, e2, -, -, h1, h2⟩ := hS.row 0 rfl
    cases e2
    rw [List.take_of_length_le (by rw [hn.out]; exact Nat.le_refl _)] at e1 hS
    subst e1
    exact ⟨_, _, rfl, h1, h2, hS⟩
end Go.Proofs.YtneolmnpebiifaaGreatDoor
end
section
namespace Go.Proofs.YtneolmnpebiifaaGreatDoor
open Go.RowKit Go.Ofp
set_option maxHeartbeats 4000000
theorem place_le (l : List Int) (id : Int) : Ids.place l id ≤ l.length := List.length_filter_le _ _
theorem intsRet_mk {w w' : World} {a : Option Addr} {c n : Nat} {l : List Int} {xs : List Value} (h : St w [] [Ch.row 3 1 (.slice a n c) n xs] w') (hx : xs = l.map vi) (hn : l.length = n) : IntsRet l w (.returned (.slice a n c)) w' := by
 subst hx hn
 obtain ⟨_, _, e2, -, -, h1, h2⟩ := h.row 0 rfl
 cases e2
 exact ⟨_, _, rfl, h1, h2, h⟩
theorem nil_one : ∀ u ∈ ([] : List Value), u.oneCell' = true := by simp
theorem rput_same (a : Option Addr) (l : List Int) (n cap : Nat) (id : Int) (w : World) (hs : Sl w a (l.map vi)) (hn : l.length = n) (hm : n ≤ 100000) (h : id < 1 ∨ 1073741824 ≤ id ∨ Ids.has l id = true) :
 Calls Tryz.prog 162 #[.slice a n cap, .int .i64 id] w (IntsRet l w) := by
 have cH := fun (W : World) hsl => rhas_any a l n cap id W hsl hn (by unfold maxLen; omega)
 have ez := elem_i
 have hS := St.start w
 generalize hx : Ids.has l id = hb at cH h
 replace cH := Lib.hid cH
 replace hx := Lib.hid hx
 replace hn := Lib.hid hn
 replace hs := Lib.hid hs
 have key : id < 1 ∨ (1 ≤ id ∧ 1073741824 ≤ id) ∨ ((1 ≤ id ∧ id < 1073741824) ∧ hb = true) := by
  rcases h with h | h | h
  · exact .inl h
  · exact .inr (.inl ⟨by omega, h⟩)
  · by_cases k1 : id < 1
    · exact .inl k1
    · by_cases k2 : 1073741824 ≤ id
      · exact .inr (.inl ⟨by omega, k2⟩)
      · exact .inr (.inr ⟨⟨by omega, by omega⟩, h⟩)
 clear h
 rcases key with h | ⟨h1, h2⟩ | ⟨⟨h1, h2⟩, rfl⟩
 all_goals
  go_enter Tryz.func162, Tryz.ntmps162
  go_wp2_with (first | (go_at_call 52; (with_reducible refine (cH.out _ hs.out).mono ?_); rintro _ _ ⟨rfl, rfl⟩) | ((with_reducible refine wpList_build0_st hS rfl rfl Tryz.underlying46 elem_i ?_); clear hS; intro g1 w3 hS) | (at_builtin; (with_reducible refine wpList_app_st 0 hS rfl rfl rfl Tryz.underlying46 elem_i rfl (Src.slice Tryz.underlying46 (hS.sl hs.out) (by simp [hn.out])) rfl (vi_one l) (by omega) (by unfold maxLen; omega) ?_); intro v5 w3 hS1; clear hS; simp only [List.set_cons_zero, Nat.zero_add, List.nil_append] at hS1; have hS := hS1; clear hS1; obtain ⟨a5, c5, rfl, -⟩ := hS.row 0 rfl))
  go_ret
  have e1 := hn.out
  obtain ⟨_, _, e2, -, -, h1, h2⟩ := hS.row 0 rfl
  cases e2
  subst e1
  exact ⟨_, _, rfl, h1, h2, hS⟩
theorem rput_new (a : Option Addr) (l : List Int) (n cap : Nat) (id : Int) (w : World) (hs : Sl w a (l.map vi)) (hn : l.length = n) (hm : n ≤ 100000) (hnc : n ≤ cap) (h1 : 1 ≤ id) (h2 : id < 1073741824) (h3 : Ids.has l id = false) :
 Calls Tryz.prog 162 #[.slice a n cap, .int .i64 id] w (IntsRet (l.take (Ids.place l id) ++ id :: l.drop (Ids.place l id)) w) := by
 have cH := fun (W : World) hsl => rhas_any a l n cap id W hsl hn (by unfold maxLen; omega)
 have cP := fun (W : World) hsl => rplace_any a l n cap id W hsl hn (by unfold maxLen; omega)
 have ez := elem_i
 have hS := St.start w
 rw [h3] at cH
 have hp := place_le l id
 rw [hn] at hp
 generalize Ids.place l id = p at cP hp ⊢
 have hs1 : Sl w a ((l.take p).map vi) := by rw [List.map_take]; exact hs.take p
 have hl1 : ((l.take p).map vi).length = p * 1 := by simp; omega
 replace cH := Lib.hid cH
 replace cP := Lib.hid cP
 replace h3 := Lib.hid h3
 replace hs1 := Lib.hid hs1
 replace hl1 := Lib.hid hl1
 have hs2 : ∀ b off, a = some ⟨b, off, none⟩ → Sl w (some ⟨b, off + p, none⟩) ((l.drop p).map vi) := by
  rintro b off rfl
  have := hs.drop p
  rwa [← List.map_drop] at this
 have hl2 : ((l.drop p).map vi).length = (n - p) * 1 := by simp; omega
 have hfin : l.take p ++ [id] ++ l.drop p = l.take p ++ id :: l.drop p := by simp
 have hln : (l.take p ++ id :: l.drop p).length = p + 1 + (n - p) := by simp; omega
 replace hl2 := Lib.hid hl2
 replace hfin := Lib.hid hfin
 replace hln := Lib.hid hln
 replace hs2 := Lib.hid hs2
 by_cases hz : n = 0
 · subst hz
   obtain rfl : l = [] := List.length_eq_zero_iff.1 hn
   obtain rfl : p = 0 := by omega
   clear hs1 hs2 hnc hl1 hl2
   replace hs := Lib.hid hs
   replace hn := Lib.hid hn
   cases a with
   | none =>
    go_enter Tryz.func162, Tryz.ntmps162
    go_wp2_with (first | (go_at_call 52; (with_reducible refine (cH.out _ hs.out).mono ?_); rintro _ _ ⟨rfl, rfl⟩) | (go_at_call 181; (with_reducible refine (cP.out _ (hS.sl hs.out)).mono ?_); rintro _ _ ⟨rfl, rfl⟩) | ((with_reducible refine wpList_build0_st hS rfl rfl Tryz.underlying46 elem_i ?_); clear hS; intro g1 w3 hS) | ((with_reducible refine wpList_build1c_st hS rfl rfl Tryz.underlying46 elem_i rfl ?_); clear hS; intro g3 w3 hS) | (at_builtin; (with_reducible refine wpList_app_st 1 hS rfl rfl rfl Tryz.underlying46 elem_i rfl (Src.slice Tryz.underlying46 (hS.blksl 0 rfl) rfl) rfl (vi_one [id]) (by omega) (by unfold maxLen; omega) ?_); intro v5 w3 hS1; clear hS; have hS := hS1.drop; clear hS1; obtain ⟨a6, c6, rfl, -⟩ := hS.row 0 rfl) | (at_builtin; (with_reducible refine wpList_app_st 0 hS rfl rfl rfl Tryz.underlying46 elem_i rfl (Src.slice Tryz.underlying46 (Sl.nil _ _) (by simp)) rfl nil_one (by omega) (by unfold maxLen; omega) ?_); intro v5 w3 hS1; clear hS; simp only [List.set_cons_zero, Nat.zero_add, List.nil_append] at hS1; have hS := hS1; clear hS1; obtain ⟨a5, c5, rfl, -⟩ := hS.row 0 rfl))
    go_ret
    have r := intsRet_mk hS (l := ([] : List Int).take 0 ++ id :: ([] : List Int).drop 0) (by simp) (by simp)
    exact r
   | some ad =>
    obtain ⟨b, off, spot⟩ := ad
    go_enter Tryz.func162, Tryz.ntmps162
    go_wp2_with (first | (go_at_call 52; (with_reducible refine (cH.out _ hs.out).mono ?_); rintro _ _ ⟨rfl, rfl⟩) | (go_at_call 181; (with_reducible refine (cP.out _ (hS.sl hs.out)).mono ?_); rintro _ _ ⟨rfl, rfl⟩) | ((with_reducible refine wpList_build0_st hS rfl rfl Tryz.underlying46 elem_i ?_); clear hS; intro g1 w3 hS) | ((with_reducible refine wpList_build1c_st hS rfl rfl Tryz.underlying46 elem_i rfl ?_); clear hS; intro g3 w3 hS) | (at_builtin; (with_reducible refine wpList_app_st 1 hS rfl rfl rfl Tryz.underlying46 elem_i rfl (Src.slice Tryz.underlying46 (hS.blksl 0 rfl) rfl) rfl (vi_one [id]) (by omega) (by unfold maxLen; omega) ?_); intro v5 w3 hS1; clear hS; have hS := hS1.drop; clear hS1; obtain ⟨a6, c6, rfl, -⟩ := hS.row 0 rfl) | (at_builtin; (with_reducible refine wpList_app_st 0 hS rfl rfl rfl Tryz.underlying46 elem_i rfl (Src.slice Tryz.underlying46 (Sl.nil _ _) (by simp)) rfl nil_one (by omega) (by unfold maxLen; omega) ?_); intro v5 w3 hS1; clear hS; simp only [List.set_cons_zero, Nat.zero_add, List.nil_append] at hS1; have hS := hS1; clear hS1; obtain ⟨a5, c5, rfl, -⟩ := hS.row 0 rfl))
    go_ret
    have r := intsRet_mk hS (l := ([] : List Int).take 0 ++ id :: ([] : List Int).drop 0) (by simp) (by simp)
    exact r
 · obtain ⟨b, off, rfl⟩ := hs.cells (by intro e; rw [← hn] at hz; simp at e; simp [e] at hz)
   replace hs2 := hs2.out b off rfl
   by_cases hcp : cap = p
   · subst hcp
     obtain rfl : n = cap := by omega
     have hdn : l.drop n = [] := List.drop_of_length_le (by omega)
     rw [hdn] at hfin hln ⊢
     clear hl2
     replace hs := Lib.hid hs
     replace hn := Lib.hid hn
     replace hz := Lib.hid hz
     clear hs2 hdn
     go_enter Tryz.func162, Tryz.ntmps162
     go_wp2_with (first | (go_at_call 52; (with_reducible refine (cH.out _ hs.out).mono ?_); rintro _ _ ⟨rfl, rfl⟩) | (go_at_call 181; (with_reducible refine (cP.out _ (hS.sl hs.out)).mono ?_); rintro _ _ ⟨rfl, rfl⟩) | ((with_reducible refine wpList_build0_st hS rfl rfl Tryz.underlying46 elem_i ?_); clear hS; intro g1 w3 hS) | ((with_reducible refine wpList_build1c_st hS rfl rfl Tryz.underlying46 elem_i rfl ?_); clear hS; intro g3 w3 hS) | (at_builtin; (with_reducible refine wpList_app_st 1 hS rfl rfl rfl Tryz.underlying46 elem_i rfl (Src.slice Tryz.underlying46 (hS.blksl 0 rfl) rfl) rfl (vi_one [id]) (by omega) (by unfold maxLen; omega) ?_); intro v5 w3 hS1; clear hS; have hS := hS1.drop; clear hS1; obtain ⟨a6, c6, rfl, -⟩ := hS.row 0 rfl) | (at_builtin; (with_reducible refine wpList_app_st 0 hS rfl rfl rfl Tryz.underlying46 elem_i rfl (Src.slice Tryz.underlying46 (hS.sl hs1.out) hl1.out) rfl (vi_one _) (by omega) (by unfold maxLen; omega) ?_); intro v5 w3 hS1; clear hS; simp only [List.set_cons_zero, Nat.zero_add, List.nil_append] at hS1; have hS := hS1; clear hS1; obtain ⟨a5, c5, rfl, -⟩ := hS.row 0 rfl) | (at_builtin; (with_reducible refine wpList_app_st 0 hS rfl rfl rfl Tryz.underlying46 elem_i rfl (Src.slice Tryz.underlying46 (Sl.nil _ _) (by simp)) rfl nil_one (by omega) (by unfold maxLen; omega) ?_); clear hS; intro v5 w3 hS; obtain ⟨a7, c7, rfl, -⟩ := hS.row 0 rfl))
     go_ret
     have r := intsRet_mk hS (l := l.take n ++ id :: []) (by simp) (by have := hln.out; omega)
     exact r
   · replace hs2 := Lib.hid hs2
     replace hs := Lib.hid hs
     replace hn := Lib.hid hn
     replace hz := Lib.hid hz
     go_enter Tryz.func162, Tryz.ntmps162
     go_wp2_with (first | (go_at_call 52; (with_reducible refine (cH.out _ hs.out).mono ?_); rintro _ _ ⟨rfl, rfl⟩) | (go_at_call 181; (with_reducible refine (cP.out _ (hS.sl hs.out)).mono ?_); rintro _ _ ⟨rfl, rfl⟩) | ((with_reducible refine wpList_build0_st hS rfl rfl Tryz.underlying46 elem_i ?_); clear hS; intro g1 w3 hS) | ((with_reducible refine wpList_build1c_st hS rfl rfl Tryz.underlying46 elem_i rfl ?_); clear hS; intro g3 w3 hS) | (at_builtin; (with_reducible refine wpList_app_st 1 hS rfl rfl rfl Tryz.underlying46 elem_i rfl (Src.slice Tryz.underlying46 (hS.blksl 0 rfl) rfl) rfl (vi_one [id]) (by omega) (by unfold maxLen; omega) ?_); intro v5 w3 hS1; clear hS; have hS := hS1.drop; clear hS1; obtain ⟨a6, c6, rfl, -⟩ := hS.row 0 rfl) | (at_builtin; (with_reducible refine wpList_app_st 0 hS rfl rfl rfl Tryz.underlying46 elem_i rfl (Src.slice Tryz.underlying46 (hS.sl hs1.out) hl1.out) rfl (vi_one _) (by omega) (by unfold maxLen; omega) ?_); intro v5 w3 hS1; clear hS; simp only [List.set_cons_zero, Nat.zero_add, List.nil_append] at hS1; have hS := hS1; clear hS1; obtain ⟨a5, c5, rfl, -⟩ := hS.row 0 rfl) | (at_builtin; (with_reducible refine wpList_app_st 0 hS rfl rfl rfl Tryz.underlying46 elem_i rfl (Src.slice Tryz.underlying46 (hS.sl hs2.out) hl2.out) rfl (vi_one _) (by omega) (by unfold maxLen; omega) ?_); clear hS; intro v5 w3 hS; obtain ⟨a7, c7, rfl, -⟩ := hS.row 0 rfl))
     go_ret
     have r := intsRet_mk hS (l := l.take p ++ id :: l.drop p) (by rw [← hfin.out]; simp) hln.out
     exact r
theorem rput_any (a : Option Addr) (l : List Int) (n cap : Nat) (id : Int) (w : World) (hs : Sl w a (l.map vi)) (hn : l.length = n) (hm : n ≤ 100000) (hnc : n ≤ cap) :
 Calls Tryz.prog 162 #[.slice a n cap, .int .i64 id] w (IntsRet (Ids.put l id) w) := by
 by_cases h : id < 1 ∨ 1073741824 ≤ id ∨ Ids.has l id = true
 · rw [show Ids.put l id = l by unfold Ids.put; rw [if_pos h]]
   exact rput_same a l n cap id w hs hn hm h
 · rw [show Ids.put l id = l.take (Ids.place l id) ++ id :: l.drop (Ids.place l id) by unfold Ids.put; rw [if_neg h]]
   have h3 : Ids.has l id = false := by
    cases e : Ids.has l id with
    | false => rfl
    | true => exact absurd (.inr (.inr e)) h
   exact rput_new a l n cap id w hs hn hm hnc (by omega) (by omega) h3
end Go.Proofs.YtneolmnpebiifaaGreatDoor
end
section
namespace Go.Ofp.Ids
theorem along_nil_right (kl kb kr : Bool) (a : List Int) : along kl kb kr a [] = takeAll kl a := by
 cases a with
 | nil => rw [along]; cases kl <;> cases kr <;> rfl
 | cons x a => rw [along]
theorem along_nil_left (kl kb kr : Bool) (b : List Int) : along kl kb kr [] b = takeAll kr b := by rw [along]
theorem takeAll_cons (k : Bool) (x : Int) (a : List Int) : takeAll k (x :: a) = takes k x ++ takeAll k a := by cases k <;> rfl
theorem takeAll_nil (k : Bool) : takeAll k [] = [] := by cases k <;> rfl
theorem along_lt (kl kb kr : Bool) (x y : Int) (a b : List Int) (h : x < y) : along kl kb kr (x :: a) (y :: b) = takes kl x ++ along kl kb kr a (y :: b) := by rw [along, if_pos h]
theorem along_gt (kl kb kr : Bool) (x y : Int) (a b : List Int) (h : y < x) : along kl kb kr (x :: a) (y :: b) = takes kr y ++ along kl kb kr (x :: a) b := by rw [along, if_neg (by omega), if_pos h]
theorem along_eq (kl kb kr : Bool) (x : Int) (a b : List Int) : along kl kb kr (x :: a) (x :: b) = takes kb x ++ along kl kb kr a b := by rw [along, if_neg (by omega), if_neg (by omega)]
theorem takes_len (k : Bool) (x : Int) : (takes k x).length = if k then 1 else 0 := by cases k <;> rfl
end Go.Ofp.Ids
namespace Go.Proofs.YtneolmnpebiifaaGreatDoor
open Go.RowKit Go.Ofp
set_option maxHeartbeats 4000000
def outs (g : Nat) (a : Option Addr) (c : Nat) (l : List Int) : List Ch := [Ch.blk g 46 #[.slice a l.length c], irow a c l]
theorem take_any (g : Nat) (a : Option Addr) (c : Nat) (l : List Int) (x : Int) (is : Bool) (w : World) (h : St w (feet (outs g a c l)) (outs g a c l) w) (hl : l.length ≤ 100000) :
 Calls Tryz.prog 143 #[.int .i64 x, .bool is, .pointer (some ⟨g, 0, none⟩)] w fun e w' => e = .returned (.tuple #[]) ∧ ∃ a' c', St w (feet (outs g a c l)) (outs g a' c' (l ++ Ids.takes is x)) w' := by
 generalize feet (outs g a c l) = F at h ⊢
 have hS := h
 clear h
 cases is with
 | false =>
  replace hS := Lib.hid hS
  go_enter Tryz.func143, Tryz.ntmps143
  go_wp2_with fail
  exact bodyPost_end (results_none rfl _ _ _) rfl ⟨rfl, a, c, by rw [show l ++ Ids.takes false x = l from List.append_nil l]; exact hS.out⟩
 | true =>
  unfold outs irow at hS
  have hfin : ∀ (a' : Option Addr) (c' : Nat), outs g a' c' (l ++ Ids.takes true x) = [Ch.blk g 46 #[.slice a' (l.length + 1) c'], Ch.row 3 1 (.slice a' (l.length + 1) c') (l.length + 1) (l.map vi ++ [x].map vi)] := by
   intro a' c'
   simp [outs, irow, Ids.takes]
  generalize l.length = n at hS hl hfin
  replace hfin := Lib.hid hfin
  go_enter Tryz.func143, Tryz.ntmps143
  go_wp2_with (first | (with_reducible refine ld 0 hS rfl rfl rfl rfl rfl ?_) | (with_reducible refine sto 1 hS rfl rfl rfl rfl rfl rfl ?_; clear hS; intro w1 hS) | ((with_reducible refine wpList_build1c_st hS rfl rfl Tryz.underlying46 elem_i rfl ?_); clear hS; intro g3 w3 hS) | (at_builtin; (with_reducible refine wpList_app_st 2 hS rfl rfl rfl Tryz.underlying46 elem_i rfl (Src.slice Tryz.underlying46 (hS.blksl 0 rfl) rfl) rfl (vi_one [x]) (by omega) (by unfold maxLen; omega) ?_); intro v5 w3 hS1; clear hS; simp only [List.set_cons_zero, List.set_cons_succ] at hS1; obtain ⟨a6, c6, rfl, -⟩ := hS1.row 2 rfl; have hS := hS1; clear hS1))
  refine bodyPost_end (results_none rfl _ _ _) rfl ⟨rfl, a6, c6, ?_⟩
  rw [hfin.out]
  exact hS.drop
theorem elem_is : Elem Tryz.prog 46 (.slice none 0 0) 1 24 := Elem.mk (by kernel_rfl) (by rfl) (by decide)
theorem along_any (a b : Option Addr) (l m : List Int) (n k cap cap2 : Nat) (kl kb kr : Bool) (w : World) (hs : Sl w a (l.map vi)) (ht : Sl w b (m.map vi)) (hn : l.length = n) (hk : m.length = k) (hm : n ≤ 10000) (hm2 : k ≤ 10000) :
 Calls Tryz.prog 100 #[.slice a n cap, .slice b k cap2, .agg #[.bool kl, .bool kb, .bool kr]] w (IntsRet (Ids.along kl kb kr l m) w) := by
 have es := elem_is
 have hS := St.start w
 have hmf : ∀ (fn : Fn) (first cap : Array Value) (w : World), (Instr.makeFunc fn first cap).run Tryz.prog w = .ok (.func fn first cap) w := fun _ _ _ _ => rfl
 have hln : (Ids.along kl kb kr l m).length ≤ n + k := by have := Ids.along_len_le kl kb kr l m; omega
 replace hn := Lib.hid hn
 replace hk := Lib.hid hk
 replace hs := Lib.hid hs
 replace ht := Lib.hid ht
 go_enter Tryz.func100, Tryz.ntmps100
 go_wp2_with (first | (with_reducible refine wpList_box_st hS rfl rfl rfl ?_; clear hS; intro g1 w1 hS) | (with_reducible refine wpList_alloc1_st hS rfl rfl (by assumption) rfl ?_; clear hS; intro g1 w1 hS))
 rename_i gk wk K hK
 have hS1 := (hS.nilrow 3 1).swap
 clear hS hmf es
 have hS : St w [] (outs g1 none 0 [] ++ [Ch.blk gk 131 #[.bool kl, .bool kb, .bool kr]]) _ := hS1
 clear hS1
 go_loopg [9, 10] (n + k) (fun gm vx vy wr => ∃ (p q : Nat) (pre : List Int) (ao : Option Addr) (co : Nat), p ≤ n ∧ q ≤ k ∧ gm = (n - p) + (k - q) ∧  vx = .int .i64 p ∧ vy = .int .i64 q ∧ Hid (pre ++ Ids.along kl kb kr (l.drop p) (m.drop q) = Ids.along kl kb kr l m) ∧ pre.length ≤ p + q ∧ St w [] (outs g1 ao co pre ++ [Ch.blk gk 131 #[.bool kl, .bool kb, .bool kr]]) wr)
 case atStart => exact ⟨0, 0, [], _, _, Nat.zero_le _, Nat.zero_le _, by omega, rfl, rfl, Lib.hid (by simp), by simp, hS⟩
 case round =>
  clear hS
  obtain ⟨p, q, pre, ao, co, hp, hq, rfl, rfl, rfl, hI, hpl, hS⟩ := hrel
  by_cases hlt : p < n ∧ q < k
  · obtain ⟨hlp, hlq⟩ := hlt
    obtain ⟨b1, o1, rfl, c1⟩ := sl_int hs.out p (by rw [hn.out]; exact hlp)
    obtain ⟨b2, o2, rfl, c2⟩ := sl_int ht.out q (by rw [hk.out]; exact hlq)
    have t1 := Lib.hid (List.drop_eq_getElem_cons (l := l) (i := p) (by rw [hn.out]; exact hlp))
    have t2 := Lib.hid (List.drop_eq_getElem_cons (l := m) (i := q) (by rw [hk.out]; exact hlq))
    generalize l[p]'(by rw [hn.out]; exact hlp) = x at c1 t1
    generalize m[q]'(by rw [hk.out]; exact hlq) = y at c2 t2
    have k1 := hS.empty.kold0 c1
    have k2 := hS.empty.kold0 c2
    clear c1 c2
    by_cases hxy : x < y
    · have hI2 := Lib.hid (show pre ++ Ids.takes kl x ++ Ids.along kl kb kr (l.drop (p + 1)) (m.drop q) = Ids.along kl kb kr l m by rw [← hI.out, t1.out, t2.out, Ids.along_lt kl kb kr x y _ _ hxy, List.append_assoc])
      go_wp2_with fail
      refine mixs_beginE (by kernel_rfl) hS ?_
      clear hS
      intro w2 hS hC
      refine tk 0 ?_
      refine tk 1 ?_
      refine tk 2 ?_
      refine tk 3 ?_
      refine tk 4 ?_
      refine tk 5 ?_
      refine tk 6 ?_
      refine tk 7 ?_
      refine tk 8 ?_
      refine tk 9 ?_
      refine wpAnyH_done (by kernel_rfl) ?_ _
      go_wp2_with fail
      refine mixs_beginE (by kernel_rfl) hS ?_
      clear hS
      intro w2 hS hC
      refine tk 0 ?_
      refine tk 1 ?_
      refine tk 2 ?_
      refine tk 3 ?_
      refine tk 4 ?_
      refine tk 5 ?_
      refine mixs_one 6 (by kernel_rfl) rfl (fun K hK => ?_)
      refine op_load_st (by kernel_rfl) 2 hS rfl rfl rfl (by simp [scalarB, go_sem]) rfl ?_
      try clear hC
      refine cl hK (fun hC => ?_)
      clear hK K
      refine mixs_one 7 (by kernel_rfl) rfl (fun K hK => ?_)
      go_simp
      ((go_at_call 143; (refine (take_any _ _ _ _ _ _ _ (hS.pre _ _ rfl) (by omega)).mono ?_); rintro _ w3 ⟨rfl, a3, c3, hb3⟩; have hS1 := hS.call _ _ rfl hb3; clear hS hb3; have hS := hS1; clear hS1))
      try clear hC
      refine cl hK (fun hC => ?_)
      clear hK K
      refine wpAnyH_done (by kernel_rfl) ?_ _
      clear k1 k2
      go_wp2_with fail
      go_roundg ((n - (p + 1)) + (k - (q)))
      case measure => omega
      case rel => exact ⟨p + 1, q, pre ++ Ids.takes kl x, _, _, by omega, by omega, by omega, by go_num, by go_num, hI2, by have := Ids.takes_len kl x; simp only [List.length_append, this]; split <;> omega, hS⟩
    · by_cases hyx : y < x
      · have hI2 := Lib.hid (show pre ++ Ids.takes kr y ++ Ids.along kl kb kr (l.drop p) (m.drop (q + 1)) = Ids.along kl kb kr l m by rw [← hI.out, t1.out, t2.out, Ids.along_gt kl kb kr x y _ _ hyx, List.append_assoc])
        have d1 : decide (x < y) = false := decide_eq_false hxy
        go_wp2_with fail
        refine mixs_beginE (by kernel_rfl) hS ?_
        clear hS
        intro w2 hS hC
        refine tk 0 ?_
        refine tk 1 ?_
        refine tk 2 ?_
        refine tk 3 ?_
        refine tk 4 ?_
        refine tk 5 ?_
        refine tk 6 ?_
        refine tk 7 ?_
        refine tk 8 ?_
        refine tk 9 ?_
        refine wpAnyH_done (by kernel_rfl) ?_ _
        go_wp2_with fail
        refine mixs_beginE (by kernel_rfl) hS ?_
        clear hS
        intro w2 hS hC
        refine tk 0 ?_
        refine tk 1 ?_
        refine tk 2 ?_
        refine tk 3 ?_
        refine tk 4 ?_
        refine tk 5 ?_
        refine tk 6 ?_
        refine tk 7 ?_
        refine tk 8 ?_
        refine tk 9 ?_
        refine wpAnyH_done (by kernel_rfl) ?_ _
        go_wp2_with fail
        refine mixs_beginE (by kernel_rfl) hS ?_
        clear hS
        intro w2 hS hC
        refine tk 0 ?_
        refine tk 1 ?_
        refine tk 2 ?_
        refine tk 3 ?_
        refine tk 4 ?_
        refine tk 5 ?_
        refine mixs_one 6 (by kernel_rfl) rfl (fun K hK => ?_)
        refine op_load_st (by kernel_rfl) 2 hS rfl rfl rfl (by simp [scalarB, go_sem]) rfl ?_
        try clear hC
        refine cl hK (fun hC => ?_)
        clear hK K
        refine mixs_one 7 (by kernel_rfl) rfl (fun K hK => ?_)
        go_simp
        ((go_at_call 143; (refine (take_any _ _ _ _ _ _ _ (hS.pre _ _ rfl) (by omega)).mono ?_); rintro _ w3 ⟨rfl, a3, c3, hb3⟩; have hS1 := hS.call _ _ rfl hb3; clear hS hb3; have hS := hS1; clear hS1))
        try clear hC
        refine cl hK (fun hC => ?_)
        clear hK K
        refine wpAnyH_done (by kernel_rfl) ?_ _
        clear k1 k2
        go_wp2_with fail
        go_roundg ((n - (p)) + (k - (q + 1)))
        case measure => omega
        case rel => exact ⟨p, q + 1, pre ++ Ids.takes kr y, _, _, by omega, by omega, by omega, by go_num, by go_num, hI2, by have := Ids.takes_len kr y; simp only [List.length_append, this]; split <;> omega, hS⟩
      · obtain rfl : x = y := by omega
        have hI2 := Lib.hid (show pre ++ Ids.takes kb x ++ Ids.along kl kb kr (l.drop (p + 1)) (m.drop (q + 1)) = Ids.along kl kb kr l m by rw [← hI.out, t1.out, t2.out, Ids.along_eq, List.append_assoc])
        clear hxy
        go_wp2_with fail
        refine mixs_beginE (by kernel_rfl) hS ?_
        clear hS
        intro w2 hS hC
        refine tk 0 ?_
        refine tk 1 ?_
        refine tk 2 ?_
        refine tk 3 ?_
        refine tk 4 ?_
        refine tk 5 ?_
        refine tk 6 ?_
        refine tk 7 ?_
        refine tk 8 ?_
        refine tk 9 ?_
        refine wpAnyH_done (by kernel_rfl) ?_ _
        go_wp2_with fail
        refine mixs_beginE (by kernel_rfl) hS ?_
        clear hS
        intro w2 hS hC
        refine tk 0 ?_
        refine tk 1 ?_
        refine tk 2 ?_
        refine tk 3 ?_
        refine tk 4 ?_
        refine tk 5 ?_
        refine tk 6 ?_
        refine tk 7 ?_
        refine tk 8 ?_
        refine tk 9 ?_
        refine wpAnyH_done (by kernel_rfl) ?_ _
        go_wp2_with fail
        refine mixs_beginE (by kernel_rfl) hS ?_
        clear hS
        intro w2 hS hC
        refine tk 0 ?_
        refine tk 1 ?_
        refine tk 2 ?_
        refine tk 3 ?_
        refine tk 4 ?_
        refine tk 5 ?_
        refine mixs_one 6 (by kernel_rfl) rfl (fun K hK => ?_)
        refine op_load_st (by kernel_rfl) 2 hS rfl rfl rfl (by simp [scalarB, go_sem]) rfl ?_
        try clear hC
        refine cl hK (fun hC => ?_)
        clear hK K
        refine mixs_one 7 (by kernel_rfl) rfl (fun K hK => ?_)
        go_simp
        ((go_at_call 143; (refine (take_any _ _ _ _ _ _ _ (hS.pre _ _ rfl) (by omega)).mono ?_); rintro _ w3 ⟨rfl, a3, c3, hb3⟩; have hS1 := hS.call _ _ rfl hb3; clear hS hb3; have hS := hS1; clear hS1))
        try clear hC
        refine cl hK (fun hC => ?_)
        clear hK K
        refine wpAnyH_done (by kernel_rfl) ?_ _
        clear k1 k2
        go_wp2_with fail
        go_roundg ((n - (p + 1)) + (k - (q + 1)))
        case measure => omega
        case rel => exact ⟨p + 1, q + 1, pre ++ Ids.takes kb x, _, _, by omega, by omega, by omega, by go_num, by go_num, hI2, by have := Ids.takes_len kb x; simp only [List.length_append, this]; split <;> omega, hS⟩
  · have hor : p = n ∨ q = k := by omega
    have hlt1 : decide (p < n) = false ∨ (p < n ∧ decide (q < k) = false) := by
     by_cases h : p < n
     · exact .inr ⟨h, decide_eq_false (by omega)⟩
     · exact .inl (decide_eq_false h)
    clear hlt
    rcases hlt1 with hlt1 | ⟨hlt1, hlt2⟩
    all_goals
     go_wp2_with fail
     clear hlt1
     try clear hlt2
     go_loopg [9] (n - p) (fun gm vx wr => ∃ (p : Nat) (pre : List Int) (ao : Option Addr) (co : Nat), p ≤ n ∧ gm = n - p ∧ vx = .int .i64 p ∧ (p = n ∨ q = k) ∧ Hid (pre ++ Ids.along kl kb kr (l.drop p) (m.drop q) = Ids.along kl kb kr l m) ∧ pre.length ≤ p + q ∧ St w [] (outs g1 ao co pre ++ [Ch.blk gk 131 #[.bool kl, .bool kb, .bool kr]]) wr)
     case atStart => exact ⟨p, pre, _, _, hp, rfl, rfl, hor, hI, hpl, hS⟩
     case round =>
      clear hS hI hpl hor hp
      obtain ⟨p, pre, ao, co, hp, rfl, rfl, hor, hI, hpl, hS⟩ := hrel
      by_cases hlp : p < n
      · obtain rfl : q = k := by omega
        obtain ⟨b1, o1, rfl, c1⟩ := sl_int hs.out p (by rw [hn.out]; exact hlp)
        have t1 := Lib.hid (List.drop_eq_getElem_cons (l := l) (i := p) (by rw [hn.out]; exact hlp))
        generalize l[p]'(by rw [hn.out]; exact hlp) = x at c1 t1
        have hd : m.drop q = [] := List.drop_of_length_le (by rw [hk.out]; exact Nat.le_refl _)
        have hI2 := Lib.hid (show pre ++ Ids.takes kl x ++ Ids.along kl kb kr (l.drop (p + 1)) (m.drop q) = Ids.along kl kb kr l m by rw [← hI.out, t1.out, hd, Ids.along_nil_right, Ids.along_nil_right, Ids.takeAll_cons, List.append_assoc])
        have k1 := hS.empty.kold0 c1
        clear c1 hd
        go_wp2_with fail
        refine mixs_beginE (by kernel_rfl) hS ?_
        clear hS
        intro w2 hS hC
        refine tk 0 ?_
        refine tk 1 ?_
        refine tk 2 ?_
        refine tk 3 ?_
        refine tk 4 ?_
        refine tk 5 ?_
        refine mixs_one 6 (by kernel_rfl) rfl (fun K hK => ?_)
        refine op_load_st (by kernel_rfl) 2 hS rfl rfl rfl (by simp [scalarB, go_sem]) rfl ?_
        try clear hC
        refine cl hK (fun hC => ?_)
        clear hK K
        refine mixs_one 7 (by kernel_rfl) rfl (fun K hK => ?_)
        go_simp
        ((go_at_call 143; (refine (take_any _ _ _ _ _ _ _ (hS.pre _ _ rfl) (by omega)).mono ?_); rintro _ w3 ⟨rfl, a3, c3, hb3⟩; have hS1 := hS.call _ _ rfl hb3; clear hS hb3; have hS := hS1; clear hS1))
        try clear hC
        refine cl hK (fun hC => ?_)
        clear hK K
        refine wpAnyH_done (by kernel_rfl) ?_ _
        clear k1
        go_wp2_with fail
        go_roundg (n - (p + 1))
        case measure => omega
        case rel => exact ⟨p + 1, pre ++ Ids.takes kl x, _, _, by omega, by omega, by go_num, by simp, hI2, by have := Ids.takes_len kl x; simp only [List.length_append, this]; split <;> omega, hS⟩
      · obtain rfl : p = n := by omega
        have hd : l.drop p = [] := List.drop_of_length_le (by rw [hn.out]; exact Nat.le_refl _)
        rw [hd] at hI
        clear hd hor
        go_wp2_with fail
        go_loopg [10] (k - q) (fun gm vx wr => ∃ (q : Nat) (pre : List Int) (ao : Option Addr) (co : Nat), q ≤ k ∧ gm = k - q ∧ vx = .int .i64 q ∧ Hid (pre ++ Ids.along kl kb kr [] (m.drop q) = Ids.along kl kb kr l m) ∧ pre.length ≤ p + q ∧ St w [] (outs g1 ao co pre ++ [Ch.blk gk 131 #[.bool kl, .bool kb, .bool kr]]) wr)
        case atStart => exact ⟨q, pre, _, _, hq, rfl, rfl, hI, hpl, hS⟩
        case round =>
         clear hS hI hpl
         obtain ⟨q, pre, ao, co, hq, rfl, rfl, hI, hpl, hS⟩ := hrel
         by_cases hlq : q < k
         · obtain ⟨b2, o2, rfl, c2⟩ := sl_int ht.out q (by rw [hk.out]; exact hlq)
           have t2 := Lib.hid (List.drop_eq_getElem_cons (l := m) (i := q) (by rw [hk.out]; exact hlq))
           generalize m[q]'(by rw [hk.out]; exact hlq) = y at c2 t2
           have hI2 := Lib.hid (show pre ++ Ids.takes kr y ++ Ids.along kl kb kr [] (m.drop (q + 1)) = Ids.along kl kb kr l m by rw [← hI.out, t2.out, Ids.along_nil_left, Ids.along_nil_left, Ids.takeAll_cons, List.append_assoc])
           have k2 := hS.empty.kold0 c2
           clear c2
           go_wp2_with fail
           refine mixs_beginE (by kernel_rfl) hS ?_
           clear hS
           intro w2 hS hC
           refine tk 0 ?_
           refine tk 1 ?_
           refine tk 2 ?_
           refine tk 3 ?_
           refine tk 4 ?_
           refine tk 5 ?_
           refine mixs_one 6 (by kernel_rfl) rfl (fun K hK => ?_)
           refine op_load_st (by kernel_rfl) 2 hS rfl rfl rfl (by simp [scalarB, go_sem]) rfl ?_
           try clear hC
           refine cl hK (fun hC => ?_)
           clear hK K
           refine mixs_one 7 (by kernel_rfl) rfl (fun K hK => ?_)
           go_simp
           ((go_at_call 143; (refine (take_any _ _ _ _ _ _ _ (hS.pre _ _ rfl) (by omega)).mono ?_); rintro _ w3 ⟨rfl, a3, c3, hb3⟩; have hS1 := hS.call _ _ rfl hb3; clear hS hb3; have hS := hS1; clear hS1))
           try clear hC
           refine cl hK (fun hC => ?_)
           clear hK K
           refine wpAnyH_done (by kernel_rfl) ?_ _
           clear k2
           go_wp2_with fail
           go_roundg (k - (q + 1))
           case measure => omega
           case rel => exact ⟨q + 1, pre ++ Ids.takes kr y, _, _, by omega, by omega, by go_num, hI2, by have := Ids.takes_len kr y; simp only [List.length_append, this]; split <;> omega, hS⟩
         · obtain rfl : q = k := by omega
           have hd : m.drop q = [] := List.drop_of_length_le (by rw [hk.out]; exact Nat.le_refl _)
           have hfin : pre = Ids.along kl kb kr l m := by rw [← hI.out, hd, Ids.along_nil_left, Ids.takeAll_nil, List.append_nil]
           replace hfin := Lib.hid hfin
           clear hd hI
           go_wp2_with ((with_reducible refine ld 0 hS rfl rfl rfl rfl rfl ?_))
           go_ret
           rw [hfin.out] at hS
           have r := intsRet_mk (hS.drop.swap.drop) rfl rfl
           rw [← hfin.out] at r
           rw [hfin.out] at r
           exact hfin.out ▸ r
end Go.Proofs.YtneolmnpebiifaaGreatDoor
end
section
namespace Go.Ofp.Ids
theorem lt_place (l : List Int) (id : Int) (h : Up l) (k : Nat) (hk : k < l.length) : l[k] < id ↔ k < place l id := by
 obtain ⟨h1, h2⟩ := up_take_drop l id h
 constructor
 · intro hl
   by_cases hp : k < place l id
   · exact hp
   · have : l[k] ∈ l.drop (place l id) := by
      rw [List.mem_drop_iff_getElem]
      exact ⟨k - place l id, by omega, by congr 1; omega⟩
     have := (h2 _).1 this
     omega
 · intro hp
   have : l[k] ∈ l.take (place l id) := by
    rw [List.mem_take_iff_getElem]
    exact ⟨k, by omega, rfl⟩
   exact ((h1 _).1 this).2
theorem has_place (l : List Int) (id : Int) (h : Up l) : has l id = if hp : place l id < l.length then decide (l[place l id] = id) else false := by
 obtain ⟨h1, h2⟩ := up_take_drop l id h
 split
 · rename_i hp
   have hge : id ≤ l[place l id] := ((h2 _).1 (by rw [List.mem_drop_iff_getElem]; exact ⟨0, by omega, by simp⟩)).2
   by_cases he : l[place l id] = id
   · rw [decide_eq_true he, has_iff]
     rw [← he]
     exact List.getElem_mem hp
   · rw [decide_eq_false he]
     cases e : has l id with
     | false => rfl
     | true =>
      rw [has_iff] at e
      obtain ⟨k, hk, hke⟩ := List.getElem_of_mem e
      have hn := (lt_place l id h k hk)
      have : ¬ k < place l id := by rw [← hn]; omega
      have hlt : place l id < k := by
       rcases Nat.lt_or_ge (place l id) k with h | h
       · exact h
       · have : k = place l id := by omega
         subst this
         exact absurd hke he
      have := (List.pairwise_iff_getElem.1 h) (place l id) k hp hk hlt
      omega
 · rename_i hp
   cases e : has l id with
   | false => rfl
   | true =>
    rw [has_iff] at e
    obtain ⟨k, hk, hke⟩ := List.getElem_of_mem e
    have := (lt_place l id h k hk).2 (by omega)
    omega
end Go.Ofp.Ids
namespace Go.Proofs.YtneolmnpebiifaaGreatDoor
open Go.RowKit Go.Ofp
set_option maxHeartbeats 4000000
theorem nan1_any (x : Int) (w : World) : Calls Tryz.prog 177 #[.int .i64 x] w fun e w' => e = .returned (.bool false) ∧ w = w' := by
 go_enter Tryz.func177, Tryz.ntmps177
 go_wp2_with fail
 go_ret
 exact ⟨rfl, rfl⟩
theorem nan2_any (x : Int) (w : World) : Calls Tryz.prog 164 #[.int .i64 x] w fun e w' => e = .returned (.bool false) ∧ w = w' := by
 go_enter Tryz.func164, Tryz.ntmps164
 go_wp2_with fail
 go_ret
 exact ⟨rfl, rfl⟩
theorem less_any (x y : Int) (w : World) : Calls Tryz.prog 163 #[.int .i64 x, .int .i64 y] w fun e w' => e = .returned (.bool (decide (x < y))) ∧ w = w' := by
 go_enter Tryz.func163, Tryz.ntmps163
 go_wp2_with (go_at_call 177; (with_reducible refine (nan1_any _ _).mono ?_); rintro _ _ ⟨rfl, rfl⟩)
 go_ret
 exact ⟨rfl, rfl⟩
theorem search_any (a : Option Addr) (l : List Int) (n cap : Nat) (id : Int) (w : World) (hs : Sl w a (l.map vi)) (hn : l.length = n) (hm : n ≤ 100000) (hu : Ids.Up l) :
 Calls Tryz.prog 139 #[.slice a n cap, .int .i64 id] w fun e w' => e = .returned (.tuple #[.int .i64 (Ids.place l id), .bool (Ids.has l id)]) ∧ w = w' := by
 have hp := place_le l id
 rw [hn] at hp
 have hlt := Lib.hid (Ids.lt_place l id hu)
 have hhas := Lib.hid (Ids.has_place l id hu)
 generalize hq : Ids.place l id = p at hp hlt hhas ⊢
 replace hn := Lib.hid hn
 replace hs := Lib.hid hs
 clear hu hq
 go_enter Tryz.func139, Tryz.ntmps139
 go_wp2_with fail
 go_loopg [7, 8] n (fun gk vx vy wr => ∃ i j : Nat, i ≤ p ∧ p ≤ j ∧ j ≤ n ∧ gk = j - i ∧ vx = .int .i64 i ∧ vy = .int .i64 j ∧ wr = w)
 case atStart => exact ⟨0, n, Nat.zero_le _, hp, Nat.le_refl _, rfl, rfl, rfl, rfl⟩
 case round =>
  obtain ⟨i, j, h1, h2, h3, rfl, rfl, rfl, rfl⟩ := hrel
  by_cases hij : i < j
  · have hmid : (i + j) / 2 < n := by omega
    obtain ⟨b, off, rfl, hc⟩ := sl_int hs.out ((i + j) / 2) (by rw [hn.out]; exact hmid)
    have hl2 := hlt.out ((i + j) / 2) (by rw [hn.out]; exact hmid)
    generalize l[(i + j) / 2]'(by rw [hn.out]; exact hmid) = x at hc hl2
    by_cases hx : x < id
    · have hp2 := hl2.1 hx
      clear hl2
      go_wp2_with (go_at_call 163; (with_reducible refine (less_any _ _ _).mono ?_); rintro _ _ ⟨rfl, rfl⟩)
      go_roundg (j - ((i + j) / 2 + 1))
      case measure => omega
      case rel => exact ⟨(i + j) / 2 + 1, j, by omega, h2, h3, rfl, congrArg (Value.int .i64) (by omega), rfl, rfl⟩
    · have hp2 : p ≤ (i + j) / 2 := by
       rcases Nat.lt_or_ge ((i + j) / 2) p with h | h
       · exact absurd (hl2.2 h) hx
       · exact h
      have hxb : decide (x < id) = false := decide_eq_false hx
      clear hl2 hx
      go_wp2_with (go_at_call 163; (with_reducible refine (less_any _ _ _).mono ?_); rintro _ _ ⟨rfl, rfl⟩)
      go_roundg ((i + j) / 2 - i)
      case measure => omega
      case rel => exact ⟨i, (i + j) / 2, h1, hp2, by omega, rfl, rfl, congrArg (Value.int .i64) (by omega), rfl⟩
  · obtain rfl : i = p := by omega
    obtain rfl : j = i := by omega
    clear h1 h2 hp hij
    by_cases hj : j < n
    · obtain ⟨b, off, rfl, hc⟩ := sl_int hs.out j (by rw [hn.out]; exact hj)
      have hh := hhas.out
      rw [dif_pos (by rw [hn.out]; exact hj)] at hh
      generalize l[j]'(by rw [hn.out]; exact hj) = x at hc hh
      by_cases hx : x = id
      · subst hx
        rw [decide_eq_true rfl] at hh
        replace hh := Lib.hid hh
        go_wp2_with (go_at_call 164; (with_reducible refine (nan2_any _ _).mono ?_); rintro _ _ ⟨rfl, rfl⟩)
        go_ret2
        exact ⟨by rw [hh.out]; rfl, rfl⟩
      · rw [decide_eq_false hx] at hh
        have hxb : (x == id) = false := by rw [beq_eq_false_iff_ne]; exact hx
        replace hh := Lib.hid hh
        replace hx := Lib.hid hx
        go_wp2_with (go_at_call 164; (with_reducible refine (nan2_any _ _).mono ?_); rintro _ _ ⟨rfl, rfl⟩)
        go_ret2
        exact ⟨by rw [hh.out]; rfl, rfl⟩
    · have hh := hhas.out
      rw [dif_neg (by rw [hn.out]; exact hj)] at hh
      replace hh := Lib.hid hh
      have hj2 : n ≤ j := by omega
      clear hj
      go_wp2_with fail
      go_ret2
      exact ⟨by rw [hh.out]; rfl, rfl⟩
theorem clone_some (ad : Addr) (l : List Int) (n cap : Nat) (w : World) (hs : Sl w (some ad) (l.map vi)) (hn : l.length = n) (hm : n ≤ 100000) :
 Calls Tryz.prog 37 #[.slice (some ad) n cap] w (IntsRet l w) := by
 have ez := elem_i
 have hS := St.start w
 have he := fun (W : World) (a : Option Addr) (n c : Nat) => Lib.run_eql_slice_nil (P := Tryz.prog) W 46 3 a n c 0 0 Tryz.underlying46
 replace hn := Lib.hid hn
 replace hs := Lib.hid hs
 go_enter Tryz.func37, Tryz.ntmps37
 go_wp2_with (first | ((with_reducible refine wpList_build0_st hS rfl rfl Tryz.underlying46 elem_i ?_); clear hS; intro g1 w3 hS) | (at_builtin; (with_reducible refine wpList_app_st 0 hS rfl rfl rfl Tryz.underlying46 elem_i rfl (Src.slice Tryz.underlying46 (hS.sl hs.out) (by simp [hn.out])) rfl (vi_one l) (by omega) (by unfold maxLen; omega) ?_); intro v5 w3 hS1; clear hS; simp only [List.set_cons_zero, Nat.zero_add, List.nil_append] at hS1; have hS := hS1; clear hS1; obtain ⟨a5, c5, rfl, -⟩ := hS.row 0 rfl))
 go_ret
 have r := intsRet_mk hS rfl hn.out
 exact r
theorem clone_none (w : World) : Calls Tryz.prog 37 #[.slice none 0 0] w (IntsRet [] w) := by
 have hS := St.start w
 have he := fun (W : World) (a : Option Addr) (n c : Nat) => Lib.run_eql_slice_nil (P := Tryz.prog) W 46 3 a n c 0 0 Tryz.underlying46
 go_enter Tryz.func37, Tryz.ntmps37
 go_wp2_with fail
 go_ret
 exact intsRet_mk (hS.nilrow 3 1) rfl rfl
theorem clone_any (a : Option Addr) (l : List Int) (n cap : Nat) (w : World) (hs : Sl w a (l.map vi)) (hn : l.length = n) (hm : n ≤ 100000) (hc : a = none → cap = 0) :
 Calls Tryz.prog 37 #[.slice a n cap] w (IntsRet l w) := by
 cases a with
 | some ad => exact clone_some ad l n cap w hs hn hm
 | none =>
  have hl : l = [] := by
   by_cases h : l = []
   · exact h
   · obtain ⟨b, off, e⟩ := hs.cells (by simpa using h)
     cases e
  subst hl
  subst hn
  rw [hc rfl]
  exact clone_none w
end Go.Proofs.YtneolmnpebiifaaGreatDoor
end
