import Derived.Lib.Overlaps
import Derived.Laws.Externs
import Derived.Test.YtkbekagmfbgefaaM3
set_option linter.unusedVariables false
set_option linter.unusedSimpArgs false
set_option maxRecDepth 100000
section
namespace Go.Proofs.Ytkbekagmfbgefaa
open Go.RowKit Go.Ofp
set_option maxHeartbeats 4000000
def vi (x : Int) : Value := .int .i64 x
theorem sl_int {w : World} {a : Option Addr} {l : List Int} (h : Sl w a (l.map vi)) (i : Nat) (hi : i < l.length) :
    ∃ b off, a = some ⟨b, off, none⟩ ∧ w.cell? ⟨b, off + i, none⟩ = some (.int .i64 (l[i])) := by
  obtain ⟨b, off, ha, hc⟩ := h i (by simpa using hi)
  exact ⟨b, off, ha, by simpa [vi] using hc⟩
theorem take_snoc_i (l : List Int) (k : Nat) (h : k < l.length) : l.take (k + 1) = l.take k ++ [l[k]] := by
  rw [List.take_succ_eq_append_getElem h]
theorem rhas_any (a : Option Addr) (l : List Int) (n cap : Nat) (id : Int) (w : World) (hs : Sl w a (l.map vi)) (hn : l.length = n) (hm : n ≤ maxLen) :
    Calls Try.prog 11 #[.slice a n cap, .int .i64 id] w fun e w' => e = .returned (.bool (Ids.has l id)) ∧ w = w' := by
  unfold maxLen at hm
  replace hn := Lib.hid hn
  replace hs := Lib.hid hs
  go_enter Try.func11, Try.ntmps11
  go_wp2
  go_loop [5] (fun i => ∃ k : Nat, k ≤ n ∧ i = .int .i64 k ∧ Hid (Ids.has (l.take k) id = false)) (fun i => n - (intOf i).toNat)
  case atStart => exact ⟨0, Nat.zero_le _, rfl, Lib.hid rfl⟩
  case round =>
    obtain ⟨k, hk, rfl, hr⟩ := hrel
    by_cases hlt : k < n
    · obtain ⟨b, off, rfl, hc⟩ := sl_int hs.out k (by rw [hn.out]; exact hlt)
      have hts := Lib.hid (take_snoc_i l k (by rw [hn.out]; exact hlt))
      have hmem := Lib.hid (List.getElem_mem (l := l) (n := k) (by rw [hn.out]; exact hlt))
      generalize l[k]'(by rw [hn.out]; exact hlt) = x at hc hts hmem
      by_cases hx : x = id
      · subst hx
        go_wp2
        go_ret
        have : Ids.has l x = true := by rw [Ids.has_iff]; exact hmem.out
        exact ⟨by rw [this]; rfl, rfl⟩
      · have hxb : (x == id) = false := by rw [beq_eq_false_iff_ne]; exact hx
        replace hx := Lib.hid hx
        go_wp2
        go_round
        case rel => exact ⟨k + 1, by omega, by go_num, Lib.hid (by
          rw [hts.out]
          have := hr.out
          unfold Ids.has at this ⊢
          rw [List.contains_eq_any_beq, List.any_append, ← List.contains_eq_any_beq, this]
          simp [show (id == x) = false by rw [beq_eq_false_iff_ne]; exact Ne.symm hx.out])⟩
        case measure => simp [intOf]; omega
    · obtain rfl : k = n := by omega
      go_wp2
      go_ret
      have := hr.out
      rw [List.take_of_length_le (by rw [hn.out]; exact Nat.le_refl _)] at this
      exact ⟨by rw [this]; rfl, rfl⟩
theorem rplace_any (a : Option Addr) (l : List Int) (n cap : Nat) (id : Int) (w : World) (hs : Sl w a (l.map vi)) (hn : l.length = n) (hm : n ≤ maxLen) :
    Calls Try.prog 63 #[.slice a n cap, .int .i64 id] w fun e w' => e = .returned (.int .i64 (Ids.place l id)) ∧ w = w' := by
  unfold maxLen at hm
  replace hn := Lib.hid hn
  replace hs := Lib.hid hs
  go_enter Try.func63, Try.ntmps63
  go_wp2
  go_loop [5, 6] (fun m i => ∃ k j : Nat, k ≤ n ∧ j ≤ k ∧ i = .int .i64 k ∧ m = .int .i64 j ∧ Hid (Ids.place (l.take k) id = j)) (fun _ i => n - (intOf i).toNat)
  case atStart => exact ⟨0, 0, Nat.zero_le _, Nat.le_refl _, rfl, rfl, Lib.hid rfl⟩
  case round =>
    obtain ⟨k, j, hk, hj, rfl, rfl, hr⟩ := hrel
    by_cases hlt : k < n
    · obtain ⟨b, off, rfl, hc⟩ := sl_int hs.out k (by rw [hn.out]; exact hlt)
      have hts := Lib.hid (take_snoc_i l k (by rw [hn.out]; exact hlt))
      generalize l[k]'(by rw [hn.out]; exact hlt) = x at hc hts
      have hs2 : Hid (Ids.place (l.take (k + 1)) id = if x < id then j + 1 else j) := Lib.hid (by
        rw [hts.out]
        have := hr.out
        unfold Ids.place at this ⊢
        rw [List.filter_append, List.length_append, this]
        split <;> simp_all)
      clear hts hr
      by_cases hx : x < id
      · go_wp2
        go_round
        case rel => exact ⟨k + 1, j + 1, by omega, by omega, by go_num, by go_num, Lib.hid (by rw [hs2.out, if_pos hx])⟩
        case measure => simp [intOf]; omega
      · have hx2 : id ≤ x := by omega
        go_wp2
        go_round
        case rel => exact ⟨k + 1, j, by omega, by omega, by go_num, by go_num, Lib.hid (by rw [hs2.out, if_neg hx])⟩
        case measure => simp [intOf]; omega
    · obtain rfl : k = n := by omega
      go_wp2
      go_ret
      have := hr.out
      rw [List.take_of_length_le (by rw [hn.out]; exact Nat.le_refl _)] at this
      exact ⟨by rw [this]; rfl, rfl⟩
theorem ints_any (a b : Option Addr) (l m : List Int) (n k cap cap2 : Nat) (w : World) (hs : Sl w a (l.map vi)) (ht : Sl w b (m.map vi)) (hn : l.length = n) (hk : m.length = k) (hm : n ≤ maxLen) (hm2 : k ≤ maxLen) :
    Calls Try.prog 25 #[.slice a n cap, .slice b k cap2] w fun e w' => e = .returned (.bool (decide (l = m))) ∧ Below w.heap.size w w' := by
  unfold maxLen at hm hm2
  have hS := St.start w
  by_cases hlen : n = k
  · subst hlen
    replace hn := Lib.hid hn
    replace hk := Lib.hid hk
    replace hs := Lib.hid hs
    replace ht := Lib.hid ht
    go_enter Try.func25, Try.ntmps25
    go_wp2
    go_loopg [5] n (fun gk vi wr => ∃ j : Nat, j + gk = n ∧ vi = .int .i64 j ∧ Hid (l.take j = m.take j) ∧ St w [] [] wr)
    case atStart => exact ⟨0, Nat.zero_add _, rfl, Lib.hid (by simp), hS⟩
    case round =>
      clear hS
      obtain ⟨j, hj, rfl, hr, hS⟩ := hrel
      by_cases hlt : j < n
      · obtain ⟨b1, o1, rfl, c1⟩ := sl_int hs.out j (by rw [hn.out]; exact hlt)
        obtain ⟨b2, o2, rfl, c2⟩ := sl_int ht.out j (by rw [hk.out]; exact hlt)
        have t1 := Lib.hid (take_snoc_i l j (by rw [hn.out]; exact hlt))
        have t2 := Lib.hid (take_snoc_i m j (by rw [hk.out]; exact hlt))
        have t3 := Lib.hid (show l = m → l[j]'(by rw [hn.out]; exact hlt) = m[j]'(by rw [hk.out]; exact hlt) by intro e; subst e; rfl)
        generalize l[j]'(by rw [hn.out]; exact hlt) = x at c1 t1 t3
        generalize m[j]'(by rw [hk.out]; exact hlt) = y at c2 t2 t3
        have k1 := hS.kold0 c1
        have k2 := hS.kold0 c2
        clear c1 c2
        by_cases hx : x = y
        · subst hx
          go_wp2_with fail
          refine mixs_begin (by kernel_rfl) hS ?_
          clear hS
          intro w2 hS
          refine tk 0 ?_
          refine tk 1 ?_
          refine tk 2 ?_
          refine tk 3 ?_
          refine tk 4 ?_
          refine tk 5 ?_
          refine tk 6 ?_
          refine tk 7 ?_
          refine tk 8 ?_
          refine wpAnyH_done (by kernel_rfl) ?_ _
          clear k1 k2
          go_wp2_with fail
          go_roundg (n - (j + 1))
          case measure => omega
          case rel => exact ⟨j + 1, by omega, by go_num, Lib.hid (by rw [t1.out, t2.out, hr.out]), hS⟩
        · have hxb : (x != y) = true := by simpa using hx
          replace hx := Lib.hid hx
          go_wp2_with fail
          refine mixs_begin (by kernel_rfl) hS ?_
          clear hS
          intro w2 hS
          refine tk 0 ?_
          refine tk 1 ?_
          refine tk 2 ?_
          refine tk 3 ?_
          refine tk 4 ?_
          refine tk 5 ?_
          refine tk 6 ?_
          refine tk 7 ?_
          refine tk 8 ?_
          refine wpAnyH_done (by kernel_rfl) ?_ _
          clear k1 k2
          go_wp2_with fail
          go_ret
          have : decide (l = m) = false := by rw [decide_eq_false_iff_not]; intro e; exact hx.out (t3.out e)
          exact ⟨by rw [this]; rfl, hS.below⟩
      · obtain rfl : j = n := by omega
        go_wp2_with fail
        go_ret
        have e1 := hr.out
        rw [List.take_of_length_le (by rw [hn.out]; exact Nat.le_refl _), List.take_of_length_le (by rw [hk.out]; exact Nat.le_refl _)] at e1
        exact ⟨by rw [decide_eq_true e1]; rfl, hS.below⟩
  · have e : decide (l = m) = false := by rw [decide_eq_false_iff_not]; intro e; subst e; omega
    have hb : ((n : Int) != (k : Int)) = true := by simp; omega
    rw [e]
    clear hlen hn hk e
    go_enter Try.func25, Try.ntmps25
    go_wp2_with fail
    go_ret
    exact ⟨rfl, hS.below⟩
end Go.Proofs.Ytkbekagmfbgefaa
end
section
namespace Go.Proofs.Ytkbekagmfbgefaa
open Go.RowKit Go.Ofp
set_option maxHeartbeats 4000000
theorem elem_i : Elem Try.prog 3 (.int .i64 0) 1 8 := Elem.mk (by kernel_rfl) (by rfl) (by decide)
theorem vi_one (l : List Int) : ∀ u ∈ l.map vi, u.oneCell' = true := by
  intro u hu
  obtain ⟨_, _, rfl⟩ := List.mem_map.1 hu
  rfl
def irow (a : Option Addr) (c : Nat) (l : List Int) : Ch := Ch.row 3 1 (.slice a l.length c) l.length (l.map vi)
def IntsRet (l : List Int) (w : World) (e : Ending) (w' : World) : Prop := ∃ a c, e = .returned (.slice a l.length c) ∧ l.length ≤ c ∧ c ≤ maxLen ∧ St w [] [irow a c l] w'
theorem rminus_any (a b : Option Addr) (l m : List Int) (n k cap cap2 : Nat) (w : World) (hs : Sl w a (l.map vi)) (ht : Sl w b (m.map vi)) (hk : m.length = k) (hm2 : k ≤ maxLen) (hn : l.length = n) (hm : n ≤ 100000) :
    Calls Try.prog 64 #[.slice a n cap, .slice b k cap2] w (IntsRet (Ids.minus l m) w) := by
  have cH := fun (id : Int) (W : World) hsl => rhas_any b m k cap2 id W hsl hk hm2
  replace cH := Lib.hid cH
  replace ht := Lib.hid ht
  clear hm2
  have ez := elem_i
  have hS := St.start w
  replace hn := Lib.hid hn
  replace hs := Lib.hid hs
  go_enter Try.func64, Try.ntmps64
  go_wp2_with ((with_reducible refine wpList_build0_st hS rfl rfl Try.underlying29 elem_i ?_); intro g1 w3 hS1; clear hS; have hS := hS1; clear hS1)
  go_loopg [5, 6] n (fun gk vo vx wr => ∃ (j q : Nat) (ao : Option Addr) (co : Nat), j + gk = n ∧ q ≤ j ∧ vx = .int .i64 j ∧ vo = .slice ao q co ∧ Hid (q = (Ids.minus (l.take j) m).length) ∧ St w [] [Ch.row 3 1 (.slice ao q co) q ((Ids.minus (l.take j) m).map vi)] wr)
  case atStart => exact ⟨0, 0, _, _, Nat.zero_add _, Nat.le_refl _, rfl, rfl, Lib.hid rfl, hS⟩
  case round =>
    clear hS
    obtain ⟨j, q, ao, co, hj, hq, rfl, rfl, hql, hS⟩ := hrel
    by_cases hlt : j < n
    · obtain ⟨b1, o1, rfl, c1⟩ := sl_int hs.out j (by rw [hn.out]; exact hlt)
      have t1 := Lib.hid (take_snoc_i l j (by rw [hn.out]; exact hlt))
      generalize l[j]'(by rw [hn.out]; exact hlt) = x at c1 t1
      have c2 := hS.old c1 (by simp)
      have hb := Lib.hid (show Ids.minus (l.take (j + 1)) m = Ids.minus (l.take j) m ++ Ids.takes (!Ids.has m x) x by rw [t1.out]; unfold Ids.minus; rw [List.filter_append]; congr 1; simp [List.filter_cons, Ids.takes])
      have cX := cH.out x wr (hS.sl ht.out)
      generalize Ids.has m x = hx at cX hb
      replace cX := Lib.hid cX
      clear t1
      rcases Bool.eq_false_or_eq_true hx |>.symm with rfl | rfl
      · replace hb := Lib.hid (show Ids.minus (l.take (j + 1)) m = Ids.minus (l.take j) m ++ [x] from hb.out)
        go_wp2_with (first
          | (go_at_call 11; (with_reducible refine cX.out.mono ?_); rintro _ _ ⟨rfl, rfl⟩)
          | ((with_reducible refine wpList_build1c_st hS rfl rfl Try.underlying29 elem_i rfl ?_); intro g3 w3 hS1; clear hS; have hS := hS1; clear hS1)
          | (at_builtin; (with_reducible refine wpList_app_st 1 hS rfl rfl rfl Try.underlying29 elem_i rfl (Src.slice Try.underlying29 (hS.blksl 0 rfl) rfl) rfl (vi_one [x]) (by omega) (by unfold maxLen; omega) ?_); intro v5 w3 hS1; clear hS; have hS := hS1.drop; clear hS1; obtain ⟨a5, c5, rfl, -⟩ := hS.row 0 rfl))
        go_roundg (n - (j + 1))
        case measure => omega
        case rel => exact ⟨j + 1, q + 1, _, _, by omega, by omega, by go_num, rfl, Lib.hid (by rw [hb.out, hql.out]; simp), by rw [hb.out, List.map_append]; exact hS⟩
      · replace hb := Lib.hid (show Ids.minus (l.take (j + 1)) m = Ids.minus (l.take j) m from hb.out.trans (List.append_nil _))
        go_wp2_with (first | (go_at_call 11; (with_reducible refine cX.out.mono ?_); rintro _ _ ⟨rfl, rfl⟩) | fail)
        go_roundg (n - (j + 1))
        case measure => omega
        case rel => exact ⟨j + 1, q, _, _, by omega, by omega, by go_num, rfl, Lib.hid (by rw [hb.out, hql.out]), by rw [hb.out]; exact hS⟩
    · obtain rfl : j = n := by omega
      go_wp2_with fail
      go_ret
      have e1 := hql.out
      obtain ⟨_, _, e2, -, -, h1, h2⟩ := hS.row 0 rfl
      cases e2
      rw [List.take_of_length_le (by rw [hn.out]; exact Nat.le_refl _)] at e1 hS
      subst e1
      exact ⟨_, _, rfl, h1, h2, hS⟩
end Go.Proofs.Ytkbekagmfbgefaa
end
section
namespace Go.Proofs.Ytkbekagmfbgefaa
open Go.RowKit Go.Ofp
set_option maxHeartbeats 4000000
theorem place_le (l : List Int) (id : Int) : Ids.place l id ≤ l.length := List.length_filter_le _ _
theorem intsRet_mk {w w' : World} {a : Option Addr} {c n : Nat} {l : List Int} {xs : List Value} (h : St w [] [Ch.row 3 1 (.slice a n c) n xs] w') (hx : xs = l.map vi) (hn : l.length = n) : IntsRet l w (.returned (.slice a n c)) w' := by
  subst hx hn
  obtain ⟨_, _, e2, -, -, h1, h2⟩ := h.row 0 rfl
  cases e2
  exact ⟨_, _, rfl, h1, h2, h⟩
theorem nil_one : ∀ u ∈ ([] : List Value), u.oneCell' = true := by simp
theorem rput_same (a : Option Addr) (l : List Int) (n cap : Nat) (id : Int) (w : World) (hs : Sl w a (l.map vi)) (hn : l.length = n) (hm : n ≤ 100000) (h : id < 1 ∨ 1073741824 ≤ id ∨ Ids.has l id = true) :
    Calls Try.prog 48 #[.slice a n cap, .int .i64 id] w (IntsRet l w) := by
  have cH := fun (W : World) hsl => rhas_any a l n cap id W hsl hn (by unfold maxLen; omega)
  have ez := elem_i
  have hS := St.start w
  generalize hx : Ids.has l id = hb at cH h
  replace cH := Lib.hid cH
  replace hx := Lib.hid hx
  replace hn := Lib.hid hn
  replace hs := Lib.hid hs
  have key : id < 1 ∨ (1 ≤ id ∧ 1073741824 ≤ id) ∨ ((1 ≤ id ∧ id < 1073741824) ∧ hb = true) := by
    rcases h with h | h | h
    · exact .inl h
    · exact .inr (.inl ⟨by omega, h⟩)
    · by_cases k1 : id < 1
      · exact .inl k1
      · by_cases k2 : 1073741824 ≤ id
        · exact .inr (.inl ⟨by omega, k2⟩)
        · exact .inr (.inr ⟨⟨by omega, by omega⟩, h⟩)
  clear h
  rcases key with h | ⟨h1, h2⟩ | ⟨⟨h1, h2⟩, rfl⟩
  all_goals
    go_enter Try.func48, Try.ntmps48
    go_wp2_with (first
      | (go_at_call 11; (with_reducible refine (cH.out _ hs.out).mono ?_); rintro _ _ ⟨rfl, rfl⟩)
      | ((with_reducible refine wpList_build0_st hS rfl rfl Try.underlying29 elem_i ?_); intro g1 w3 hS1; clear hS; have hS := hS1; clear hS1)
      | (at_builtin; (with_reducible refine wpList_app_st 0 hS rfl rfl rfl Try.underlying29 elem_i rfl (Src.slice Try.underlying29 (hS.sl hs.out) (by simp [hn.out])) rfl (vi_one l) (by omega) (by unfold maxLen; omega) ?_); intro v5 w3 hS1; clear hS; simp only [List.set_cons_zero, Nat.zero_add, List.nil_append] at hS1; have hS := hS1; clear hS1; obtain ⟨a5, c5, rfl, -⟩ := hS.row 0 rfl))
    go_ret
    have e1 := hn.out
    obtain ⟨_, _, e2, -, -, h1, h2⟩ := hS.row 0 rfl
    cases e2
    subst e1
    exact ⟨_, _, rfl, h1, h2, hS⟩
theorem rput_new (a : Option Addr) (l : List Int) (n cap : Nat) (id : Int) (w : World) (hs : Sl w a (l.map vi)) (hn : l.length = n) (hm : n ≤ 100000) (hnc : n ≤ cap) (h1 : 1 ≤ id) (h2 : id < 1073741824) (h3 : Ids.has l id = false) :
    Calls Try.prog 48 #[.slice a n cap, .int .i64 id] w (IntsRet (l.take (Ids.place l id) ++ id :: l.drop (Ids.place l id)) w) := by
  have cH := fun (W : World) hsl => rhas_any a l n cap id W hsl hn (by unfold maxLen; omega)
  have cP := fun (W : World) hsl => rplace_any a l n cap id W hsl hn (by unfold maxLen; omega)
  have ez := elem_i
  have hS := St.start w
  rw [h3] at cH
  have hp := place_le l id
  rw [hn] at hp
  generalize Ids.place l id = p at cP hp ⊢
  have hs1 : Sl w a ((l.take p).map vi) := by rw [List.map_take]; exact hs.take p
  have hl1 : ((l.take p).map vi).length = p * 1 := by simp; omega
  replace cH := Lib.hid cH
  replace cP := Lib.hid cP
  replace h3 := Lib.hid h3
  replace hs1 := Lib.hid hs1
  replace hl1 := Lib.hid hl1
  have hs2 : ∀ b off, a = some ⟨b, off, none⟩ → Sl w (some ⟨b, off + p, none⟩) ((l.drop p).map vi) := by
    rintro b off rfl
    have := hs.drop p
    rwa [← List.map_drop] at this
  have hl2 : ((l.drop p).map vi).length = (n - p) * 1 := by simp; omega
  have hfin : l.take p ++ [id] ++ l.drop p = l.take p ++ id :: l.drop p := by simp
  have hln : (l.take p ++ id :: l.drop p).length = p + 1 + (n - p) := by simp; omega
  replace hl2 := Lib.hid hl2
  replace hfin := Lib.hid hfin
  replace hln := Lib.hid hln
  replace hs2 := Lib.hid hs2
  by_cases hz : n = 0
  · subst hz
    obtain rfl : l = [] := List.length_eq_zero_iff.1 hn
    obtain rfl : p = 0 := by omega
    clear hs1 hs2 hnc hl1 hl2
    replace hs := Lib.hid hs
    replace hn := Lib.hid hn
    cases a with
    | none =>
      go_enter Try.func48, Try.ntmps48
      go_wp2_with (first
        | (go_at_call 11; (with_reducible refine (cH.out _ hs.out).mono ?_); rintro _ _ ⟨rfl, rfl⟩)
        | (go_at_call 63; (with_reducible refine (cP.out _ (hS.sl hs.out)).mono ?_); rintro _ _ ⟨rfl, rfl⟩)
        | ((with_reducible refine wpList_build0_st hS rfl rfl Try.underlying29 elem_i ?_); intro g1 w3 hS1; clear hS; have hS := hS1; clear hS1)
        | ((with_reducible refine wpList_build1c_st hS rfl rfl Try.underlying29 elem_i rfl ?_); intro g3 w3 hS1; clear hS; have hS := hS1; clear hS1)
        | (at_builtin; (with_reducible refine wpList_app_st 1 hS rfl rfl rfl Try.underlying29 elem_i rfl (Src.slice Try.underlying29 (hS.blksl 0 rfl) rfl) rfl (vi_one [id]) (by omega) (by unfold maxLen; omega) ?_); intro v5 w3 hS1; clear hS; have hS := hS1.drop; clear hS1; obtain ⟨a6, c6, rfl, -⟩ := hS.row 0 rfl)
        | (at_builtin; (with_reducible refine wpList_app_st 0 hS rfl rfl rfl Try.underlying29 elem_i rfl (Src.slice Try.underlying29 (Sl.nil _ _) (by simp)) rfl nil_one (by omega) (by unfold maxLen; omega) ?_); intro v5 w3 hS1; clear hS; simp only [List.set_cons_zero, Nat.zero_add, List.nil_append] at hS1; have hS := hS1; clear hS1; obtain ⟨a5, c5, rfl, -⟩ := hS.row 0 rfl)
        | (at_builtin; (with_reducible refine wpList_app_st 0 hS rfl rfl rfl Try.underlying29 elem_i rfl (Src.slice Try.underlying29 (Sl.nil _ _) (by simp)) rfl nil_one (by omega) (by unfold maxLen; omega) ?_); intro v5 w3 hS1; clear hS; have hS := hS1; clear hS1; obtain ⟨a7, c7, rfl, -⟩ := hS.row 0 rfl))
      go_ret
      have r := intsRet_mk hS (l := ([] : List Int).take 0 ++ id :: ([] : List Int).drop 0) (by simp) (by simp)
      exact r
    | some ad =>
      obtain ⟨b, off, spot⟩ := ad
      go_enter Try.func48, Try.ntmps48
      go_wp2_with (first
        | (go_at_call 11; (with_reducible refine (cH.out _ hs.out).mono ?_); rintro _ _ ⟨rfl, rfl⟩)
        | (go_at_call 63; (with_reducible refine (cP.out _ (hS.sl hs.out)).mono ?_); rintro _ _ ⟨rfl, rfl⟩)
        | ((with_reducible refine wpList_build0_st hS rfl rfl Try.underlying29 elem_i ?_); intro g1 w3 hS1; clear hS; have hS := hS1; clear hS1)
        | ((with_reducible refine wpList_build1c_st hS rfl rfl Try.underlying29 elem_i rfl ?_); intro g3 w3 hS1; clear hS; have hS := hS1; clear hS1)
        | (at_builtin; (with_reducible refine wpList_app_st 1 hS rfl rfl rfl Try.underlying29 elem_i rfl (Src.slice Try.underlying29 (hS.blksl 0 rfl) rfl) rfl (vi_one [id]) (by omega) (by unfold maxLen; omega) ?_); intro v5 w3 hS1; clear hS; have hS := hS1.drop; clear hS1; obtain ⟨a6, c6, rfl, -⟩ := hS.row 0 rfl)
        | (at_builtin; (with_reducible refine wpList_app_st 0 hS rfl rfl rfl Try.underlying29 elem_i rfl (Src.slice Try.underlying29 (Sl.nil _ _) (by simp)) rfl nil_one (by omega) (by unfold maxLen; omega) ?_); intro v5 w3 hS1; clear hS; simp only [List.set_cons_zero, Nat.zero_add, List.nil_append] at hS1; have hS := hS1; clear hS1; obtain ⟨a5, c5, rfl, -⟩ := hS.row 0 rfl)
        | (at_builtin; (with_reducible refine wpList_app_st 0 hS rfl rfl rfl Try.underlying29 elem_i rfl (Src.slice Try.underlying29 (Sl.nil _ _) (by simp)) rfl nil_one (by omega) (by unfold maxLen; omega) ?_); intro v5 w3 hS1; clear hS; have hS := hS1; clear hS1; obtain ⟨a7, c7, rfl, -⟩ := hS.row 0 rfl))
      go_ret
      have r := intsRet_mk hS (l := ([] : List Int).take 0 ++ id :: ([] : List Int).drop 0) (by simp) (by simp)
      exact r
  · obtain ⟨b, off, rfl⟩ := hs.cells (by intro e; rw [← hn] at hz; simp at e; simp [e] at hz)
    replace hs2 := hs2.out b off rfl
    by_cases hcp : cap = p
    · subst hcp
      obtain rfl : n = cap := by omega
      have hdn : l.drop n = [] := List.drop_of_length_le (by omega)
      rw [hdn] at hfin hln ⊢
      clear hl2
      replace hs := Lib.hid hs
      replace hn := Lib.hid hn
      replace hz := Lib.hid hz
      clear hs2 hdn
      go_enter Try.func48, Try.ntmps48
      go_wp2_with (first
        | (go_at_call 11; (with_reducible refine (cH.out _ hs.out).mono ?_); rintro _ _ ⟨rfl, rfl⟩)
        | (go_at_call 63; (with_reducible refine (cP.out _ (hS.sl hs.out)).mono ?_); rintro _ _ ⟨rfl, rfl⟩)
        | ((with_reducible refine wpList_build0_st hS rfl rfl Try.underlying29 elem_i ?_); intro g1 w3 hS1; clear hS; have hS := hS1; clear hS1)
        | ((with_reducible refine wpList_build1c_st hS rfl rfl Try.underlying29 elem_i rfl ?_); intro g3 w3 hS1; clear hS; have hS := hS1; clear hS1)
        | (at_builtin; (with_reducible refine wpList_app_st 1 hS rfl rfl rfl Try.underlying29 elem_i rfl (Src.slice Try.underlying29 (hS.blksl 0 rfl) rfl) rfl (vi_one [id]) (by omega) (by unfold maxLen; omega) ?_); intro v5 w3 hS1; clear hS; have hS := hS1.drop; clear hS1; obtain ⟨a6, c6, rfl, -⟩ := hS.row 0 rfl)
        | (at_builtin; (with_reducible refine wpList_app_st 0 hS rfl rfl rfl Try.underlying29 elem_i rfl (Src.slice Try.underlying29 (hS.sl hs1.out) hl1.out) rfl (vi_one _) (by omega) (by unfold maxLen; omega) ?_); intro v5 w3 hS1; clear hS; simp only [List.set_cons_zero, Nat.zero_add, List.nil_append] at hS1; have hS := hS1; clear hS1; obtain ⟨a5, c5, rfl, -⟩ := hS.row 0 rfl)
        | (at_builtin; (with_reducible refine wpList_app_st 0 hS rfl rfl rfl Try.underlying29 elem_i rfl (Src.slice Try.underlying29 (Sl.nil _ _) (by simp)) rfl nil_one (by omega) (by unfold maxLen; omega) ?_); intro v5 w3 hS1; clear hS; have hS := hS1; clear hS1; obtain ⟨a7, c7, rfl, -⟩ := hS.row 0 rfl))
      go_ret
      have r := intsRet_mk hS (l := l.take n ++ id :: []) (by simp) (by have := hln.out; omega)
      exact r
    · replace hs2 := Lib.hid hs2
      replace hs := Lib.hid hs
      replace hn := Lib.hid hn
      replace hz := Lib.hid hz
      go_enter Try.func48, Try.ntmps48
      go_wp2_with (first
        | (go_at_call 11; (with_reducible refine (cH.out _ hs.out).mono ?_); rintro _ _ ⟨rfl, rfl⟩)
        | (go_at_call 63; (with_reducible refine (cP.out _ (hS.sl hs.out)).mono ?_); rintro _ _ ⟨rfl, rfl⟩)
        | ((with_reducible refine wpList_build0_st hS rfl rfl Try.underlying29 elem_i ?_); intro g1 w3 hS1; clear hS; have hS := hS1; clear hS1)
        | ((with_reducible refine wpList_build1c_st hS rfl rfl Try.underlying29 elem_i rfl ?_); intro g3 w3 hS1; clear hS; have hS := hS1; clear hS1)
        | (at_builtin; (with_reducible refine wpList_app_st 1 hS rfl rfl rfl Try.underlying29 elem_i rfl (Src.slice Try.underlying29 (hS.blksl 0 rfl) rfl) rfl (vi_one [id]) (by omega) (by unfold maxLen; omega) ?_); intro v5 w3 hS1; clear hS; have hS := hS1.drop; clear hS1; obtain ⟨a6, c6, rfl, -⟩ := hS.row 0 rfl)
        | (at_builtin; (with_reducible refine wpList_app_st 0 hS rfl rfl rfl Try.underlying29 elem_i rfl (Src.slice Try.underlying29 (hS.sl hs1.out) hl1.out) rfl (vi_one _) (by omega) (by unfold maxLen; omega) ?_); intro v5 w3 hS1; clear hS; simp only [List.set_cons_zero, Nat.zero_add, List.nil_append] at hS1; have hS := hS1; clear hS1; obtain ⟨a5, c5, rfl, -⟩ := hS.row 0 rfl)
        | (at_builtin; (with_reducible refine wpList_app_st 0 hS rfl rfl rfl Try.underlying29 elem_i rfl (Src.slice Try.underlying29 (hS.sl hs2.out) hl2.out) rfl (vi_one _) (by omega) (by unfold maxLen; omega) ?_); intro v5 w3 hS1; clear hS; have hS := hS1; clear hS1; obtain ⟨a7, c7, rfl, -⟩ := hS.row 0 rfl))
      go_ret
      have r := intsRet_mk hS (l := l.take p ++ id :: l.drop p) (by rw [← hfin.out]; simp) hln.out
      exact r
theorem rput_any (a : Option Addr) (l : List Int) (n cap : Nat) (id : Int) (w : World) (hs : Sl w a (l.map vi)) (hn : l.length = n) (hm : n ≤ 100000) (hnc : n ≤ cap) :
    Calls Try.prog 48 #[.slice a n cap, .int .i64 id] w (IntsRet (Ids.put l id) w) := by
  by_cases h : id < 1 ∨ 1073741824 ≤ id ∨ Ids.has l id = true
  · rw [show Ids.put l id = l by unfold Ids.put; rw [if_pos h]]
    exact rput_same a l n cap id w hs hn hm h
  · rw [show Ids.put l id = l.take (Ids.place l id) ++ id :: l.drop (Ids.place l id) by unfold Ids.put; rw [if_neg h]]
    have h3 : Ids.has l id = false := by
      cases e : Ids.has l id with
      | false => rfl
      | true => exact absurd (.inr (.inr e)) h
    exact rput_new a l n cap id w hs hn hm hnc (by omega) (by omega) h3
end Go.Proofs.Ytkbekagmfbgefaa
end
section
namespace Go.Ofp.Ids
theorem lt_place (l : List Int) (id : Int) (h : Up l) (k : Nat) (hk : k < l.length) : l[k] < id ↔ k < place l id := by
  obtain ⟨h1, h2⟩ := up_take_drop l id h
  constructor
  · intro hl
    by_cases hp : k < place l id
    · exact hp
    · have : l[k] ∈ l.drop (place l id) := by
        rw [List.mem_drop_iff_getElem]
        exact ⟨k - place l id, by omega, by congr 1; omega⟩
      have := (h2 _).1 this
      omega
  · intro hp
    have : l[k] ∈ l.take (place l id) := by
      rw [List.mem_take_iff_getElem]
      exact ⟨k, by omega, rfl⟩
    exact ((h1 _).1 this).2
theorem has_place (l : List Int) (id : Int) (h : Up l) : has l id = if hp : place l id < l.length then decide (l[place l id] = id) else false := by
  obtain ⟨h1, h2⟩ := up_take_drop l id h
  split
  · rename_i hp
    have hge : id ≤ l[place l id] := ((h2 _).1 (by rw [List.mem_drop_iff_getElem]; exact ⟨0, by omega, by simp⟩)).2
    by_cases he : l[place l id] = id
    · rw [decide_eq_true he, has_iff]
      rw [← he]
      exact List.getElem_mem hp
    · rw [decide_eq_false he]
      cases e : has l id with
      | false => rfl
      | true =>
        rw [has_iff] at e
        obtain ⟨k, hk, hke⟩ := List.getElem_of_mem e
        have hn := (lt_place l id h k hk)
        have : ¬ k < place l id := by rw [← hn]; omega
        have hlt : place l id < k := by
          rcases Nat.lt_or_ge (place l id) k with h | h
          · exact h
          · have : k = place l id := by omega
            subst this
            exact absurd hke he
        have := (List.pairwise_iff_getElem.1 h) (place l id) k hp hk hlt
        omega
  · rename_i hp
    cases e : has l id with
    | false => rfl
    | true =>
      rw [has_iff] at e
      obtain ⟨k, hk, hke⟩ := List.getElem_of_mem e
      have := (lt_place l id h k hk).2 (by omega)
      omega
end Go.Ofp.Ids
namespace Go.Proofs.Ytkbekagmfbgefaa
open Go.RowKit Go.Ofp
set_option maxHeartbeats 4000000
theorem nan1_any (x : Int) (w : World) : Calls Try.prog 67 #[.int .i64 x] w fun e w' => e = .returned (.bool false) ∧ w = w' := by
  go_enter Try.func67, Try.ntmps67
  go_wp2_with fail
  go_ret
  exact ⟨rfl, rfl⟩
theorem nan2_any (x : Int) (w : World) : Calls Try.prog 66 #[.int .i64 x] w fun e w' => e = .returned (.bool false) ∧ w = w' := by
  go_enter Try.func66, Try.ntmps66
  go_wp2_with fail
  go_ret
  exact ⟨rfl, rfl⟩
theorem less_any (x y : Int) (w : World) : Calls Try.prog 65 #[.int .i64 x, .int .i64 y] w fun e w' => e = .returned (.bool (decide (x < y))) ∧ w = w' := by
  go_enter Try.func65, Try.ntmps65
  go_wp2_with (go_at_call 67; (with_reducible refine (nan1_any _ _).mono ?_); rintro _ _ ⟨rfl, rfl⟩)
  go_ret
  exact ⟨rfl, rfl⟩
theorem search_any (a : Option Addr) (l : List Int) (n cap : Nat) (id : Int) (w : World) (hs : Sl w a (l.map vi)) (hn : l.length = n) (hm : n ≤ 100000) (hu : Ids.Up l) :
    Calls Try.prog 54 #[.slice a n cap, .int .i64 id] w fun e w' => e = .returned (.tuple #[.int .i64 (Ids.place l id), .bool (Ids.has l id)]) ∧ w = w' := by
  have hp := place_le l id
  rw [hn] at hp
  have hlt := Lib.hid (Ids.lt_place l id hu)
  have hhas := Lib.hid (Ids.has_place l id hu)
  generalize hq : Ids.place l id = p at hp hlt hhas ⊢
  replace hn := Lib.hid hn
  replace hs := Lib.hid hs
  clear hu hq
  go_enter Try.func54, Try.ntmps54
  go_wp2_with fail
  go_loopg [7, 8] n (fun gk vx vy wr => ∃ i j : Nat, i ≤ p ∧ p ≤ j ∧ j ≤ n ∧ gk = j - i ∧ vx = .int .i64 i ∧ vy = .int .i64 j ∧ wr = w)
  case atStart => exact ⟨0, n, Nat.zero_le _, hp, Nat.le_refl _, rfl, rfl, rfl, rfl⟩
  case round =>
    obtain ⟨i, j, h1, h2, h3, rfl, rfl, rfl, rfl⟩ := hrel
    by_cases hij : i < j
    · have hmid : (i + j) / 2 < n := by omega
      obtain ⟨b, off, rfl, hc⟩ := sl_int hs.out ((i + j) / 2) (by rw [hn.out]; exact hmid)
      have hl2 := hlt.out ((i + j) / 2) (by rw [hn.out]; exact hmid)
      generalize l[(i + j) / 2]'(by rw [hn.out]; exact hmid) = x at hc hl2
      by_cases hx : x < id
      · have hp2 := hl2.1 hx
        clear hl2
        go_wp2_with (go_at_call 65; (with_reducible refine (less_any _ _ _).mono ?_); rintro _ _ ⟨rfl, rfl⟩)
        go_roundg (j - ((i + j) / 2 + 1))
        case measure => omega
        case rel => exact ⟨(i + j) / 2 + 1, j, by omega, h2, h3, rfl, congrArg (Value.int .i64) (by omega), rfl, rfl⟩
      · have hp2 : p ≤ (i + j) / 2 := by
          rcases Nat.lt_or_ge ((i + j) / 2) p with h | h
          · exact absurd (hl2.2 h) hx
          · exact h
        have hxb : decide (x < id) = false := decide_eq_false hx
        clear hl2 hx
        go_wp2_with (go_at_call 65; (with_reducible refine (less_any _ _ _).mono ?_); rintro _ _ ⟨rfl, rfl⟩)
        go_roundg ((i + j) / 2 - i)
        case measure => omega
        case rel => exact ⟨i, (i + j) / 2, h1, hp2, by omega, rfl, rfl, congrArg (Value.int .i64) (by omega), rfl⟩
    · obtain rfl : i = p := by omega
      obtain rfl : j = i := by omega
      clear h1 h2 hp hij
      by_cases hj : j < n
      · obtain ⟨b, off, rfl, hc⟩ := sl_int hs.out j (by rw [hn.out]; exact hj)
        have hh := hhas.out
        rw [dif_pos (by rw [hn.out]; exact hj)] at hh
        generalize l[j]'(by rw [hn.out]; exact hj) = x at hc hh
        by_cases hx : x = id
        · subst hx
          rw [decide_eq_true rfl] at hh
          replace hh := Lib.hid hh
          go_wp2_with (go_at_call 66; (with_reducible refine (nan2_any _ _).mono ?_); rintro _ _ ⟨rfl, rfl⟩)
          go_ret2
          exact ⟨by rw [hh.out]; rfl, rfl⟩
        · rw [decide_eq_false hx] at hh
          have hxb : (x == id) = false := by rw [beq_eq_false_iff_ne]; exact hx
          replace hh := Lib.hid hh
          replace hx := Lib.hid hx
          go_wp2_with (go_at_call 66; (with_reducible refine (nan2_any _ _).mono ?_); rintro _ _ ⟨rfl, rfl⟩)
          go_ret2
          exact ⟨by rw [hh.out]; rfl, rfl⟩
      · have hh := hhas.out
        rw [dif_neg (by rw [hn.out]; exact hj)] at hh
        replace hh := Lib.hid hh
        have hj2 : n ≤ j := by omega
        clear hj
        go_wp2_with fail
        go_ret2
        exact ⟨by rw [hh.out]; rfl, rfl⟩
theorem clone_some (ad : Addr) (l : List Int) (n cap : Nat) (w : World) (hs : Sl w (some ad) (l.map vi)) (hn : l.length = n) (hm : n ≤ 100000) :
    Calls Try.prog 34 #[.slice (some ad) n cap] w (IntsRet l w) := by
  have ez := elem_i
  have hS := St.start w
  have he := fun (W : World) (a : Option Addr) (n c : Nat) => Lib.run_eql_slice_nil (P := Try.prog) W 29 3 a n c 0 0 Try.underlying29
  replace hn := Lib.hid hn
  replace hs := Lib.hid hs
  go_enter Try.func34, Try.ntmps34
  go_wp2_with (first
      | ((with_reducible refine wpList_build0_st hS rfl rfl Try.underlying29 elem_i ?_); intro g1 w3 hS1; clear hS; have hS := hS1; clear hS1)
      | (at_builtin; (with_reducible refine wpList_app_st 0 hS rfl rfl rfl Try.underlying29 elem_i rfl (Src.slice Try.underlying29 (hS.sl hs.out) (by simp [hn.out])) rfl (vi_one l) (by omega) (by unfold maxLen; omega) ?_); intro v5 w3 hS1; clear hS; simp only [List.set_cons_zero, Nat.zero_add, List.nil_append] at hS1; have hS := hS1; clear hS1; obtain ⟨a5, c5, rfl, -⟩ := hS.row 0 rfl))
  go_ret
  have r := intsRet_mk hS rfl hn.out
  exact r
theorem clone_none (w : World) : Calls Try.prog 34 #[.slice none 0 0] w (IntsRet [] w) := by
  have hS := St.start w
  have he := fun (W : World) (a : Option Addr) (n c : Nat) => Lib.run_eql_slice_nil (P := Try.prog) W 29 3 a n c 0 0 Try.underlying29
  go_enter Try.func34, Try.ntmps34
  go_wp2_with fail
  go_ret
  exact intsRet_mk (hS.nilrow 3 1) rfl rfl
theorem clone_any (a : Option Addr) (l : List Int) (n cap : Nat) (w : World) (hs : Sl w a (l.map vi)) (hn : l.length = n) (hm : n ≤ 100000) (hc : a = none → cap = 0) :
    Calls Try.prog 34 #[.slice a n cap] w (IntsRet l w) := by
  cases a with
  | some ad => exact clone_some ad l n cap w hs hn hm
  | none =>
    have hl : l = [] := by
      by_cases h : l = []
      · exact h
      · obtain ⟨b, off, e⟩ := hs.cells (by simpa using h)
        cases e
    subst hl
    subst hn
    rw [hc rfl]
    exact clone_none w
end Go.Proofs.Ytkbekagmfbgefaa
end
section
namespace Go.Ofp
open Go.RowKit
theorem Whole.shape {w : World} {g t : Nat} {cs : Array Value} (h : Whole w g t cs) : w.shape? g = some (t, cs.size) := by
  unfold Whole at h
  simp [World.shape?, h]
theorem drop_take_of {α : Type} (cur L : List α) (n i : Nat) (h : cur.take n = L) : (cur.drop i).take (n - i) = L.drop i := by
  subst h
  rw [List.drop_take]
theorem insert_cells {α : Type} (cur L V : List α) (n i s : Nat) (h : cur.take n = L) (hi : i ≤ n) (hV : V.length = s) (hl : n + s ≤ cur.length) :
    (((cur.take (i + s) ++ (cur.drop i).take (n - i) ++ cur.drop (i + s + (n - i))).take i ++ V ++ (cur.take (i + s) ++ (cur.drop i).take (n - i) ++ cur.drop (i + s + (n - i))).drop (i + s)).take (n + s)) = L.take i ++ V ++ L.drop i := by
  rw [drop_take_of cur L n i h]
  have hLl : L.length = n := by subst h; rw [List.length_take]; omega
  have e1 : (cur.take (i + s) ++ L.drop i ++ cur.drop (i + s + (n - i))).take i = L.take i := by
    rw [List.append_assoc, List.take_append_of_le_length (by rw [List.length_take]; omega), List.take_take, Nat.min_eq_left (by omega)]
    subst h
    rw [List.take_take, Nat.min_eq_left hi]
  have e2 : (cur.take (i + s) ++ L.drop i ++ cur.drop (i + s + (n - i))).drop (i + s) = L.drop i ++ cur.drop (i + s + (n - i)) := by
    rw [List.append_assoc, List.drop_left' (by rw [List.length_take]; omega)]
  rw [e1, e2, ← List.append_assoc, List.take_left' (by simp only [List.length_append, List.length_take, List.length_drop, hV, hLl]; omega)]
theorem grow_cells {α : Type} (cur A Z V D : List α) (n i s : Nat) (h : cur.take (n + s) = A ++ Z) (hA : A.length = i) (hi : i ≤ n) (hV : V.length = s) (hD : D.length = n - i) (hl : n + s ≤ cur.length) :
    (((cur.take i ++ V ++ cur.drop (i + s)).take (i + s) ++ D ++ (cur.take i ++ V ++ cur.drop (i + s)).drop (i + s + (n - i))).take (n + s)) = A ++ V ++ D := by
  have e0 : cur.take i = A := by
    have := congrArg (List.take i) h
    rw [List.take_take, Nat.min_eq_left (by omega), List.take_append_of_le_length (by omega), List.take_of_length_le (l := A) (by omega)] at this
    exact this
  rw [e0]
  have e1 : (A ++ V ++ cur.drop (i + s)).take (i + s) = A ++ V := List.take_left' (by rw [List.length_append, hA, hV])
  rw [e1, List.take_left' (by simp only [List.length_append, hA, hV, hD]; omega)]
end Go.Ofp
namespace Go.Proofs.Ytkbekagmfbgefaa
open Go.RowKit Go.Ofp
set_option maxHeartbeats 4000000
theorem overlaps_no (w : World) (gv g j m lb cb : Nat) (cv cs : Array Value) (hv : Whole w gv 3 cv) (hg : Whole w g 3 cs) (hne : gv ≠ g) (hcs : cs.size ≠ 0) :
    (callFunc 68 #[.slice (some ⟨gv, 0, none⟩) m m, .slice (some ⟨g, j, none⟩) lb cb]).run Try.prog w = .ok (.value (.bool false)) w := by
  have hz : ∀ w : World, (sizeOf 3).run Try.prog w = .ok 1 w := fun w => by kernel_rfl
  rw [run_callFunc_extern Try.func68 (by kernel_rfl) (by kernel_rfl) (by kernel_rfl) (e := Extern.SlicesOverlaps.overlaps #[29, 29] #[4]) (by kernel_rfl),
    Lib.run_overlaps_apart w 29 4 3 Try.underlying29 1 hz ⟨gv, 0, none⟩ ⟨g, j, none⟩ m m lb cb hne _ _ _ _ hv.shape hg.shape hcs (hv.frozen 0) (hv.frozen cv.size)]
  rfl
theorem insert_room (g gv n c i : Nat) (l : List Int) (x : Int) (w : World) (h : St w (feet [Ch.row 3 1 (.slice (some ⟨g, 0, none⟩) n c) n (l.map vi), Ch.blk gv 3 #[.int .i64 x]]) [Ch.row 3 1 (.slice (some ⟨g, 0, none⟩) n c) n (l.map vi), Ch.blk gv 3 #[.int .i64 x]] w)
    (hn : l.length = n) (hi : i < n) (hc : n + 1 ≤ c) (hm : n ≤ 100000) :
    Calls Try.prog 59 #[.slice (some ⟨g, 0, none⟩) n c, .int .i64 i, .slice (some ⟨gv, 0, none⟩) 1 1] w fun e w' => ∃ a' c', e = .returned (.slice a' (n + 1) c') ∧ St w (feet [Ch.row 3 1 (.slice (some ⟨g, 0, none⟩) n c) n (l.map vi), Ch.blk gv 3 #[.int .i64 x]]) [Ch.row 3 1 (.slice a' (n + 1) c') (n + 1) ((l.take i ++ x :: l.drop i).map vi)] w' := by
  generalize feet [Ch.row 3 1 (.slice (some ⟨g, 0, none⟩) n c) n (l.map vi), Ch.blk gv 3 #[.int .i64 x]] = F at h ⊢
  obtain ⟨cur, h1, h2, h3, h4, hS⟩ := h.rowblk
  clear h
  have hne : gv ≠ g := fun e => by
    have := hS.apart 1 0 _ _ rfl rfl (by omega) gv (by simp [Ch.blk])
    simp [Ch.blk, e] at this
  have hov := fun lb cb => overlaps_no w gv g (i + 1) 1 lb cb _ _ (hS.get 1 rfl) (hS.get 0 rfl) hne (by omega)
  have h4' : c ≤ 9223372036854775807 := by unfold maxLen at h4; omega
  have hci : ¬ (c = i) := by omega
  have hci1 : ¬ (c = i + 1) := by omega
  rw [Nat.mul_one] at h1 h2
  have hcl : cur.toList.length = c := by simpa using h1
  have hfin := insert_cells cur.toList (l.map vi) [.int .i64 x] n i 1 h2 (by omega) rfl (by omega)
  have hone1 : ∀ u ∈ (cur.toList.drop i).take (n - i), u.oneCell' = true := by
    rw [drop_take_of _ _ n i h2, ← List.map_drop]; exact vi_one _
  have hlen1 : ((cur.toList.drop i).take (n - i)).length = (n - i) * 1 := by rw [List.length_take, List.length_drop]; omega
  have hfit1 : i + 1 + (n - i) * 1 ≤ cur.size := by omega
  have hfin2 : l.map vi = l.map vi := rfl
  have hk1 : Nat.min (n + 1 - i) (n - i) = n - i := Nat.min_eq_right (by omega)
  have hk2 : Nat.min 1 (n + 1 - i) = 1 := Nat.min_eq_left (by omega)
  replace hfin := Lib.hid hfin
  replace hone1 := Lib.hid hone1
  replace hlen1 := Lib.hid hlen1
  replace hfit1 := Lib.hid hfit1
  replace hk1 := Lib.hid hk1
  replace hk2 := Lib.hid hk2
  replace h1 := Lib.hid h1
  replace h2 := Lib.hid h2
  replace hcl := Lib.hid hcl
  clear hfin2
  have hb1 : (i : Int) ≤ (n : Int) + 1 := by omega
  have hb2 : (i : Int) ≤ (n : Int) := by omega
  go_enter Try.func59, Try.ntmps59
  go_wp2_with fail
  clear hov
  have s1 : (0 : Int) ≤ (i : Int) + 1 := by omega
  have s2 : ((i : Int) + 1).toNat = i + 1 := by omega
  have s3 : (i : Int) + 1 ≤ (n : Int) + 1 := by omega
  have s4 : n + 1 - (i + 1) = n - i := by omega
  have s5 : IntKind.i64.wrap ((i : Int) + 1) = (i : Int) + 1 := IntWalk.i64_in _ (by omega)
  refine mixs_beginE (by kernel_rfl) hS ?_
  clear hS
  intro w2 hS hC
  refine tk 0 ?_
  refine tk 1 ?_
  refine tk 2 ?_
  refine tk 3 ?_
  refine tk 4 ?_
  refine tk 5 ?_
  refine tk 6 ?_
  refine tk 7 ?_
  refine mixs_one 8 (by kernel_rfl) rfl (fun K hK => ?_)
  ( refine op_copyblk_st (by kernel_rfl) 0 hS rfl rfl Try.underlying29 elem_i rfl rfl (hS.blkpart 0 rfl i (n - i)) hk1.out hlen1.out hone1.out hfit1.out ?_; intro w3 hS1; clear hS; have hS := hS1; clear hS1 )
  try clear hC
  refine cl hK (fun hC => ?_)
  clear hK K
  refine wpAnyH_done (by kernel_rfl) ?_ _
  clear s1 s2 s3 s4 s5
  go_wp2_with ((with_reducible refine wpList_copyblk_st 0 (off := i) (nd := n + 1 - i) hS rfl rfl rfl Try.underlying29 elem_i rfl rfl (hS.blksl2 1 rfl) hk2.out (by simp) (vi_one [x]) (by have := h1.out; simp; omega) ?_); intro w3 hS1; clear hS; have hS := hS1; clear hS1)
  go_ret
  simp only [List.set_cons_zero, Nat.mul_one] at hS
  have hr := hS.blkrow2 1 (n := n + 1) (c := c) (xs := (l.take i ++ x :: l.drop i).map vi) (by have := h1.out; simp; omega) hc h4 (by
    rw [Nat.mul_one]
    have := hfin.out
    simpa [vi] using this)
  rw [List.map_append, List.map_cons, List.map_take, List.map_drop] at hr
  exact ⟨_, _, rfl, hr.drop1⟩
def insA (a : Option Addr) (n c gv : Nat) (l : List Int) (x : Int) : List Ch := [Ch.row 3 1 (.slice a n c) n (l.map vi), Ch.blk gv 3 #[.int .i64 x]]
def InsRet (F : List Nat) (n i : Nat) (l : List Int) (x : Int) (w : World) (e : Ending) (w' : World) : Prop := ∃ a' c', e = .returned (.slice a' (n + 1) c') ∧ St w F [Ch.row 3 1 (.slice a' (n + 1) c') (n + 1) ((l.take i ++ x :: l.drop i).map vi)] w'
theorem insert_end (a : Option Addr) (gv n c : Nat) (l : List Int) (x : Int) (w : World) (h : St w (feet (insA a n c gv l x)) (insA a n c gv l x) w) (hn : l.length = n) (hm : n ≤ 100000) :
    Calls Try.prog 59 #[.slice a n c, .int .i64 n, .slice (some ⟨gv, 0, none⟩) 1 1] w (InsRet (feet (insA a n c gv l x)) n n l x w) := by
  generalize feet (insA a n c gv l x) = F at h ⊢
  have hS : St w F [Ch.row 3 1 (.slice a n c) n (l.map vi), Ch.blk gv 3 #[.int .i64 x]] w := h
  clear h
  have hfin := Lib.hid (show l.map vi ++ [x].map vi = (l.take n ++ x :: l.drop n).map vi by rw [List.take_of_length_le (by omega), List.drop_of_length_le (by omega), List.map_append])
  have hsh := (hS.get 0 rfl).2
  rcases hsh with ⟨e, e0⟩ | ⟨g, cap, cur, e, -, -, h3, h4, -⟩
  · cases e
    replace hn := Lib.hid hn
    clear e0
    go_enter Try.func59, Try.ntmps59
    go_wp2_with (at_builtin; (with_reducible refine wpList_app_st 0 hS rfl rfl rfl Try.underlying29 elem_i rfl (Src.slice Try.underlying29 (hS.blksl2 1 rfl) rfl) rfl (vi_one [x]) (by omega) (by unfold maxLen; omega) ?_); intro v5 w3 hS1; clear hS; simp only [List.set_cons_zero] at hS1; have hS := hS1; clear hS1; obtain ⟨a5, c5, rfl, -⟩ := hS.row 0 rfl)
    go_ret
    rw [hfin.out] at hS
    exact ⟨_, _, rfl, hS.drop1⟩
  · cases e
    have h4' : c ≤ 9223372036854775807 := by unfold maxLen at h4; omega
    replace hn := Lib.hid hn
    by_cases hcn : c = n
    · subst hcn
      go_enter Try.func59, Try.ntmps59
      go_wp2_with (at_builtin; (with_reducible refine wpList_app_st 0 hS rfl rfl rfl Try.underlying29 elem_i rfl (Src.slice Try.underlying29 (hS.blksl2 1 rfl) rfl) rfl (vi_one [x]) (by omega) (by unfold maxLen; omega) ?_); intro v5 w3 hS1; clear hS; simp only [List.set_cons_zero] at hS1; have hS := hS1; clear hS1; obtain ⟨a5, c5, rfl, -⟩ := hS.row 0 rfl)
      go_ret
      rw [hfin.out] at hS
      exact ⟨_, _, rfl, hS.drop1⟩
    · go_enter Try.func59, Try.ntmps59
      go_wp2_with (at_builtin; (with_reducible refine wpList_app_st 0 hS rfl rfl rfl Try.underlying29 elem_i rfl (Src.slice Try.underlying29 (hS.blksl2 1 rfl) rfl) rfl (vi_one [x]) (by omega) (by unfold maxLen; omega) ?_); intro v5 w3 hS1; clear hS; simp only [List.set_cons_zero] at hS1; have hS := hS1; clear hS1; obtain ⟨a5, c5, rfl, -⟩ := hS.row 0 rfl)
      go_ret
      rw [hfin.out] at hS
      exact ⟨_, _, rfl, hS.drop1⟩
theorem insert_grow (g gv n i : Nat) (l : List Int) (x : Int) (w : World) (h : St w (feet (insA (some ⟨g, 0, none⟩) n n gv l x)) (insA (some ⟨g, 0, none⟩) n n gv l x) w) (hn : l.length = n) (hi : i < n) (hm : n ≤ 100000) :
    Calls Try.prog 59 #[.slice (some ⟨g, 0, none⟩) n n, .int .i64 i, .slice (some ⟨gv, 0, none⟩) 1 1] w (InsRet (feet (insA (some ⟨g, 0, none⟩) n n gv l x)) n i l x w) := by
  generalize feet (insA (some ⟨g, 0, none⟩) n n gv l x) = F at h ⊢
  have hS : St w F [Ch.row 3 1 (.slice (some ⟨g, 0, none⟩) n n) n (l.map vi), Ch.blk gv 3 #[.int .i64 x]] w := h
  clear h
  have hni : ¬ (n = i) := by omega
  have hs1 : Sl w (some ⟨g, 0, none⟩) ((l.take i).map vi) := by rw [List.map_take]; exact (hS.rowsl 0 rfl).take i
  have hl1 : ((l.take i).map vi).length = i * 1 := by simp; omega
  have hsum : i + (n + 1 - i) = n + 1 := by omega
  have hM : (n : Int) + 1 - (i : Int) = ((n + 1 - i : Nat) : Int) := by omega
  have hs3 : Sl w (some ⟨g, i, none⟩) ((l.drop i).map vi) := by
    have := (hS.rowsl 0 rfl).drop i
    rwa [Nat.zero_add, ← List.map_drop] at this
  have hl3 : ((l.drop i).map vi).length = (n - i) * 1 := by simp; omega
  have hD : ((l.drop i).map vi).length = n - i := by simp; omega
  have hA : ((l.take i).map vi).length = i := by simp; omega
  have hk2 : Nat.min 1 (n + 1 - i) = 1 := Nat.min_eq_left (by omega)
  have hk3 : Nat.min (n - i) (n - i) = n - i := Nat.min_self _
  replace hs1 := Lib.hid hs1
  replace hl1 := Lib.hid hl1
  replace hM := Lib.hid hM
  replace hn := Lib.hid hn
  replace hsum := Lib.hid hsum
  replace hk2 := Lib.hid hk2
  replace hk3 := Lib.hid hk3
  replace hD := Lib.hid hD
  replace hA := Lib.hid hA
  replace hl3 := Lib.hid hl3
  clear hs3
  go_enter Try.func59, Try.ntmps59
  go_wp2_with (first
    | (at_builtin; go_loud ((with_reducible refine wpList_appzeros_st (m := n + 1 - i) hS rfl rfl Try.underlying29 Try.underlying3 elem_i rfl rfl hM.out hs1.out hl1.out (by omega) (by omega) (by omega) (by unfold maxLen; omega) (by omega) ?_); intro g5 c5 w3 hS1; clear hS; simp only [hsum.out] at hS1 ⊢; obtain ⟨cur, k1, k2, k3, k4, hS⟩ := hS1.rowblk; clear hS1; have q1 : ¬ (c5 = i) := (by omega); have q2 : ¬ (c5 = i + 1) := (by omega); have q3 : c5 ≤ 9223372036854775807 := (by unfold maxLen at k4; omega); replace k1 := Lib.hid k1; replace k2 := Lib.hid k2))
    | ((with_reducible refine wpList_copyblk_st 0 (off := i) (nd := n + 1 - i) hS rfl rfl rfl Try.underlying29 elem_i rfl rfl (hS.blksl2 2 rfl) hk2.out (by simp) (vi_one [x]) (by have := k1.out; omega) ?_); intro w3 hS1; clear hS; have hS := hS1; clear hS1))
  have s1 : (0 : Int) ≤ (i : Int) + 1 := by omega
  have s2 : ((i : Int) + 1).toNat = i + 1 := by omega
  have s3 : (i : Int) + 1 ≤ (n : Int) + 1 := by omega
  have s4 : n + 1 - (i + 1) = n - i := by omega
  have s5 : IntKind.i64.wrap ((i : Int) + 1) = (i : Int) + 1 := IntWalk.i64_in _ (by omega)
  have s6 : (i : Int) ≤ (n : Int) := by omega
  simp only [List.set_cons_zero, Nat.mul_one] at hS
  refine mixs_beginE (by kernel_rfl) hS ?_
  clear hS
  intro w2 hS hC
  have hs3 : Sl w2 (some ⟨g, i, none⟩) ((l.drop i).map vi) := by
    have := (hS.rowsl 1 rfl).drop i
    rwa [Nat.zero_add, ← List.map_drop] at this
  replace hs3 := Lib.hid hs3
  refine tk 0 ?_
  refine tk 1 ?_
  refine tk 2 ?_
  refine tk 3 ?_
  refine tk 4 ?_
  refine tk 5 ?_
  refine tk 6 ?_
  refine tk 7 ?_
  refine mixs_one 8 (by kernel_rfl) rfl (fun K hK => ?_)
  ( refine op_copyblk_st (by kernel_rfl) 0 hS rfl rfl Try.underlying29 elem_i rfl rfl hs3.out hk3.out hl3.out (vi_one _) (by have := k1.out; simp; omega) ?_; intro w3 hS1; clear hS hs3; have hS := hS1; clear hS1 )
  try clear hC
  refine cl hK (fun hC => ?_)
  clear hK K
  refine wpAnyH_done (by kernel_rfl) ?_ _
  clear s1 s2 s3 s4 s5 s6
  go_wp2_with fail
  go_ret
  have hcl : cur.toList.length = c5 := by simpa using k1.out
  have k2' := k2.out
  rw [Nat.mul_one] at k2'
  have hfin := grow_cells cur.toList _ _ ([x].map vi) ((l.drop i).map vi) n i 1 k2' hA.out (by omega) rfl hD.out (by omega)
  simp only [List.set_cons_zero, Nat.mul_one] at hS
  have hr := hS.blkrow2 1 (n := n + 1) (c := c5) (xs := (l.take i ++ x :: l.drop i).map vi) (by have := k1.out; have := hn.out; simp only [List.size_toArray, List.length_append, List.length_take, List.length_drop, Array.length_toList, List.length_map, List.length_cons, List.length_nil]; omega) k3 k4 (by
    rw [Nat.mul_one, hfin]
    simp)
  exact ⟨_, _, rfl, hr.drop1.drop1⟩
theorem insert_any (a : Option Addr) (gv n c i : Nat) (l : List Int) (x : Int) (w : World) (h : St w (feet (insA a n c gv l x)) (insA a n c gv l x) w) (hn : l.length = n) (hi : i ≤ n) (hm : n ≤ 100000) :
    Calls Try.prog 59 #[.slice a n c, .int .i64 i, .slice (some ⟨gv, 0, none⟩) 1 1] w (InsRet (feet (insA a n c gv l x)) n i l x w) := by
  by_cases hin : i = n
  · subst hin
    exact insert_end a gv i c l x w h hn hm
  · obtain ⟨g, c', e, hc, -⟩ := h.rowat 0 rfl (by omega)
    cases e
    by_cases hcn : n + 1 ≤ c
    · exact insert_room g gv n c i l x w h hn (by omega) hcn hm
    · obtain rfl : c = n := by omega
      exact insert_grow g gv c i l x w h hn (by omega) hm
theorem delete_cells {α : Type} (cur L : List α) (k i s : Nat) (h : cur.take (k + s) = L) (hi : i ≤ k) (R : List α) (hl : k + s ≤ cur.length) :
    (cur.take i ++ (cur.drop (i + s)).take (k - i) ++ R).take k = L.take i ++ L.drop (i + s) := by
  have e1 : (cur.drop (i + s)).take (k - i) = L.drop (i + s) := by
    have := drop_take_of cur L (k + s) (i + s) h
    rw [show k + s - (i + s) = k - i by omega] at this
    exact this
  have hLl : L.length = k + s := by subst h; rw [List.length_take]; omega
  have e2 : cur.take i = L.take i := by subst h; rw [List.take_take, Nat.min_eq_left (by omega)]
  rw [e1, e2, List.take_left' (by rw [List.length_append, List.length_take, List.length_drop, hLl]; omega)]
theorem delete_any (g k c i : Nat) (l : List Int) (w : World) (h : St w (feet [Ch.row 3 1 (.slice (some ⟨g, 0, none⟩) (k + 1) c) (k + 1) (l.map vi)]) [Ch.row 3 1 (.slice (some ⟨g, 0, none⟩) (k + 1) c) (k + 1) (l.map vi)] w) (hn : l.length = k + 1) (hi : i ≤ k) (hm : k ≤ 100000) :
    Calls Try.prog 60 #[.slice (some ⟨g, 0, none⟩) (k + 1) c, .int .i64 i, .int .i64 ((i : Int) + 1)] w fun e w' => e = .returned (.slice (some ⟨g, 0, none⟩) k c) ∧ St w (feet [Ch.row 3 1 (.slice (some ⟨g, 0, none⟩) (k + 1) c) (k + 1) (l.map vi)]) [Ch.row 3 1 (.slice (some ⟨g, 0, none⟩) k c) k ((l.take i ++ l.drop (i + 1)).map vi)] w' := by
  generalize feet [Ch.row 3 1 (.slice (some ⟨g, 0, none⟩) (k + 1) c) (k + 1) (l.map vi)] = F at h ⊢
  obtain ⟨cur, h1, h2, h3, h4, hS⟩ := h.rowblk
  clear h
  rw [Nat.mul_one] at h1 h2
  have h4' : c ≤ 9223372036854775807 := by unfold maxLen at h4; omega
  have hcl : cur.toList.length = c := by simpa using h1
  have hfin := fun (R : List Value) => delete_cells cur.toList (l.map vi) k i 1 h2 hi R (by omega)
  have hone1 : ∀ u ∈ (cur.toList.drop (i + 1)).take (k - i), u.oneCell' = true := by
    have := drop_take_of cur.toList (l.map vi) (k + 1) (i + 1) h2
    rw [show k + 1 - (i + 1) = k - i by omega] at this
    rw [this, ← List.map_drop]; exact vi_one _
  have hlen1 : ((cur.toList.drop (i + 1)).take (k - i)).length = (k - i) * 1 := by rw [List.length_take, List.length_drop]; omega
  have hroom : i + (k - i) ≤ c := by omega
  have hcs : cur.size = c * 1 := by omega
  have hck : ¬ (c = k) := by omega
  have hci : ¬ (c = i) := by omega
  have hsum : i + (k - i) = k := by omega
  have hz1 : ∀ u ∈ (Value.int .i64 0).cells, u.oneCell' = true := by
    intro u hu
    have : u = Value.int .i64 0 := by simpa [Value.cells] using hu
    subst this
    rfl
  replace hz1 := Lib.hid hz1
  replace hsum := Lib.hid hsum
  replace hfin := Lib.hid hfin
  replace hone1 := Lib.hid hone1
  replace hlen1 := Lib.hid hlen1
  replace hcs := Lib.hid hcs
  replace h1 := Lib.hid h1
  replace h2 := Lib.hid h2
  replace hcl := Lib.hid hcl
  replace hn := Lib.hid hn
  by_cases hci1 : c = i + 1
  · obtain rfl : k = i := by omega
    subst hci1
    clear hroom hone1 hlen1 hsum
    go_enter Try.func60, Try.ntmps60
    go_wp2_with fail
    have s1 : (0 : Int) ≤ (k : Int) + 1 := by omega
    have s2 : ((k : Int) + 1).toNat = k + 1 := by omega
    have s6 : (k : Int) ≤ (k : Int) + 1 := by omega
    refine mixs_beginE (by kernel_rfl) hS ?_
    clear hS
    intro w2 hS hC
    refine tk 0 ?_
    refine tk 1 ?_
    refine tk 2 ?_
    refine tk 3 ?_
    refine tk 4 ?_
    refine tk 5 ?_
    refine mixs_one 6 (by kernel_rfl) rfl (fun K hK => ?_)
    ( refine op_appblk_st (by kernel_rfl) 0 hS rfl rfl Try.underlying29 Try.underlying29 elem_i rfl rfl (Sl.nil _ _) (by simp) nil_one (by omega) hcs.out ?_; intro w3 hS1; clear hS; have hS := hS1; clear hS1 )
    try clear hC
    refine cl hK (fun hC => ?_)
    clear hK K
    refine tk 7 ?_
    refine wpAnyH_done (by kernel_rfl) ?_ _
    clear s1 s2 s6
    go_wp2_with ((with_reducible refine wpList_clearblk_st 0 (off := k) (n := 1) hS rfl rfl rfl Try.underlying29 elem_i hz1.out rfl (by have := h1.out; have := hcl.out; simp only [List.size_toArray, List.length_append, List.length_take, List.length_drop, Array.length_toList, List.length_nil]; omega) (by omega) ?_); intro w3 cs2 q1 q2 hS1; clear hS; have hS := hS1; clear hS1)
    go_ret
    simp only [List.set_cons_zero] at hS
    have hcl2 := hcl.out
    have h12 := h1.out
    simp only [List.size_toArray, List.length_append, List.length_take, List.length_drop, Array.length_toList, List.length_nil] at q1
    have hr := hS.blkrow2 1 (n := k) (c := (k + 1)) (xs := (l.take k ++ l.drop (k + 1)).map vi) (by rw [q1]; omega) (by omega) h4 (by
      rw [Nat.mul_one, q2]
      simp only [Nat.mul_one]
      have := hfin.out (cur.toList.drop (k + 0))
      simpa [hcl2] using this)
    rw [List.map_append, List.map_take, List.map_drop] at hr
    exact ⟨rfl, hr⟩
  · go_enter Try.func60, Try.ntmps60
    go_wp2_with fail
    have s1 : (0 : Int) ≤ (i : Int) + 1 := by omega
    have s2 : ((i : Int) + 1).toNat = i + 1 := by omega
    have s3 : (i : Int) + 1 ≤ (k : Int) + 1 := by omega
    have s6 : (i : Int) ≤ (k : Int) + 1 := by omega
    have s7 : i ≤ c := by omega
    refine mixs_beginE (by kernel_rfl) hS ?_
    clear hS
    intro w2 hS hC
    refine tk 0 ?_
    refine tk 1 ?_
    refine tk 2 ?_
    refine tk 3 ?_
    refine tk 4 ?_
    refine tk 5 ?_
    refine mixs_one 6 (by kernel_rfl) rfl (fun K hK => ?_)
    ( refine op_appblk_st (by kernel_rfl) 0 hS rfl rfl Try.underlying29 Try.underlying29 elem_i rfl rfl (hS.blkpart 0 rfl (i + 1) (k - i)) hlen1.out hone1.out hroom hcs.out ?_; intro w3 hS1; clear hS; have hS := hS1; clear hS1 )
    try clear hC
    refine cl hK (fun hC => ?_)
    clear hK K
    refine tk 7 ?_
    refine wpAnyH_done (by kernel_rfl) ?_ _
    clear s1 s2 s3 s6 s7
    simp only [hsum.out]
    go_wp2_with ((with_reducible refine wpList_clearblk_st 0 (off := k) (n := 1) hS rfl rfl rfl Try.underlying29 elem_i hz1.out rfl (by have := h1.out; have := hcl.out; simp only [List.size_toArray, List.length_append, List.length_take, List.length_drop, Array.length_toList, List.length_nil]; omega) (by omega) ?_); intro w3 cs2 q1 q2 hS1; clear hS; have hS := hS1; clear hS1)
    go_ret
    simp only [List.set_cons_zero] at hS
    have hcl2 := hcl.out
    have h12 := h1.out
    simp only [List.size_toArray, List.length_append, List.length_take, List.length_drop, Array.length_toList, List.length_nil] at q1
    have hr := hS.blkrow2 1 (n := k) (c := c) (xs := (l.take i ++ l.drop (i + 1)).map vi) (by rw [q1]; omega) (by omega) h4 (by
      rw [Nat.mul_one, q2]
      simp only [Nat.mul_one]
      have := hfin.out (cur.toList.drop (i + (k - i)))
      simpa using this)
    rw [List.map_append, List.map_take, List.map_drop] at hr
    exact ⟨rfl, hr⟩
end Go.Proofs.Ytkbekagmfbgefaa
end
