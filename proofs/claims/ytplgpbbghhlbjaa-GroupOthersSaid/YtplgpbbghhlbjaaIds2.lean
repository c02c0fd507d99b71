/- Lists of numbers: the document's lists. -/
import Derived.Test.YtplgpbbghhlbjaaSt6
import Derived.Test.YtplgpbbghhlbjaaIds1
set_option linter.unusedSimpArgs false
set_option linter.unusedVariables false
namespace Go.Proofs.Ytplgpbbghhlbjaa
open Go.RowKit Go.Ofp
set_option linter.unusedVariables false
set_option maxRecDepth 100000
set_option maxHeartbeats 4000000

theorem elem_i : Elem Try.prog 3 (.int .i64 0) 1 8 := Elem.mk (by kernel_rfl) (by rfl) (by decide)
theorem vi_one (l : List Int) : ∀ u ∈ l.map vi, u.oneCell' = true := by
  intro u hu
  obtain ⟨_, _, rfl⟩ := List.mem_map.1 hu
  rfl

/-- A list that a callee made. -/
def irow (a : Option Addr) (c : Nat) (l : List Int) : Ch := Ch.row 3 1 (.slice a l.length c) l.length (l.map vi)
def IntsRet (l : List Int) (w : World) (e : Ending) (w' : World) : Prop := ∃ a c, e = .returned (.slice a l.length c) ∧ l.length ≤ c ∧ c ≤ maxLen ∧ St w [] [irow a c l] w'

theorem rboth_any (a b : Option Addr) (l m : List Int) (n k cap cap2 : Nat) (w : World) (hs : Sl w a (l.map vi)) (ht : Sl w b (m.map vi)) (hk : m.length = k) (hm2 : k ≤ maxLen) (hn : l.length = n) (hm : n ≤ 100000) :
    Calls Try.prog 14 #[.slice a n cap, .slice b k cap2] w (IntsRet (Ids.both l m) w) := by
  have cH := fun (id : Int) (W : World) hsl => rhas_any b m k cap2 id W hsl hk hm2
  replace cH := Lib.hid cH
  replace ht := Lib.hid ht
  clear hm2
  have ez := elem_i
  have hS := St.start w
  replace hn := Lib.hid hn
  replace hs := Lib.hid hs
  go_enter Try.func14, Try.ntmps14
  go_wp2_with ((with_reducible refine wpList_build0_st hS rfl rfl Try.underlying22 elem_i ?_); intro g1 w3 hS1; clear hS; have hS := hS1; clear hS1)
  go_loopg [5, 6] n (fun gk vo vx wr => ∃ (j q : Nat) (ao : Option Addr) (co : Nat), j + gk = n ∧ q ≤ j ∧ vx = .int .i64 j ∧ vo = .slice ao q co ∧ Hid (q = (Ids.both (l.take j) m).length) ∧ St w [] [Ch.row 3 1 (.slice ao q co) q ((Ids.both (l.take j) m).map vi)] wr)
  case atStart => exact ⟨0, 0, _, _, Nat.zero_add _, Nat.le_refl _, rfl, rfl, Lib.hid rfl, hS⟩
  case round =>
    clear hS
    obtain ⟨j, q, ao, co, hj, hq, rfl, rfl, hql, hS⟩ := hrel
    by_cases hlt : j < n
    · obtain ⟨b1, o1, rfl, c1⟩ := sl_int hs.out j (by rw [hn.out]; exact hlt)
      have t1 := Lib.hid (take_snoc_i l j (by rw [hn.out]; exact hlt))
      generalize l[j]'(by rw [hn.out]; exact hlt) = x at c1 t1
      have c2 := hS.old c1 (by simp)
      have hb := Lib.hid (show Ids.both (l.take (j + 1)) m = Ids.both (l.take j) m ++ Ids.takes (Ids.has m x) x by rw [t1.out]; unfold Ids.both; rw [List.filter_append]; congr 1; simp [List.filter_cons, Ids.takes])
      have cX := cH.out x wr (hS.sl ht.out)
      generalize Ids.has m x = hx at cX hb
      replace cX := Lib.hid cX
      clear t1
      rcases Bool.eq_false_or_eq_true hx with rfl | rfl
      · replace hb := Lib.hid (show Ids.both (l.take (j + 1)) m = Ids.both (l.take j) m ++ [x] from hb.out)
        go_wp2_with (first
          | (go_at_call 25; (with_reducible refine cX.out.mono ?_); rintro _ _ ⟨rfl, rfl⟩)
          | ((with_reducible refine wpList_build1c_st hS rfl rfl Try.underlying22 elem_i rfl ?_); intro g3 w3 hS1; clear hS; have hS := hS1; clear hS1)
          | (at_builtin; (with_reducible refine wpList_app_st 1 hS rfl rfl rfl Try.underlying22 elem_i rfl (Src.slice Try.underlying22 (hS.blksl 0 rfl) rfl) rfl (vi_one [x]) (by omega) (by unfold maxLen; omega) ?_); intro v5 w3 hS1; clear hS; have hS := hS1.drop; clear hS1; obtain ⟨a5, c5, rfl, -⟩ := hS.row 0 rfl))
        go_roundg (n - (j + 1))
        case measure => omega
        case rel => exact ⟨j + 1, q + 1, _, _, by omega, by omega, by go_num, rfl, Lib.hid (by rw [hb.out, hql.out]; simp), by rw [hb.out, List.map_append]; exact hS⟩
      · replace hb := Lib.hid (show Ids.both (l.take (j + 1)) m = Ids.both (l.take j) m from hb.out.trans (List.append_nil _))
        go_wp2_with (first | (go_at_call 25; (with_reducible refine cX.out.mono ?_); rintro _ _ ⟨rfl, rfl⟩) | fail)
        go_roundg (n - (j + 1))
        case measure => omega
        case rel => exact ⟨j + 1, q, _, _, by omega, by omega, by go_num, rfl, Lib.hid (by rw [hb.out, hql.out]), by rw [hb.out]; exact hS⟩
    · obtain rfl : j = n := by omega
      go_wp2_with fail
      go_ret
      have e1 := hql.out
      obtain ⟨_, _, e2, -, -, h1, h2⟩ := hS.row 0 rfl
      cases e2
      rw [List.take_of_length_le (by rw [hn.out]; exact Nat.le_refl _)] at e1 hS
      subst e1
      exact ⟨_, _, rfl, h1, h2, hS⟩

theorem rminus_any (a b : Option Addr) (l m : List Int) (n k cap cap2 : Nat) (w : World) (hs : Sl w a (l.map vi)) (ht : Sl w b (m.map vi)) (hk : m.length = k) (hm2 : k ≤ maxLen) (hn : l.length = n) (hm : n ≤ 100000) :
    Calls Try.prog 16 #[.slice a n cap, .slice b k cap2] w (IntsRet (Ids.minus l m) w) := by
  have cH := fun (id : Int) (W : World) hsl => rhas_any b m k cap2 id W hsl hk hm2
  replace cH := Lib.hid cH
  replace ht := Lib.hid ht
  clear hm2
  have ez := elem_i
  have hS := St.start w
  replace hn := Lib.hid hn
  replace hs := Lib.hid hs
  go_enter Try.func16, Try.ntmps16
  go_wp2_with ((with_reducible refine wpList_build0_st hS rfl rfl Try.underlying22 elem_i ?_); intro g1 w3 hS1; clear hS; have hS := hS1; clear hS1)
  go_loopg [5, 6] n (fun gk vo vx wr => ∃ (j q : Nat) (ao : Option Addr) (co : Nat), j + gk = n ∧ q ≤ j ∧ vx = .int .i64 j ∧ vo = .slice ao q co ∧ Hid (q = (Ids.minus (l.take j) m).length) ∧ St w [] [Ch.row 3 1 (.slice ao q co) q ((Ids.minus (l.take j) m).map vi)] wr)
  case atStart => exact ⟨0, 0, _, _, Nat.zero_add _, Nat.le_refl _, rfl, rfl, Lib.hid rfl, hS⟩
  case round =>
    clear hS
    obtain ⟨j, q, ao, co, hj, hq, rfl, rfl, hql, hS⟩ := hrel
    by_cases hlt : j < n
    · obtain ⟨b1, o1, rfl, c1⟩ := sl_int hs.out j (by rw [hn.out]; exact hlt)
      have t1 := Lib.hid (take_snoc_i l j (by rw [hn.out]; exact hlt))
      generalize l[j]'(by rw [hn.out]; exact hlt) = x at c1 t1
      have c2 := hS.old c1 (by simp)
      have hb := Lib.hid (show Ids.minus (l.take (j + 1)) m = Ids.minus (l.take j) m ++ Ids.takes (!Ids.has m x) x by rw [t1.out]; unfold Ids.minus; rw [List.filter_append]; congr 1; simp [List.filter_cons, Ids.takes])
      have cX := cH.out x wr (hS.sl ht.out)
      generalize Ids.has m x = hx at cX hb
      replace cX := Lib.hid cX
      clear t1
      rcases Bool.eq_false_or_eq_true hx |>.symm with rfl | rfl
      · replace hb := Lib.hid (show Ids.minus (l.take (j + 1)) m = Ids.minus (l.take j) m ++ [x] from hb.out)
        go_wp2_with (first
          | (go_at_call 25; (with_reducible refine cX.out.mono ?_); rintro _ _ ⟨rfl, rfl⟩)
          | ((with_reducible refine wpList_build1c_st hS rfl rfl Try.underlying22 elem_i rfl ?_); intro g3 w3 hS1; clear hS; have hS := hS1; clear hS1)
          | (at_builtin; (with_reducible refine wpList_app_st 1 hS rfl rfl rfl Try.underlying22 elem_i rfl (Src.slice Try.underlying22 (hS.blksl 0 rfl) rfl) rfl (vi_one [x]) (by omega) (by unfold maxLen; omega) ?_); intro v5 w3 hS1; clear hS; have hS := hS1.drop; clear hS1; obtain ⟨a5, c5, rfl, -⟩ := hS.row 0 rfl))
        go_roundg (n - (j + 1))
        case measure => omega
        case rel => exact ⟨j + 1, q + 1, _, _, by omega, by omega, by go_num, rfl, Lib.hid (by rw [hb.out, hql.out]; simp), by rw [hb.out, List.map_append]; exact hS⟩
      · replace hb := Lib.hid (show Ids.minus (l.take (j + 1)) m = Ids.minus (l.take j) m from hb.out.trans (List.append_nil _))
        go_wp2_with (first | (go_at_call 25; (with_reducible refine cX.out.mono ?_); rintro _ _ ⟨rfl, rfl⟩) | fail)
        go_roundg (n - (j + 1))
        case measure => omega
        case rel => exact ⟨j + 1, q, _, _, by omega, by omega, by go_num, rfl, Lib.hid (by rw [hb.out, hql.out]), by rw [hb.out]; exact hS⟩
    · obtain rfl : j = n := by omega
      go_wp2_with fail
      go_ret
      have e1 := hql.out
      obtain ⟨_, _, e2, -, -, h1, h2⟩ := hS.row 0 rfl
      cases e2
      rw [List.take_of_length_le (by rw [hn.out]; exact Nat.le_refl _)] at e1 hS
      subst e1
      exact ⟨_, _, rfl, h1, h2, hS⟩

theorem rafter_any (a : Option Addr) (l : List Int) (n cap : Nat) (id : Int) (w : World) (hs : Sl w a (l.map vi))  (hn : l.length = n) (hm : n ≤ 100000) :
    Calls Try.prog 31 #[.slice a n cap, .int .i64 id] w (IntsRet (Ids.after l id) w) := by
  have ez := elem_i
  have hS := St.start w
  replace hn := Lib.hid hn
  replace hs := Lib.hid hs
  go_enter Try.func31, Try.ntmps31
  go_wp2_with ((with_reducible refine wpList_build0_st hS rfl rfl Try.underlying22 elem_i ?_); intro g1 w3 hS1; clear hS; have hS := hS1; clear hS1)
  go_loopg [5, 6] n (fun gk vo vx wr => ∃ (j q : Nat) (ao : Option Addr) (co : Nat), j + gk = n ∧ q ≤ j ∧ vx = .int .i64 j ∧ vo = .slice ao q co ∧ Hid (q = (Ids.after (l.take j) id).length) ∧ St w [] [Ch.row 3 1 (.slice ao q co) q ((Ids.after (l.take j) id).map vi)] wr)
  case atStart => exact ⟨0, 0, _, _, Nat.zero_add _, Nat.le_refl _, rfl, rfl, Lib.hid rfl, hS⟩
  case round =>
    clear hS
    obtain ⟨j, q, ao, co, hj, hq, rfl, rfl, hql, hS⟩ := hrel
    by_cases hlt : j < n
    · obtain ⟨b1, o1, rfl, c1⟩ := sl_int hs.out j (by rw [hn.out]; exact hlt)
      have t1 := Lib.hid (take_snoc_i l j (by rw [hn.out]; exact hlt))
      generalize l[j]'(by rw [hn.out]; exact hlt) = x at c1 t1
      have c2 := hS.old c1 (by simp)
      have hb := Lib.hid (show Ids.after (l.take (j + 1)) id = Ids.after (l.take j) id ++ Ids.takes (decide (id < x)) x by rw [t1.out]; unfold Ids.after; rw [List.filter_append]; congr 1; simp [List.filter_cons, Ids.takes])
      clear t1
      by_cases hx : id < x
      · replace hb := Lib.hid (show Ids.after (l.take (j + 1)) id = Ids.after (l.take j) id ++ [x] by rw [hb.out, decide_eq_true hx]; rfl)
        go_wp2_with (first
          | fail
          | ((with_reducible refine wpList_build1c_st hS rfl rfl Try.underlying22 elem_i rfl ?_); intro g3 w3 hS1; clear hS; have hS := hS1; clear hS1)
          | (at_builtin; (with_reducible refine wpList_app_st 1 hS rfl rfl rfl Try.underlying22 elem_i rfl (Src.slice Try.underlying22 (hS.blksl 0 rfl) rfl) rfl (vi_one [x]) (by omega) (by unfold maxLen; omega) ?_); intro v5 w3 hS1; clear hS; have hS := hS1.drop; clear hS1; obtain ⟨a5, c5, rfl, -⟩ := hS.row 0 rfl))
        go_roundg (n - (j + 1))
        case measure => omega
        case rel => exact ⟨j + 1, q + 1, _, _, by omega, by omega, by go_num, rfl, Lib.hid (by rw [hb.out, hql.out]; simp), by rw [hb.out, List.map_append]; exact hS⟩
      · replace hb := Lib.hid (show Ids.after (l.take (j + 1)) id = Ids.after (l.take j) id by rw [hb.out, decide_eq_false hx]; exact List.append_nil _)
        replace hx : x ≤ id := by omega
        go_wp2_with (first | fail | fail)
        go_roundg (n - (j + 1))
        case measure => omega
        case rel => exact ⟨j + 1, q, _, _, by omega, by omega, by go_num, rfl, Lib.hid (by rw [hb.out, hql.out]), by rw [hb.out]; exact hS⟩
    · obtain rfl : j = n := by omega
      go_wp2_with fail
      go_ret
      have e1 := hql.out
      obtain ⟨_, _, e2, -, -, h1, h2⟩ := hS.row 0 rfl
      cases e2
      rw [List.take_of_length_le (by rw [hn.out]; exact Nat.le_refl _)] at e1 hS
      subst e1
      exact ⟨_, _, rfl, h1, h2, hS⟩

end Go.Proofs.Ytplgpbbghhlbjaa
