/- Lists of numbers: what the program does with one. -/
import Derived.Test.YtplgpbbghhlbjaaIdsIns
import Derived.Test.YtplgpbbghhlbjaaIdsCheck
set_option linter.unusedSimpArgs false
set_option linter.unusedVariables false
namespace Go.Ofp
open Go.RowKit
theorem St.rownil {e size n c m : Nat} {a : Option Addr} {xs : List Value} {w w0 : World} {F : List Nat} {L : List Ch} (hS : St w0 F L w) (i : Nat) (hi : L[i]? = some (Ch.row e size (.slice a n c) m xs)) : a = none → c = 0 := by
  intro ha
  subst ha
  rcases (hS.get i hi).2 with ⟨h, _⟩ | ⟨g, cap, cur, h, _⟩
  · cases h; rfl
  · cases h
end Go.Ofp
namespace Go.Ofp.Ids
theorem drop_split (l : List Int) (id : Int) (h : Up l) (hh : has l id = true) : l.take (place l id) ++ l.drop (place l id + 1) = drop l id := by
  obtain ⟨h1, h2⟩ := up_take_drop l id h
  have hp := has_place l id h
  rw [hh] at hp
  by_cases hlt : place l id < l.length
  · rw [dif_pos hlt] at hp
    have he : l[place l id] = id := by simpa using hp.symm
    have hd : l.drop (place l id) = id :: l.drop (place l id + 1) := by
      rw [List.drop_eq_getElem_cons hlt, he]
    have hud : Up (l.drop (place l id)) := h.sublist (List.drop_sublist _ _)
    rw [hd] at hud
    have hgt := (List.pairwise_cons.1 hud).1
    conv => rhs; rw [← List.take_append_drop (place l id) l, hd]
    unfold drop
    rw [List.filter_append, List.filter_cons_of_neg (by simp)]
    congr 1
    · rw [List.filter_eq_self.2]
      intro x hx
      have := ((h1 x).1 hx).2
      simp; omega
    · rw [List.filter_eq_self.2]
      intro x hx
      have := hgt x hx
      simp; omega
  · rw [dif_neg hlt] at hp
    cases hp
theorem drop_none (l : List Int) (id : Int) (hh : has l id = false) : drop l id = l := by
  unfold drop
  rw [List.filter_eq_self]
  intro x hx
  simp only [ne_eq, decide_not, Bool.not_eq_eq_eq_not, Bool.not_true, decide_eq_false_iff_not]
  intro e
  subst e
  have := (has_iff l x).2 hx
  rw [hh] at this
  cases this
theorem after_split (l : List Int) (id : Int) (h : Up l) : l.drop (place l id + if has l id then 1 else 0) = after l id := by
  obtain ⟨h1, h2⟩ := up_take_drop l id h
  have hp := has_place l id h
  have ha : after l id = after (l.drop (place l id)) id := by
    conv => lhs; rw [← List.take_append_drop (place l id) l]
    unfold after
    rw [List.filter_append, List.filter_eq_nil_iff.2, List.nil_append]
    intro x hx
    have := ((h1 x).1 hx).2
    simp; omega
  rw [ha]
  by_cases hlt : place l id < l.length
  · rw [dif_pos hlt] at hp
    have hd := List.drop_eq_getElem_cons hlt
    have hud : Up (l.drop (place l id)) := h.sublist (List.drop_sublist _ _)
    rw [hd] at hud
    have hgt := (List.pairwise_cons.1 hud).1
    have hge : id ≤ l[place l id] := ((h2 _).1 (by rw [hd]; exact List.mem_cons_self)).2
    by_cases he : l[place l id] = id
    · rw [decide_eq_true he] at hp
      rw [hp, if_pos rfl, hd, he]
      unfold after
      rw [List.filter_cons_of_neg (by simp), List.filter_eq_self.2]
      intro x hx
      have := hgt x hx
      simp; omega
    · rw [decide_eq_false he] at hp
      rw [hp, if_neg (by simp), Nat.add_zero, hd]
      unfold after
      rw [List.filter_eq_self.2]
      intro x hx
      rcases List.mem_cons.1 hx with rfl | hx
      · simp; omega
      · have := hgt x hx
        simp; omega
  · rw [dif_neg hlt] at hp
    rw [hp, if_neg (by simp), Nat.add_zero, List.drop_of_length_le (by omega)]
    rfl
theorem has_lt (l : List Int) (id : Int) (h : Up l) (hh : has l id = true) : place l id < l.length := by
  have hp := has_place l id h
  rw [hh] at hp
  by_cases hlt : place l id < l.length
  · exact hlt
  · rw [dif_neg hlt] at hp; cases hp
end Go.Ofp.Ids
namespace Go.Proofs.Ytplgpbbghhlbjaa
open Go.RowKit Go.Ofp
set_option linter.unusedVariables false
set_option maxRecDepth 100000
set_option maxHeartbeats 4000000

theorem sl_empty {w : World} {a : Option Addr} {l : List Int} (hs : Sl w a (l.map vi)) (ha : a = none) : l = [] := by
  subst ha
  by_cases h : l = []
  · exact h
  · obtain ⟨b, off, e⟩ := hs.cells (by simpa using h)
    cases e

theorem place_any (a : Option Addr) (l : List Int) (n cap : Nat) (id : Int) (w : World) (hs : Sl w a (l.map vi)) (hn : l.length = n) (hm : n ≤ 100000) (hu : Ids.Up l) :
    Calls Try.prog 27 #[.slice a n cap, .int .i64 id] w fun e w' => e = .returned (.int .i64 (Ids.place l id)) ∧ w = w' := by
  have cS := Lib.hid (search_any a l n cap id w hs hn hm hu)
  clear hs hn hu
  go_enter Try.func27, Try.ntmps27
  go_wp2_with (go_at_call 64; (with_reducible refine cS.out.mono ?_); rintro _ _ ⟨rfl, rfl⟩)
  go_ret
  exact ⟨rfl, rfl⟩
theorem has_any (a : Option Addr) (l : List Int) (n cap : Nat) (id : Int) (w : World) (hs : Sl w a (l.map vi)) (hn : l.length = n) (hm : n ≤ 100000) (hu : Ids.Up l) :
    Calls Try.prog 29 #[.slice a n cap, .int .i64 id] w fun e w' => e = .returned (.bool (Ids.has l id)) ∧ w = w' := by
  have cS := Lib.hid (search_any a l n cap id w hs hn hm hu)
  clear hs hn hu
  go_enter Try.func29, Try.ntmps29
  go_wp2_with (go_at_call 64; (with_reducible refine cS.out.mono ?_); rintro _ _ ⟨rfl, rfl⟩)
  go_ret
  exact ⟨rfl, rfl⟩

theorem put_any (a : Option Addr) (l : List Int) (n cap : Nat) (id : Int) (w : World) (hs : Sl w a (l.map vi)) (hn : l.length = n) (hm : n ≤ 10000) (hc : a = none → cap = 0) (hu : Ids.Up l) :
    Calls Try.prog 24 #[.slice a n cap, .int .i64 id] w (IntsRet (Ids.put l id) w) := by
  have cS := Lib.hid (search_any a l n cap id w hs hn (by omega) hu)
  have cC := Lib.hid (clone_any a l n cap w hs hn (by omega) hc)
  have hpl := place_le l id
  rw [hn] at hpl
  have hS := St.start w
  by_cases h : id < 1 ∨ 1073741824 ≤ id ∨ Ids.has l id = true
  · have hp : Ids.put l id = l := by unfold Ids.put; rw [if_pos h]
    rw [hp]
    generalize Ids.has l id = hb at cS h
    have key : hb = true ∨ hb = false ∧ (id < 1 ∨ 1 ≤ id ∧ 1073741824 ≤ id) := by
      cases hb with
      | true => exact .inl rfl
      | false =>
        refine .inr ⟨rfl, ?_⟩
        rcases h with h | h | h
        · exact .inl h
        · exact .inr ⟨by omega, h⟩
        · cases h
    clear h hp hs hn hu
    rcases key with rfl | ⟨rfl, h | ⟨h1, h2⟩⟩
    all_goals
      go_enter Try.func24, Try.ntmps24
      go_wp2_with (first
        | (go_at_call 64; (with_reducible refine cS.out.mono ?_); rintro _ _ ⟨rfl, rfl⟩)
        | (go_at_call 65; (with_reducible refine cC.out.mono ?_); rintro _ w3 ⟨a3, c3, rfl, h31, h32, hb3⟩))
      go_ret
      exact ⟨_, _, rfl, h31, h32, hb3⟩
  · have hp : Ids.put l id = l.take (Ids.place l id) ++ id :: l.drop (Ids.place l id) := by unfold Ids.put; rw [if_neg h]
    rw [hp]
    have hhas : Ids.has l id = false := by
      cases e : Ids.has l id with
      | true => exact absurd (.inr (.inr e)) h
      | false => rfl
    rw [hhas] at cS
    have hid1 : 1 ≤ id := by omega
    have hid2 : id < 1073741824 := by omega
    clear h hp hs hu hc hhas
    have hln : (l.take (Ids.place l id) ++ id :: l.drop (Ids.place l id)).length = n + 1 := by simp; omega
    generalize hq : Ids.place l id = p at hpl cS hln ⊢
    clear hq
    have hnl : n = l.length := hn.symm
    subst hnl
    replace hln := Lib.hid hln
    generalize hz : l.length = z at cS cC hpl hm hln
    replace hz := Lib.hid hz
    have cC2 := cC.out
    unfold IntsRet irow at cC2
    rw [hz.out] at cC2
    replace cC2 := Lib.hid cC2
    clear cC hn
    go_enter Try.func24, Try.ntmps24
    go_wp2_with (first
      | (go_at_call 64; (with_reducible refine cS.out.mono ?_); rintro _ _ ⟨rfl, rfl⟩)
      | (go_at_call 65; (with_reducible refine cC2.out.mono ?_); rintro _ w3 ⟨a3, c3, rfl, h31, h32, hb3⟩; have hS1 := hS.made hb3; clear hS hb3; have hS := hS1; clear hS1)
      | ((with_reducible refine wpList_build1c_st hS rfl rfl Try.underlying22 elem_i rfl ?_); intro g3 w3 hS1; clear hS; have hS := hS1.swap; clear hS1)
      | (go_at_call 67; (refine (insert_any a3 g3 z c3 p l id _ (hS.pre _ [] (List.append_nil _).symm) hz.out hpl (by omega)).mono ?_); rintro _ w3 ⟨a4, c4, rfl, hb3⟩; have hS1 := hS.call _ [] (List.append_nil _).symm hb3; clear hS hb3; have hS := hS1; clear hS1))
    go_ret
    simp only [List.append_nil] at hS
    have r := intsRet_mk hS (l := l.take p ++ id :: l.drop p) rfl hln.out
    exact r

theorem drop_any (a : Option Addr) (l : List Int) (n cap : Nat) (id : Int) (w : World) (hs : Sl w a (l.map vi)) (hn : l.length = n) (hm : n ≤ 10000) (hc : a = none → cap = 0) (hu : Ids.Up l) :
    Calls Try.prog 23 #[.slice a n cap, .int .i64 id] w (IntsRet (Ids.drop l id) w) := by
  have cS := Lib.hid (search_any a l n cap id w hs hn (by omega) hu)
  have cC := Lib.hid (clone_any a l n cap w hs hn (by omega) hc)
  have hS := St.start w
  cases hb : Ids.has l id with
  | false =>
    rw [Ids.drop_none l id hb]
    rw [hb] at cS
    clear hb hs hn hu
    go_enter Try.func23, Try.ntmps23
    go_wp2_with (first
      | (go_at_call 64; (with_reducible refine cS.out.mono ?_); rintro _ _ ⟨rfl, rfl⟩)
      | (go_at_call 65; (with_reducible refine cC.out.mono ?_); rintro _ w3 ⟨a3, c3, rfl, h31, h32, hb3⟩))
    go_ret
    exact ⟨_, _, rfl, h31, h32, hb3⟩
  | true =>
    have hlt := Ids.has_lt l id hu hb
    rw [← Ids.drop_split l id hu hb]
    rw [hb] at cS
    generalize Ids.place l id = p at cS hlt ⊢
    obtain ⟨k, hk⟩ : ∃ k, l.length = k + 1 := ⟨l.length - 1, by omega⟩
    have hln : (l.take p ++ l.drop (p + 1)).length = k := by simp; omega
    rw [hn] at hk
    subst hk
    have cC2 := cC.out
    unfold IntsRet irow at cC2
    rw [hn] at cC2
    have hpk : p ≤ k := by omega
    have hk1 : k ≤ 100000 := by omega
    replace cC2 := Lib.hid cC2
    replace hln := Lib.hid hln
    replace hn := Lib.hid hn
    clear cC hb hs hu hc hlt
    go_enter Try.func23, Try.ntmps23
    go_wp2_with (first
      | (go_at_call 64; (with_reducible refine cS.out.mono ?_); rintro _ _ ⟨rfl, rfl⟩)
      | (go_at_call 65; (with_reducible refine cC2.out.mono ?_); rintro _ w3 ⟨a3, c3, rfl, h31, h32, hb3⟩; have hS1 := hS.made hb3; clear hS hb3; have hS := hS1; clear hS1; obtain ⟨g3, c4, e3, -⟩ := hS.rowat 0 rfl (by omega); cases e3)
      | (go_at_call 66; (refine (delete_any g3 k c3 p l _ (hS.pre _ [] (List.append_nil _).symm) hn.out hpk hk1).mono ?_); rintro _ w3 ⟨rfl, hb3⟩; have hS1 := hS.call _ [] (List.append_nil _).symm hb3; clear hS hb3; have hS := hS1; clear hS1))
    go_ret
    simp only [List.append_nil] at hS
    have r := intsRet_mk hS (l := l.take p ++ l.drop (p + 1)) rfl hln.out
    exact r

theorem after_any (a : Option Addr) (l : List Int) (n cap : Nat) (id : Int) (w : World) (hs : Sl w a (l.map vi)) (hn : l.length = n) (hm : n ≤ 10000) (hnc : n ≤ cap) (hcm : cap ≤ maxLen) (hc : a = none → cap = 0) (hu : Ids.Up l) :
    Calls Try.prog 30 #[.slice a n cap, .int .i64 id] w (IntsRet (Ids.after l id) w) := by
  have cS := search_any a l n cap id w hs hn (by omega) hu
  rw [← Ids.after_split l id hu]
  have hlt := Ids.has_lt l id hu
  have hpl := place_le l id
  have hcm' : cap ≤ 9223372036854775807 := by unfold maxLen at hcm; omega
  generalize Ids.has l id = hb at cS hlt ⊢
  generalize Ids.place l id = p at cS hlt hpl ⊢
  have key : ∀ q : Nat, q ≤ n → (q = p + if hb then 1 else 0) → Calls Try.prog 30 #[.slice a n cap, .int .i64 id] w (IntsRet (l.drop q) w) := by
    intro q hq he
    have hql : (l.drop q).length = n - q := by simp; omega
    have hqn : (q : Int) ≤ (n : Int) := by omega
    have fin : ∀ (ad : Option Addr), (∀ (A : Option Addr) (C : Nat), (A = if cap = q then a else ad) → C = cap - q → Calls Try.prog 65 #[.slice A (n - q) C] w (IntsRet (l.drop q) w)) → True := fun _ _ => trivial
    clear fin
    have hqp : q = p ∧ hb = false ∨ q = p + 1 ∧ hb = true := by cases hb <;> simp at he <;> simp [he]
    by_cases hz : a = none
    · have hl := sl_empty hs hz
      subst hl
      have hc0 := hc hz
      simp only [List.length_nil] at hn
      subst hc0
      subst hn
      obtain rfl : q = 0 := by omega
      rcases hqp with ⟨h1, rfl⟩ | ⟨h1, rfl⟩
      · obtain rfl : p = 0 := by omega
        subst hz
        replace cS := Lib.hid cS
        clear hs he hql hlt
        go_enter Try.func30, Try.ntmps30
        go_wp2_with (first
          | (go_at_call 64; (with_reducible refine cS.out.mono ?_); rintro _ _ ⟨rfl, rfl⟩)
          | (go_at_call 65; (with_reducible refine (clone_none _).mono ?_); rintro _ w3 ⟨a3, c3, rfl, h31, h32, hb3⟩))
        go_ret
        exact ⟨_, _, rfl, h31, h32, hb3⟩
      · omega
    · obtain ⟨ad, rfl⟩ : ∃ ad, a = some ad := by cases a with
        | none => exact absurd rfl hz
        | some ad => exact ⟨ad, rfl⟩
      obtain ⟨b, off, spot⟩ := ad
      have hsq : q = n ∨ (spot = none ∧ Sl w (some ⟨b, off + q, none⟩) ((l.drop q).map vi)) := by
        by_cases e : q = n
        · exact .inl e
        · obtain ⟨b', off', e'⟩ := hs.cells (by intro e2; have := congrArg List.length e2; rw [List.length_map, hn] at this; simp at this; omega)
          cases e'
          refine .inr ⟨rfl, ?_⟩
          have := hs.drop q
          rwa [← List.map_drop] at this
      have hdn : q = n → l.drop q = [] := fun e => List.drop_of_length_le (by omega)
      clear hz hc hs he
      replace cS := Lib.hid cS
      by_cases hcq : cap = q
      · obtain rfl : n = cap := by omega
        obtain rfl : n = q := hcq
        have hd := hdn rfl
        rw [hd] at hql ⊢
        clear hdn hsq
        rcases hqp with ⟨rfl, rfl⟩ | ⟨rfl, rfl⟩
        all_goals
          go_enter Try.func30, Try.ntmps30
          go_wp2_with (first
            | (go_at_call 64; (with_reducible refine cS.out.mono ?_); rintro _ _ ⟨rfl, rfl⟩)
            | (go_at_call 65; (refine (clone_some _ [] 0 _ _ (Sl.nil _ _) rfl (by omega)).mono ?_); rintro _ w3 ⟨a3, c3, rfl, h31, h32, hb3⟩))
          go_ret
          exact ⟨_, _, rfl, h31, h32, hb3⟩
      · have hsl : ∀ A : Addr, (spot = none → A = ⟨b, off + q, none⟩) → Sl w (some A) ((l.drop q).map vi) := by
          intro A hA
          rcases hsq with e | ⟨rfl, e⟩
          · rw [hdn e]; exact Sl.nil _ _
          · rw [hA rfl]; exact e
        have hqm : n - q ≤ 100000 := by omega
        replace hsl := Lib.hid hsl
        replace hql := Lib.hid hql
        clear hdn hsq hlt
        rcases hqp with ⟨rfl, rfl⟩ | ⟨rfl, rfl⟩
        all_goals
          go_enter Try.func30, Try.ntmps30
          go_wp2_with (first
            | (go_at_call 64; (with_reducible refine cS.out.mono ?_); rintro _ _ ⟨rfl, rfl⟩)
            | (go_at_call 65; (refine (clone_some _ _ _ _ _ (hsl.out _ ?c1) hql.out hqm).mono ?_); (case c1 => (intro e; subst e; first | rfl | simp [Addr.add])); rintro _ w3 ⟨a3, c3, rfl, h31, h32, hb3⟩))
          go_ret
          exact ⟨_, _, by rw [hql.out]; rfl, h31, h32, hb3⟩
  cases hb with
  | true => exact key (p + 1) (by have := hlt rfl; omega) rfl
  | false => exact key p (by omega) rfl

theorem rdrop_any (a : Option Addr) (l : List Int) (n cap : Nat) (id : Int) (w : World) (hs : Sl w a (l.map vi)) (hn : l.length = n) (hm : n ≤ 10000) :
    Calls Try.prog 33 #[.slice a n cap, .int .i64 id] w (IntsRet (Ids.drop l id) w) := by
  have cM := fun (W : World) (b : Option Addr) (h1 : Sl W a (l.map vi)) (h2 : Sl W b [.int .i64 id]) => rminus_any a b l [id] n 1 cap 1 W h1 h2 rfl (by unfold maxLen; omega) hn (by omega)
  rw [Ids.drop_minus] at cM
  have hS := St.start w
  replace cM := Lib.hid cM
  replace hs := Lib.hid hs
  clear hn
  go_enter Try.func33, Try.ntmps33
  go_wp2_with (first
    | ((with_reducible refine wpList_build1c_st hS rfl rfl Try.underlying22 elem_i rfl ?_); intro g3 w3 hS1; clear hS; have hS := hS1; clear hS1)
    | (go_at_call 16; (with_reducible refine (cM.out _ _ (hS.sl hs.out) (hS.blksl2 0 rfl)).mono ?_); rintro _ w3 ⟨a3, c3, rfl, h31, h32, hb3⟩; have hS1 := hS.made hb3; clear hS hb3; have hS := hS1.swap.drop; clear hS1))
  go_ret
  exact ⟨_, _, rfl, h31, h32, hS⟩

theorem check_any (a : Option Addr) (l : List Int) (n cap : Nat) (w : World) (hs : Sl w a (l.map vi)) (hn : l.length = n) (hm : n ≤ maxLen) :
    Calls Try.prog 26 #[.slice a n cap] w fun e w' => e = .returned (.bool (Ids.chk l)) ∧ w = w' := by
  unfold maxLen at hm
  replace hn := Lib.hid hn
  replace hs := Lib.hid hs
  go_enter Try.func26, Try.ntmps26
  go_wp2_with fail
  go_loopg [3, 8] n (fun gk vl vx wr => ∃ (j : Nat) (y : Int), j + gk = n ∧ vx = .int .i64 j ∧ vl = .int .i64 y ∧ Hid (Ids.chk l = Ids.chkFrom y (l.drop j)) ∧ w = wr)
  case atStart => exact ⟨0, 0, Nat.zero_add _, rfl, rfl, Lib.hid rfl, rfl⟩
  case round =>
    obtain ⟨j, y, hj, rfl, rfl, hr, rfl⟩ := hrel
    by_cases hlt : j < n
    · obtain ⟨b, off, rfl, hc⟩ := sl_int hs.out j (by rw [hn.out]; exact hlt)
      have t1 := List.drop_eq_getElem_cons (l := l) (i := j) (by rw [hn.out]; exact hlt)
      generalize l[j]'(by rw [hn.out]; exact hlt) = x at hc t1
      have hr2 := hr.out
      rw [t1] at hr2
      simp only [Ids.chkFrom] at hr2
      by_cases h1 : x ≤ y
      · rw [decide_eq_false (by omega), Bool.false_and] at hr2
        replace hr2 := Lib.hid hr2
        clear t1
        go_wp2_with fail
        go_ret
        exact ⟨by rw [hr2.out]; rfl, rfl⟩
      · have h1' : y < x := by omega
        have d1 : decide (x ≤ y) = false := decide_eq_false h1
        by_cases h2 : 1073741824 ≤ x
        · rw [decide_eq_true h1', decide_eq_false (p := x < 1073741824) (by omega)] at hr2
          replace hr2 := Lib.hid hr2
          clear t1 h1
          go_wp2_with fail
          go_ret
          exact ⟨by rw [hr2.out]; rfl, rfl⟩
        · have h2' : x < 1073741824 := by omega
          have d2 : decide (1073741824 ≤ x) = false := decide_eq_false h2
          rw [decide_eq_true h1', decide_eq_true h2', Bool.true_and, Bool.true_and] at hr2
          replace hr2 := Lib.hid hr2
          clear t1 h1 h2
          go_wp2_with fail
          go_roundg (n - (j + 1))
          case measure => omega
          case rel => exact ⟨j + 1, x, by omega, by go_num, rfl, hr2, rfl⟩
    · obtain rfl : j = n := by omega
      have hr2 := hr.out
      rw [List.drop_of_length_le (by rw [hn.out]; exact Nat.le_refl _)] at hr2
      replace hr2 := Lib.hid hr2
      go_wp2_with fail
      go_ret
      exact ⟨by rw [hr2.out]; rfl, rfl⟩
end Go.Proofs.Ytplgpbbghhlbjaa
