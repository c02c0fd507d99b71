import Derived.ProofKit
import Derived.OpenShut
import Derived.ShutString
import Derived.Test.YtkbekagmfbgefaaM4
set_option linter.unusedVariables false
set_option linter.unusedSimpArgs false
set_option maxRecDepth 100000
section
namespace Go.Ofp.Ids
def lastD (l : List Int) : Int := l.getLastD 0
theorem chkFrom_snoc (l : List Int) (x : Int) : ∀ last : Int, chkFrom last (l ++ [x]) = (chkFrom last l && (decide (l.getLastD last < x) && decide (x < 1073741824))) := by
  induction l with
  | nil => intro last; simp [chkFrom]
  | cons y l ih =>
    intro last
    simp only [List.cons_append, chkFrom, ih, List.getLastD_cons, Bool.and_assoc]
theorem chk_snoc (l : List Int) (x : Int) : chk (l ++ [x]) = (chk l && (decide (lastD l < x) && decide (x < 1073741824))) := chkFrom_snoc l x 0
theorem chk_take (l : List Int) (k : Nat) (h : chk l = true) : chk (l.take k) = true := by
  rw [chk_iff] at h ⊢
  exact ⟨h.1.sublist (List.take_sublist _ _), fun x hx => h.2 x (List.mem_of_mem_take hx)⟩
theorem lastD_take (l : List Int) (i : Nat) (h : i < l.length) : lastD (l.take (i + 1)) = l[i] := by
  unfold lastD
  rw [List.take_succ_eq_append_getElem h, List.getLastD_eq_getLast?, List.getLast?_concat]
  rfl
theorem lastD_nn (l : List Int) (h : chk l = true) : 0 ≤ lastD l := by
  rw [chk_iff] at h
  unfold lastD
  by_cases hl : l = []
  · subst hl; simp
  · rw [List.getLastD_eq_getLast?, List.getLast?_eq_some_getLast hl]
    have := h.2 _ (List.getLast_mem hl)
    simp; omega
end Go.Ofp.Ids
namespace Go.Proofs.Ytkbekagmfbgefaa
open Go.RowKit Go.Ofp
set_option maxHeartbeats 4000000
theorem rcheck_any (a : Option Addr) (l : List Int) (n cap : Nat) (w : World) (hs : Sl w a (l.map vi)) (hn : l.length = n) (hm : n ≤ maxLen) :
    Calls Try.prog 30 #[.slice a n cap] w fun e w' => e = .returned (.bool (Ids.chk l)) ∧ Below w.heap.size w w' := by
  unfold maxLen at hm
  have hS := St.start w
  replace hn := Lib.hid hn
  replace hs := Lib.hid hs
  go_enter Try.func30, Try.ntmps30
  go_wp2_with fail
  go_loopg [3] n (fun gk vx wr => ∃ j : Nat, j + gk = n ∧ vx = .int .i64 j ∧ Hid (Ids.chk (l.take j) = true) ∧ St w [] [] wr)
  case atStart => exact ⟨0, Nat.zero_add _, rfl, Lib.hid rfl, hS⟩
  case round =>
    clear hS
    obtain ⟨j, hj, rfl, hr, hS⟩ := hrel
    by_cases hlt : j < n
    · obtain ⟨b1, o1, rfl, c1⟩ := sl_int hs.out j (by rw [hn.out]; exact hlt)
      have t1 := take_snoc_i l j (by rw [hn.out]; exact hlt)
      have hsn := Ids.chk_snoc (l.take j) (l[j]'(by rw [hn.out]; exact hlt))
      rw [← t1, hr.out, Bool.true_and] at hsn
      have hno : Ids.chk (l.take (j + 1)) = false → Ids.chk l = false := fun e => by
        cases h : Ids.chk l with
        | false => rfl
        | true => rw [Ids.chk_take l (j + 1) h] at e; cases e
      have hl0 := Ids.lastD_nn _ hr.out
      clear t1
      have k1 := hS.kold0 c1
      rcases Nat.eq_zero_or_pos j with rfl | hpos
      ·
        have hz : Ids.lastD (l.take 0) = 0 := rfl
        rw [hz] at hsn
        clear hl0 hz
        simp only [Nat.add_zero] at k1
        generalize l[0]'(by rw [hn.out]; exact hlt) = x at c1 k1 hsn
        by_cases h1 : x < 1
        · have e1 := Lib.hid (show Ids.chk l = false from hno (by rw [hsn, decide_eq_false (by omega)]; rfl))
          clear hno hsn c1
          go_wp2_with fail
          refine mixs_begin (by kernel_rfl) hS ?_
          clear hS
          intro w2 hS
          refine tk 0 ?_
          refine tk 1 ?_
          refine tk 2 ?_
          refine tk 3 ?_
          refine tk 4 ?_
          refine tk 5 ?_
          refine sk 6 ?_
          refine sk 7 ?_
          refine sk 8 ?_
          refine sk 9 ?_
          refine sk 10 ?_
          refine tk 11 ?_
          refine tk 12 ?_
          refine sk 13 ?_
          refine sk 14 ?_
          refine sk 15 ?_
          refine sk 16 ?_
          refine sk 17 ?_
          refine sk 18 ?_
          refine sk 19 ?_
          refine sk 20 ?_
          refine sk 21 ?_
          refine sk 22 ?_
          refine sk 23 ?_
          refine sk 24 ?_
          refine sk 25 ?_
          refine sk 26 ?_
          refine tk 27 ?_
          refine wpAnyH_done (by kernel_rfl) ?_ _
          clear k1
          go_wp2_with fail
          go_ret
          exact ⟨by rw [e1.out]; rfl, hS.below⟩
        · have h1' : 1 ≤ x := by omega
          have d1 : decide (x < 1) = false := decide_eq_false h1
          by_cases h2 : 1073741824 ≤ x
          · have e1 := Lib.hid (show Ids.chk l = false from hno (by rw [hsn, decide_eq_false (p := x < 1073741824) (by omega), Bool.and_false]))
            clear hno hsn c1 h1
            go_wp2_with fail
            refine mixs_begin (by kernel_rfl) hS ?_
            clear hS
            intro w2 hS
            refine tk 0 ?_
            refine tk 1 ?_
            refine tk 2 ?_
            refine tk 3 ?_
            refine tk 4 ?_
            refine tk 5 ?_
            refine tk 6 ?_
            refine tk 7 ?_
            refine tk 8 ?_
            refine tk 9 ?_
            refine tk 10 ?_
            refine tk 11 ?_
            refine tk 12 ?_
            refine sk 13 ?_
            refine sk 14 ?_
            refine sk 15 ?_
            refine sk 16 ?_
            refine sk 17 ?_
            refine sk 18 ?_
            refine sk 19 ?_
            refine sk 20 ?_
            refine sk 21 ?_
            refine sk 22 ?_
            refine sk 23 ?_
            refine sk 24 ?_
            refine sk 25 ?_
            refine sk 26 ?_
            refine tk 27 ?_
            refine wpAnyH_done (by kernel_rfl) ?_ _
            clear k1
            go_wp2_with fail
            go_ret
            exact ⟨by rw [e1.out]; rfl, hS.below⟩
          · have h2' : x < 1073741824 := by omega
            have d2 : decide (1073741824 ≤ x) = false := decide_eq_false h2
            have e1 := Lib.hid (show Ids.chk (l.take (0 + 1)) = true by rw [hsn, decide_eq_true (by omega), decide_eq_true (by omega)]; rfl)
            clear hno hsn c1 h1 h2
            go_wp2_with fail
            refine mixs_begin (by kernel_rfl) hS ?_
            clear hS
            intro w2 hS
            refine tk 0 ?_
            refine tk 1 ?_
            refine tk 2 ?_
            refine tk 3 ?_
            refine tk 4 ?_
            refine tk 5 ?_
            refine tk 6 ?_
            refine tk 7 ?_
            refine tk 8 ?_
            refine tk 9 ?_
            refine tk 10 ?_
            refine tk 11 ?_
            refine tk 12 ?_
            refine tk 13 ?_
            refine tk 14 ?_
            refine tk 15 ?_
            refine sk 16 ?_
            refine sk 17 ?_
            refine sk 18 ?_
            refine sk 19 ?_
            refine sk 20 ?_
            refine sk 21 ?_
            refine sk 22 ?_
            refine sk 23 ?_
            refine sk 24 ?_
            refine sk 25 ?_
            refine tk 26 ?_
            refine tk 27 ?_
            refine wpAnyH_done (by kernel_rfl) ?_ _
            clear k1
            go_wp2_with fail
            go_roundg (n - (0 + 1))
            case measure => omega
            case rel => exact ⟨0 + 1, by omega, by go_num, e1, hS⟩
      ·
        obtain ⟨i, hi⟩ : ∃ i, j = i + 1 := ⟨j - 1, by omega⟩
        have hin : i < n := by omega
        have hpi : (0 : Int) < (j : Int) := by omega
        obtain ⟨b2, o2, e2, c2⟩ := sl_int hs.out i (by rw [hn.out]; omega)
        cases e2
        rw [show l.take j = l.take (i + 1) by rw [hi], Ids.lastD_take l i (by rw [hn.out]; omega)] at hsn hl0
        have k2 := hS.kold0 c2
        generalize l[j]'(by rw [hn.out]; exact hlt) = x at c1 k1 hsn
        generalize l[i]'(by rw [hn.out]; omega) = y at c2 k2 hsn hl0
        by_cases h1 : x < 1
        · have e1 := Lib.hid (show Ids.chk l = false from hno (by rw [hsn, decide_eq_false (by omega)]; rfl))
          replace hi := Lib.hid hi
          clear hno hsn c1 c2 k2
          go_wp2_with fail
          refine mixs_begin (by kernel_rfl) hS ?_
          clear hS
          intro w2 hS
          refine tk 0 ?_
          refine tk 1 ?_
          refine tk 2 ?_
          refine tk 3 ?_
          refine tk 4 ?_
          refine tk 5 ?_
          refine sk 6 ?_
          refine sk 7 ?_
          refine sk 8 ?_
          refine sk 9 ?_
          refine sk 10 ?_
          refine tk 11 ?_
          refine tk 12 ?_
          refine sk 13 ?_
          refine sk 14 ?_
          refine sk 15 ?_
          refine sk 16 ?_
          refine sk 17 ?_
          refine sk 18 ?_
          refine sk 19 ?_
          refine sk 20 ?_
          refine sk 21 ?_
          refine sk 22 ?_
          refine sk 23 ?_
          refine sk 24 ?_
          refine sk 25 ?_
          refine sk 26 ?_
          refine tk 27 ?_
          refine wpAnyH_done (by kernel_rfl) ?_ _
          clear k1
          go_wp2_with fail
          go_ret
          exact ⟨by rw [e1.out]; rfl, hS.below⟩
        · have h1' : 1 ≤ x := by omega
          have d1 : decide (x < 1) = false := decide_eq_false h1
          by_cases h2 : 1073741824 ≤ x
          · have e1 := Lib.hid (show Ids.chk l = false from hno (by rw [hsn, decide_eq_false (p := x < 1073741824) (by omega), Bool.and_false]))
            replace hi := Lib.hid hi
            clear hno hsn c1 h1 c2 k2
            go_wp2_with fail
            refine mixs_begin (by kernel_rfl) hS ?_
            clear hS
            intro w2 hS
            refine tk 0 ?_
            refine tk 1 ?_
            refine tk 2 ?_
            refine tk 3 ?_
            refine tk 4 ?_
            refine tk 5 ?_
            refine tk 6 ?_
            refine tk 7 ?_
            refine tk 8 ?_
            refine tk 9 ?_
            refine tk 10 ?_
            refine tk 11 ?_
            refine tk 12 ?_
            refine sk 13 ?_
            refine sk 14 ?_
            refine sk 15 ?_
            refine sk 16 ?_
            refine sk 17 ?_
            refine sk 18 ?_
            refine sk 19 ?_
            refine sk 20 ?_
            refine sk 21 ?_
            refine sk 22 ?_
            refine sk 23 ?_
            refine sk 24 ?_
            refine sk 25 ?_
            refine sk 26 ?_
            refine tk 27 ?_
            refine wpAnyH_done (by kernel_rfl) ?_ _
            clear k1
            go_wp2_with fail
            go_ret
            exact ⟨by rw [e1.out]; rfl, hS.below⟩
          · have h2' : x < 1073741824 := by omega
            have d2 : decide (1073741824 ≤ x) = false := decide_eq_false h2
            have hsub :  IntKind.i64.wrap ((j : Int) - 1) = (i : Int) := by rw [IntWalk.i64_in _ (by omega)]; omega
            by_cases h3 : x ≤ y
            · have e1 := Lib.hid (show Ids.chk l = false from hno (by rw [hsn, decide_eq_false (p := y < x) (by omega)]; rfl))
              replace hi := Lib.hid hi
              clear hno hsn c1 h1 h2 c2
              go_wp2_with fail
              refine mixs_begin (by kernel_rfl) hS ?_
              clear hS
              intro w2 hS
              refine tk 0 ?_
              refine tk 1 ?_
              refine tk 2 ?_
              refine tk 3 ?_
              refine tk 4 ?_
              refine tk 5 ?_
              refine tk 6 ?_
              refine tk 7 ?_
              refine tk 8 ?_
              refine tk 9 ?_
              refine tk 10 ?_
              refine tk 11 ?_
              refine tk 12 ?_
              refine tk 13 ?_
              refine tk 14 ?_
              refine tk 15 ?_
              refine tk 16 ?_
              refine tk 17 ?_
              refine tk 18 ?_
              refine tk 19 ?_
              refine tk 20 ?_
              refine tk 21 ?_
              refine tk 22 ?_
              refine tk 23 ?_
              refine tk 24 ?_
              refine tk 25 ?_
              refine tk 26 ?_
              refine tk 27 ?_
              refine wpAnyH_done (by kernel_rfl) ?_ _
              clear k1 k2 hsub
              go_wp2_with fail
              go_ret
              exact ⟨by rw [e1.out]; rfl, hS.below⟩
            · have h3' : y < x := by omega
              have d3 : decide (x ≤ y) = false := decide_eq_false h3
              have e1 := Lib.hid (show Ids.chk (l.take (j + 1)) = true by rw [hsn, decide_eq_true (by omega), decide_eq_true (by omega)]; rfl)
              replace hi := Lib.hid hi
              clear hno hsn c1 h1 h2 c2 h3
              go_wp2_with fail
              refine mixs_begin (by kernel_rfl) hS ?_
              clear hS
              intro w2 hS
              refine tk 0 ?_
              refine tk 1 ?_
              refine tk 2 ?_
              refine tk 3 ?_
              refine tk 4 ?_
              refine tk 5 ?_
              refine tk 6 ?_
              refine tk 7 ?_
              refine tk 8 ?_
              refine tk 9 ?_
              refine tk 10 ?_
              refine tk 11 ?_
              refine tk 12 ?_
              refine tk 13 ?_
              refine tk 14 ?_
              refine tk 15 ?_
              refine tk 16 ?_
              refine tk 17 ?_
              refine tk 18 ?_
              refine tk 19 ?_
              refine tk 20 ?_
              refine tk 21 ?_
              refine tk 22 ?_
              refine tk 23 ?_
              refine tk 24 ?_
              refine tk 25 ?_
              refine tk 26 ?_
              refine tk 27 ?_
              refine wpAnyH_done (by kernel_rfl) ?_ _
              clear k1 k2 hsub
              go_wp2_with fail
              go_roundg (n - (j + 1))
              case measure => omega
              case rel => exact ⟨j + 1, by omega, by go_num, e1, hS⟩
    · obtain rfl : j = n := by omega
      go_wp2_with fail
      go_ret
      have e1 := hr.out
      rw [List.take_of_length_le (by rw [hn.out]; exact Nat.le_refl _)] at e1
      exact ⟨by rw [e1]; rfl, hS.below⟩
end Go.Proofs.Ytkbekagmfbgefaa
end
section
namespace Go.Ofp
open Go.RowKit
theorem St.rownil {e size n c m : Nat} {a : Option Addr} {xs : List Value} {w w0 : World} {F : List Nat} {L : List Ch} (hS : St w0 F L w) (i : Nat) (hi : L[i]? = some (Ch.row e size (.slice a n c) m xs)) : a = none → c = 0 := by
  intro ha
  subst ha
  rcases (hS.get i hi).2 with ⟨h, _⟩ | ⟨g, cap, cur, h, _⟩
  · cases h; rfl
  · cases h
end Go.Ofp
namespace Go.Ofp.Ids
theorem drop_split (l : List Int) (id : Int) (h : Up l) (hh : has l id = true) : l.take (place l id) ++ l.drop (place l id + 1) = drop l id := by
  obtain ⟨h1, h2⟩ := up_take_drop l id h
  have hp := has_place l id h
  rw [hh] at hp
  by_cases hlt : place l id < l.length
  · rw [dif_pos hlt] at hp
    have he : l[place l id] = id := by simpa using hp.symm
    have hd : l.drop (place l id) = id :: l.drop (place l id + 1) := by
      rw [List.drop_eq_getElem_cons hlt, he]
    have hud : Up (l.drop (place l id)) := h.sublist (List.drop_sublist _ _)
    rw [hd] at hud
    have hgt := (List.pairwise_cons.1 hud).1
    conv => rhs; rw [← List.take_append_drop (place l id) l, hd]
    unfold drop
    rw [List.filter_append, List.filter_cons_of_neg (by simp)]
    congr 1
    · rw [List.filter_eq_self.2]
      intro x hx
      have := ((h1 x).1 hx).2
      simp; omega
    · rw [List.filter_eq_self.2]
      intro x hx
      have := hgt x hx
      simp; omega
  · rw [dif_neg hlt] at hp
    cases hp
theorem drop_none (l : List Int) (id : Int) (hh : has l id = false) : drop l id = l := by
  unfold drop
  rw [List.filter_eq_self]
  intro x hx
  simp only [ne_eq, decide_not, Bool.not_eq_eq_eq_not, Bool.not_true, decide_eq_false_iff_not]
  intro e
  subst e
  have := (has_iff l x).2 hx
  rw [hh] at this
  cases this
theorem has_lt (l : List Int) (id : Int) (h : Up l) (hh : has l id = true) : place l id < l.length := by
  have hp := has_place l id h
  rw [hh] at hp
  by_cases hlt : place l id < l.length
  · exact hlt
  · rw [dif_neg hlt] at hp; cases hp
end Go.Ofp.Ids
namespace Go.Proofs.Ytkbekagmfbgefaa
open Go.RowKit Go.Ofp
set_option maxHeartbeats 4000000
theorem has_any (a : Option Addr) (l : List Int) (n cap : Nat) (id : Int) (w : World) (hs : Sl w a (l.map vi)) (hn : l.length = n) (hm : n ≤ 100000) (hu : Ids.Up l) :
    Calls Try.prog 31 #[.slice a n cap, .int .i64 id] w fun e w' => e = .returned (.bool (Ids.has l id)) ∧ w = w' := by
  have cS := Lib.hid (search_any a l n cap id w hs hn hm hu)
  clear hs hn hu
  go_enter Try.func31, Try.ntmps31
  go_wp2_with (go_at_call 54; (with_reducible refine cS.out.mono ?_); rintro _ _ ⟨rfl, rfl⟩)
  go_ret
  exact ⟨rfl, rfl⟩
theorem put_any (a : Option Addr) (l : List Int) (n cap : Nat) (id : Int) (w : World) (hs : Sl w a (l.map vi)) (hn : l.length = n) (hm : n ≤ 10000) (hc : a = none → cap = 0) (hu : Ids.Up l) :
    Calls Try.prog 37 #[.slice a n cap, .int .i64 id] w (IntsRet (Ids.put l id) w) := by
  have cS := Lib.hid (search_any a l n cap id w hs hn (by omega) hu)
  have cC := Lib.hid (clone_any a l n cap w hs hn (by omega) hc)
  have hpl := place_le l id
  rw [hn] at hpl
  have hS := St.start w
  by_cases h : id < 1 ∨ 1073741824 ≤ id ∨ Ids.has l id = true
  · have hp : Ids.put l id = l := by unfold Ids.put; rw [if_pos h]
    rw [hp]
    generalize Ids.has l id = hb at cS h
    have key : hb = true ∨ hb = false ∧ (id < 1 ∨ 1 ≤ id ∧ 1073741824 ≤ id) := by
      cases hb with
      | true => exact .inl rfl
      | false =>
        refine .inr ⟨rfl, ?_⟩
        rcases h with h | h | h
        · exact .inl h
        · exact .inr ⟨by omega, h⟩
        · cases h
    clear h hp hs hn hu
    rcases key with rfl | ⟨rfl, h | ⟨h1, h2⟩⟩
    all_goals
      go_enter Try.func37, Try.ntmps37
      go_wp2_with (first
        | (go_at_call 54; (with_reducible refine cS.out.mono ?_); rintro _ _ ⟨rfl, rfl⟩)
        | (go_at_call 34; (with_reducible refine cC.out.mono ?_); rintro _ w3 ⟨a3, c3, rfl, h31, h32, hb3⟩))
      go_ret
      exact ⟨_, _, rfl, h31, h32, hb3⟩
  · have hp : Ids.put l id = l.take (Ids.place l id) ++ id :: l.drop (Ids.place l id) := by unfold Ids.put; rw [if_neg h]
    rw [hp]
    have hhas : Ids.has l id = false := by
      cases e : Ids.has l id with
      | true => exact absurd (.inr (.inr e)) h
      | false => rfl
    rw [hhas] at cS
    have hid1 : 1 ≤ id := by omega
    have hid2 : id < 1073741824 := by omega
    clear h hp hs hu hc hhas
    have hln : (l.take (Ids.place l id) ++ id :: l.drop (Ids.place l id)).length = n + 1 := by simp; omega
    generalize hq : Ids.place l id = p at hpl cS hln ⊢
    clear hq
    have hnl : n = l.length := hn.symm
    subst hnl
    replace hln := Lib.hid hln
    generalize hz : l.length = z at cS cC hpl hm hln
    replace hz := Lib.hid hz
    have cC2 := cC.out
    unfold IntsRet irow at cC2
    rw [hz.out] at cC2
    replace cC2 := Lib.hid cC2
    clear cC hn
    go_enter Try.func37, Try.ntmps37
    go_wp2_with (first
      | (go_at_call 54; (with_reducible refine cS.out.mono ?_); rintro _ _ ⟨rfl, rfl⟩)
      | (go_at_call 34; (with_reducible refine cC2.out.mono ?_); rintro _ w3 ⟨a3, c3, rfl, h31, h32, hb3⟩; have hS1 := hS.made hb3; clear hS hb3; have hS := hS1; clear hS1)
      | ((with_reducible refine wpList_build1c_st hS rfl rfl Try.underlying29 elem_i rfl ?_); intro g3 w3 hS1; clear hS; have hS := hS1.swap; clear hS1)
      | (go_at_call 59; (refine (insert_any a3 g3 z c3 p l id _ (hS.pre _ [] (List.append_nil _).symm) hz.out hpl (by omega)).mono ?_); rintro _ w3 ⟨a4, c4, rfl, hb3⟩; have hS1 := hS.call _ [] (List.append_nil _).symm hb3; clear hS hb3; have hS := hS1; clear hS1))
    go_ret
    simp only [List.append_nil] at hS
    have r := intsRet_mk hS (l := l.take p ++ id :: l.drop p) rfl hln.out
    exact r
theorem drop_any (a : Option Addr) (l : List Int) (n cap : Nat) (id : Int) (w : World) (hs : Sl w a (l.map vi)) (hn : l.length = n) (hm : n ≤ 10000) (hc : a = none → cap = 0) (hu : Ids.Up l) :
    Calls Try.prog 39 #[.slice a n cap, .int .i64 id] w (IntsRet (Ids.drop l id) w) := by
  have cS := Lib.hid (search_any a l n cap id w hs hn (by omega) hu)
  have cC := Lib.hid (clone_any a l n cap w hs hn (by omega) hc)
  have hS := St.start w
  cases hb : Ids.has l id with
  | false =>
    rw [Ids.drop_none l id hb]
    rw [hb] at cS
    clear hb hs hn hu
    go_enter Try.func39, Try.ntmps39
    go_wp2_with (first
      | (go_at_call 54; (with_reducible refine cS.out.mono ?_); rintro _ _ ⟨rfl, rfl⟩)
      | (go_at_call 34; (with_reducible refine cC.out.mono ?_); rintro _ w3 ⟨a3, c3, rfl, h31, h32, hb3⟩))
    go_ret
    exact ⟨_, _, rfl, h31, h32, hb3⟩
  | true =>
    have hlt := Ids.has_lt l id hu hb
    rw [← Ids.drop_split l id hu hb]
    rw [hb] at cS
    generalize Ids.place l id = p at cS hlt ⊢
    obtain ⟨k, hk⟩ : ∃ k, l.length = k + 1 := ⟨l.length - 1, by omega⟩
    have hln : (l.take p ++ l.drop (p + 1)).length = k := by simp; omega
    rw [hn] at hk
    subst hk
    have cC2 := cC.out
    unfold IntsRet irow at cC2
    rw [hn] at cC2
    have hpk : p ≤ k := by omega
    have hk1 : k ≤ 100000 := by omega
    replace cC2 := Lib.hid cC2
    replace hln := Lib.hid hln
    replace hn := Lib.hid hn
    clear cC hb hs hu hc hlt
    go_enter Try.func39, Try.ntmps39
    go_wp2_with (first
      | (go_at_call 54; (with_reducible refine cS.out.mono ?_); rintro _ _ ⟨rfl, rfl⟩)
      | (go_at_call 34; (with_reducible refine cC2.out.mono ?_); rintro _ w3 ⟨a3, c3, rfl, h31, h32, hb3⟩; have hS1 := hS.made hb3; clear hS hb3; have hS := hS1; clear hS1; obtain ⟨g3, c4, e3, -⟩ := hS.rowat 0 rfl (by omega); cases e3)
      | (go_at_call 60; (refine (delete_any g3 k c3 p l _ (hS.pre _ [] (List.append_nil _).symm) hn.out hpk hk1).mono ?_); rintro _ w3 ⟨rfl, hb3⟩; have hS1 := hS.call _ [] (List.append_nil _).symm hb3; clear hS hb3; have hS := hS1; clear hS1))
    go_ret
    simp only [List.append_nil] at hS
    have r := intsRet_mk hS (l := l.take p ++ l.drop (p + 1)) rfl hln.out
    exact r
theorem rdrop_any (a : Option Addr) (l : List Int) (n cap : Nat) (id : Int) (w : World) (hs : Sl w a (l.map vi)) (hn : l.length = n) (hm : n ≤ 10000) :
    Calls Try.prog 49 #[.slice a n cap, .int .i64 id] w (IntsRet (Ids.drop l id) w) := by
  have cM := fun (W : World) (b : Option Addr) (h1 : Sl W a (l.map vi)) (h2 : Sl W b [.int .i64 id]) => rminus_any a b l [id] n 1 cap 1 W h1 h2 rfl (by unfold maxLen; omega) hn (by omega)
  rw [Ids.drop_minus] at cM
  have hS := St.start w
  replace cM := Lib.hid cM
  replace hs := Lib.hid hs
  clear hn
  go_enter Try.func49, Try.ntmps49
  go_wp2_with (first
    | ((with_reducible refine wpList_build1c_st hS rfl rfl Try.underlying29 elem_i rfl ?_); intro g3 w3 hS1; clear hS; have hS := hS1; clear hS1)
    | (go_at_call 64; (with_reducible refine (cM.out _ _ (hS.sl hs.out) (hS.blksl2 0 rfl)).mono ?_); rintro _ w3 ⟨a3, c3, rfl, h31, h32, hb3⟩; have hS1 := hS.made hb3; clear hS hb3; have hS := hS1.swap.drop; clear hS1))
  go_ret
  exact ⟨_, _, rfl, h31, h32, hS⟩
theorem check_any (a : Option Addr) (l : List Int) (n cap : Nat) (w : World) (hs : Sl w a (l.map vi)) (hn : l.length = n) (hm : n ≤ maxLen) :
    Calls Try.prog 41 #[.slice a n cap] w fun e w' => e = .returned (.bool (Ids.chk l)) ∧ w = w' := by
  unfold maxLen at hm
  replace hn := Lib.hid hn
  replace hs := Lib.hid hs
  go_enter Try.func41, Try.ntmps41
  go_wp2_with fail
  go_loopg [3, 8] n (fun gk vl vx wr => ∃ (j : Nat) (y : Int), j + gk = n ∧ vx = .int .i64 j ∧ vl = .int .i64 y ∧ Hid (Ids.chk l = Ids.chkFrom y (l.drop j)) ∧ w = wr)
  case atStart => exact ⟨0, 0, Nat.zero_add _, rfl, rfl, Lib.hid rfl, rfl⟩
  case round =>
    obtain ⟨j, y, hj, rfl, rfl, hr, rfl⟩ := hrel
    by_cases hlt : j < n
    · obtain ⟨b, off, rfl, hc⟩ := sl_int hs.out j (by rw [hn.out]; exact hlt)
      have t1 := List.drop_eq_getElem_cons (l := l) (i := j) (by rw [hn.out]; exact hlt)
      generalize l[j]'(by rw [hn.out]; exact hlt) = x at hc t1
      have hr2 := hr.out
      rw [t1] at hr2
      simp only [Ids.chkFrom] at hr2
      by_cases h1 : x ≤ y
      · rw [decide_eq_false (by omega), Bool.false_and] at hr2
        replace hr2 := Lib.hid hr2
        clear t1
        go_wp2_with fail
        go_ret
        exact ⟨by rw [hr2.out]; rfl, rfl⟩
      · have h1' : y < x := by omega
        have d1 : decide (x ≤ y) = false := decide_eq_false h1
        by_cases h2 : 1073741824 ≤ x
        · rw [decide_eq_true h1', decide_eq_false (p := x < 1073741824) (by omega)] at hr2
          replace hr2 := Lib.hid hr2
          clear t1 h1
          go_wp2_with fail
          go_ret
          exact ⟨by rw [hr2.out]; rfl, rfl⟩
        · have h2' : x < 1073741824 := by omega
          have d2 : decide (1073741824 ≤ x) = false := decide_eq_false h2
          rw [decide_eq_true h1', decide_eq_true h2', Bool.true_and, Bool.true_and] at hr2
          replace hr2 := Lib.hid hr2
          clear t1 h1 h2
          go_wp2_with fail
          go_roundg (n - (j + 1))
          case measure => omega
          case rel => exact ⟨j + 1, x, by omega, by go_num, rfl, hr2, rfl⟩
    · obtain rfl : j = n := by omega
      have hr2 := hr.out
      rw [List.drop_of_length_le (by rw [hn.out]; exact Nat.le_refl _)] at hr2
      replace hr2 := Lib.hid hr2
      go_wp2_with fail
      go_ret
      exact ⟨by rw [hr2.out]; rfl, rfl⟩
end Go.Proofs.Ytkbekagmfbgefaa
end
section
namespace Go.Ofp
open Go.RowKit
section
variable {H : Type} {enc : TypeId × Value → H} {P : Program} {w : World} {base : Nat} {spare : Nat → Bool} {held : Bool} {t e : TypeId}
theorem trod_ints {n : Nat} {k : IntKind} {fuel : Nat} {cs : List Value} {x : DataW H × List MemPlace} (ht : P.underlying t = some (.array n e)) (he : P.underlying e = some (.int k)) (hc : P.cellsOf e = 1) (hC : P.cellsOf t = n)
    (h : DataW.trod enc P w base spare held fuel t cs = some x) : ∃ zs : List Int, zs.length = n ∧ cs = zs.map (Value.int k) ∧ ∀ z ∈ zs, (Lit.int k z).wf = true := by
  obtain ⟨xs, m, _, _, hl, hn, hi⟩ := DataW.trod_array ht h
  rw [hC] at hl
  have key : ∀ i (h : i < cs.length), ∃ z, cs[i] = .int k z ∧ (Lit.int k z).wf = true := by
    intro i h
    have h1 := hi i (by omega)
    rw [hc, Nat.mul_one, List.getElem?_eq_getElem (by omega)] at h1
    obtain ⟨z, hz, _, hw⟩ := DataW.trod_int he h1
    rw [List.drop_eq_getElem_cons h] at hz
    simp only [List.take_succ_cons, List.take_zero, List.cons.injEq, and_true] at hz
    exact ⟨z, hz, hw⟩
  refine ⟨cs.map fun v => intOf v, by simpa using hl, ?_, ?_⟩
  · rw [List.map_map]
    refine List.ext_getElem (by simp) fun i h1 h2 => ?_
    obtain ⟨z, hz, _⟩ := key i h1
    simp [hz, intOf]
  · intro z hz
    obtain ⟨v, hv, rfl⟩ := List.mem_map.1 hz
    obtain ⟨i, hi, rfl⟩ := List.getElem_of_mem hv
    obtain ⟨z, hz, hw⟩ := key i hi
    rw [hz]
    exact hw
theorem open_array_ints {r : Reach} {b0 : Nat} {v : Value} {d : DataW H} {ps : List MemPlace} {n : Nat} {k : IntKind} (ht : P.underlying t = some (.array n e)) (he : P.underlying e = some (.int k)) (hc : P.cellsOf e = 1) (hC : P.cellsOf t = n)
    (ho : Value.okWide P w r b0 t v) (h : DataW.Trod enc P w base spare held t v d ps) : ∃ zs : List Int, zs.length = n ∧ v = .agg (zs.map (Value.int k)).toArray ∧ ∀ z ∈ zs, (Lit.int k z).wf = true := by
  unfold Value.okWide at ho
  rw [ht] at ho
  obtain ⟨cs, rfl, _, _⟩ := ho
  obtain ⟨fuel, hf⟩ := h
  obtain ⟨zs, h1, h2, h3⟩ := trod_ints ht he hc hC hf
  refine ⟨zs, h1, ?_, h3⟩
  congr 1
  apply Array.ext'
  simpa [Value.cells] using h2
end
theorem wf_i64 {z : Int} (h : (Lit.int .i64 z).wf = true) : -9223372036854775808 ≤ z ∧ z ≤ 9223372036854775807 := by
  simpa [Lit.wf, IntKind.min, IntKind.max, IntKind.bits, IntKind.signed] using h
end Go.Ofp
end
section
namespace Go.Ofp
open Go.RowKit Go.WideShapes
structure Rw (w : World) (a : Option Addr) (size : Nat) (rows : List (List Value)) : Prop where
  sl : Sl w a rows.flatten
  each : ∀ r ∈ rows, r.length = size
theorem flatten_get {α : Type} (size : Nat) : ∀ (rows : List (List α)), (∀ r ∈ rows, r.length = size) → ∀ j t (hj : j < rows.length) (ht : t < size), rows.flatten[j * size + t]? = rows[j][t]?
  | [], _, j, t, hj, _ => by simp at hj
  | r :: rows, h, 0, t, _, ht => by
    have := h r (by simp)
    simp only [List.flatten_cons, Nat.zero_mul, Nat.zero_add, List.getElem_cons_zero]
    rw [List.getElem?_append_left (by omega)]
  | r :: rows, h, j + 1, t, hj, ht => by
    have hr := h r (by simp)
    simp only [List.flatten_cons, List.getElem_cons_succ]
    rw [List.getElem?_append_right (by rw [hr, Nat.add_mul]; omega), show (j + 1) * size + t - r.length = j * size + t by rw [hr, Nat.add_mul]; omega]
    exact flatten_get size rows (fun x hx => h x (by simp [hx])) j t (by simpa using hj) ht
theorem Rw.get {w : World} {a : Option Addr} {size : Nat} {rows : List (List Value)} (h : Rw w a size rows) (j : Nat) (hj : j < rows.length) (h0 : 0 < size) :
    ∃ b off, a = some ⟨b, off, none⟩ ∧ ∀ t v, rows[j][t]? = some v → w.cell? ⟨b, off + (j * size + t), none⟩ = some v := by
  have hl : rows.flatten.length = rows.length * size := by
    have : ∀ (rs : List (List Value)), (∀ r ∈ rs, r.length = size) → rs.flatten.length = rs.length * size := by
      intro rs
      induction rs with
      | nil => intro _; simp
      | cons r rs ih => intro h; rw [List.flatten_cons, List.length_append, ih (fun x hx => h x (by simp [hx])), h r (by simp), List.length_cons, Nat.add_mul]; omega
    exact this rows h.each
  have hpos : rows.flatten ≠ [] := by
    intro e
    rw [e, List.length_nil] at hl
    have := Nat.mul_pos (show 0 < rows.length by omega) h0
    omega
  obtain ⟨b, off, rfl⟩ := h.sl.cells hpos
  refine ⟨b, off, rfl, fun t v hv => ?_⟩
  have ht : t < size := by
    have := (List.getElem?_eq_some_iff.1 hv).1
    rwa [h.each _ (List.getElem_mem hj)] at this
  have := h.sl.add (j * size + t) v (by rw [flatten_get size rows h.each j t hj ht]; exact hv)
  rwa [Addr.add_lit] at this
theorem Rw.below {w w' : World} {a : Option Addr} {size : Nat} {rows : List (List Value)} (h : Rw w a size rows) (hb : Below w.heap.size w w') : Rw w' a size rows := ⟨h.sl.below hb, h.each⟩
section
variable {H : Type} {enc : TypeId × Value → H} {P : Program} {w : World} {base : Nat} {spare : Nat → Bool} {held : Bool} {t e : TypeId}
theorem open_rows {r : Reach} {b0 : Nat} {v : Value} {d : DataW H} {ps : List MemPlace} (ht : P.underlying t = some (.slice e)) (ho : Value.okWide P w r b0 t v) (h : DataW.Trod enc P w base spare held t v d ps) (hp : 0 < P.cellsOf e) :
    ∃ a n cap, v = .slice a n cap ∧ n ≤ cap ∧ cap ≤ maxLen ∧ ∃ rows, rows.length = n ∧ Rw w a (P.cellsOf e) rows ∧ ∀ cs ∈ rows, ∃ fuel x, DataW.trod enc P w base spare held fuel e cs = some x := by
  obtain ⟨a, n, cap, rfl⟩ := okWide_slice ht ho
  obtain ⟨fuel, hf⟩ := h
  rcases DataW.trod_slice ht hf with ⟨hc, _⟩ | ⟨ad, len, c, elems, rest, m, _, hc, _, _, hlc, hcm, hle, hel, _, _⟩
  · simp only [Value.cells, List.cons.injEq, Value.slice.injEq, and_true] at hc
    obtain ⟨rfl, rfl, rfl⟩ := hc
    exact ⟨none, 0, 0, rfl, Nat.le_refl _, Nat.zero_le _, [], rfl, ⟨Sl.nil _ _, by simp⟩, by simp⟩
  · simp only [Value.cells, List.cons.injEq, Value.slice.injEq, and_true] at hc
    obtain ⟨rfl, rfl, rfl⟩ := hc
    have key : ∀ i, i < n → ∃ cs x, w.cells? base (ad.add (i * P.cellsOf e)) (P.cellsOf e) = some cs ∧ DataW.trod enc P w base spare held m e cs = some x := by
      intro i hi
      have h1 := hel i hi
      rw [List.getElem?_eq_getElem (by omega)] at h1
      obtain ⟨cs, h2, h3⟩ := Option.bind_eq_some_iff.1 h1
      exact ⟨cs, _, h2, h3⟩
    have cell : ∀ i (hi : i < n) cs, w.cells? base (ad.add (i * P.cellsOf e)) (P.cellsOf e) = some cs → cs.length = P.cellsOf e ∧ ∀ t, t < P.cellsOf e → w.cell? ((ad.add (i * P.cellsOf e)).add t) = cs[t]? := by
      intro i hi cs h1
      unfold World.cells? at h1
      split at h1
      · exact ⟨by simpa using mapM_some_length h1, fun t ht => mapM_some_get h1 t t (by simp [ht])⟩
      · cases h1
    refine ⟨some ad, n, cap, rfl, hlc, hcm, (List.range n).map fun i => (w.cells? base (ad.add (i * P.cellsOf e)) (P.cellsOf e)).getD [], by simp, ?_, ?_⟩
    · have heach : ∀ r ∈ (List.range n).map (fun i => (w.cells? base (ad.add (i * P.cellsOf e)) (P.cellsOf e)).getD []), r.length = P.cellsOf e := by
        intro r hr
        obtain ⟨i, hi, rfl⟩ := List.mem_map.1 hr
        rw [List.mem_range] at hi
        obtain ⟨cs, x, h1, _⟩ := key i hi
        rw [h1]
        exact (cell i hi cs h1).1
      refine ⟨?_, heach⟩
      by_cases hn : n = 0
      · subst hn
        exact Sl.nil _ _
      · obtain ⟨b, off, spot⟩ := ad
        have hs : spot = none := by
          obtain ⟨cs, x, h1, _⟩ := key 0 (by omega)
          obtain ⟨hl, hc⟩ := cell 0 (by omega) cs h1
          have := hc 0 hp
          rw [List.getElem?_eq_getElem (by omega)] at this
          simp only [Nat.zero_mul, Addr.add, if_true] at this
          exact World.cell?_spot this
        subst hs
        intro q hq
        have hfl : ∀ (rs : List (List Value)), (∀ r ∈ rs, r.length = P.cellsOf e) → rs.flatten.length = rs.length * P.cellsOf e := by
          intro rs
          induction rs with
          | nil => intro _; simp
          | cons r rs ih => intro h; rw [List.flatten_cons, List.length_append, ih (fun x hx => h x (by simp [hx])), h r (by simp), List.length_cons, Nat.add_mul]; omega
        have hq2 := hq
        rw [hfl _ heach, List.length_map, List.length_range] at hq2
        have hj : q / P.cellsOf e < n := Nat.div_lt_of_lt_mul (by rw [Nat.mul_comm]; exact hq2)
        have ht : q % P.cellsOf e < P.cellsOf e := Nat.mod_lt _ hp
        have hqe : q / P.cellsOf e * P.cellsOf e + q % P.cellsOf e = q := by rw [Nat.mul_comm]; exact Nat.div_add_mod q _
        obtain ⟨cs, x, h1, _⟩ := key _ hj
        obtain ⟨hl, hc⟩ := cell _ hj cs h1
        have hc' := hc _ ht
        have hget := flatten_get (P.cellsOf e) _ heach (q / P.cellsOf e) (q % P.cellsOf e) (by simpa using hj) ht
        rw [hqe] at hget
        simp only [List.getElem_map, List.getElem_range, h1, Option.getD_some] at hget
        refine ⟨b, off, rfl, ?_⟩
        rw [← List.getElem?_eq_getElem hq, hget, ← hc', Addr.add_lit, Addr.add_lit]
        congr 2
        omega
    · intro cs hcs
      obtain ⟨i, hi, rfl⟩ := List.mem_map.1 hcs
      rw [List.mem_range] at hi
      obtain ⟨cs, x, h1, h2⟩ := key i hi
      rw [h1]
      exact ⟨m, x, h2⟩
end
end Go.Ofp
end
section
namespace Go.Ofp
open Go.RowKit Go.WideShapes
section
variable {H : Type} {enc : TypeId × Value → H} {P : Program} {w : World} {base : Nat} {spare : Nat → Bool} {held : Bool}
theorem field_read {t : TypeId} {fs : Array Field} {fuel : Nat} {cs : List Value} {x : DataW H × List MemPlace} (ht : P.underlying t = some (.struct fs)) (h : DataW.trod enc P w base spare held fuel t cs = some x) :
    cs.length = P.cellsOf t ∧ ∀ (i : Nat) (f : Field), fs[i]? = some f → ∃ n y, DataW.trod enc P w base spare held n f.type ((cs.drop f.offset).take (P.cellsOf f.type)) = some y := by
  obtain ⟨xs, n, _, rfl, hl, hlen, hf⟩ := DataW.trod_struct ht h
  refine ⟨hl, fun i f hi => ?_⟩
  have hi' : i < xs.length := by
    have := (Array.getElem?_eq_some_iff.1 hi).1
    omega
  refine ⟨n, xs[i], ?_⟩
  rw [hf i f hi, List.getElem?_eq_getElem hi']
theorem field_int {f : TypeId} {k : IntKind} {o n : Nat} {cs : List Value} {y : DataW H × List MemPlace} (hf : P.underlying f = some (.int k)) (hc : P.cellsOf f = 1) (ho : o < cs.length)
    (h : DataW.trod enc P w base spare held n f ((cs.drop o).take (P.cellsOf f)) = some y) : ∃ z, cs[o]? = some (.int k z) ∧ (Lit.int k z).wf = true := by
  obtain ⟨z, hz, _, hw⟩ := DataW.trod_int hf h
  rw [hc, List.drop_eq_getElem_cons ho] at hz
  simp only [List.take_succ_cons, List.take_zero, List.cons.injEq, and_true] at hz
  exact ⟨z, by rw [List.getElem?_eq_getElem ho, hz], hw⟩
end
end Go.Ofp
end
section
namespace Go.Ofp
open Go.RowKit
structure Gr where
  no : Int
  a : Option Addr
  c : Nat
  mem : List Int
def Gr.key (g : Gr) : Int × List Int := (g.no, g.mem)
def Gr.row (g : Gr) : List Value := [.int .i64 g.no, .slice g.a g.mem.length g.c]
theorem Gr.row_length (g : Gr) : g.row.length = 2 := rfl
def grows (gs : List Gr) : List Value := (gs.map Gr.row).flatten
def keys (gs : List Gr) : List (Int × List Int) := gs.map Gr.key
def nos (gs : List Gr) : List Int := gs.map Gr.no
theorem grows_len (gs : List Gr) : (grows gs).length = gs.length * 2 := by
  unfold grows
  induction gs with
  | nil => rfl
  | cons p ps ih => rw [List.map_cons, List.flatten_cons, List.length_append, ih, Gr.row_length, List.length_cons]; omega
theorem grows_one (gs : List Gr) : ∀ u ∈ grows gs, u.oneCell' = true := by
  intro u hu
  obtain ⟨r, hr, hu⟩ := List.mem_flatten.1 hu
  obtain ⟨p, _, rfl⟩ := List.mem_map.1 hr
  simp only [Gr.row, List.mem_cons, List.not_mem_nil, or_false] at hu
  rcases hu with rfl | rfl <;> rfl
theorem grows_append (a b : List Gr) : grows (a ++ b) = grows a ++ grows b := by simp [grows]
theorem grows_take (gs : List Gr) (i : Nat) : (grows gs).take (i * 2) = grows (gs.take i) := by
  induction gs generalizing i with
  | nil => simp [grows]
  | cons g gs ih =>
    cases i with
    | zero => simp [grows]
    | succ i =>
      have := ih i
      simp only [grows, List.map_cons, List.flatten_cons, Gr.row, List.take_succ_cons] at this ⊢
      rw [show (i + 1) * 2 = i * 2 + 1 + 1 by omega]
      simp [this]
theorem grows_drop (gs : List Gr) (i : Nat) : (grows gs).drop (i * 2) = grows (gs.drop i) := by
  induction gs generalizing i with
  | nil => simp [grows]
  | cons g gs ih =>
    cases i with
    | zero => simp [grows]
    | succ i =>
      have := ih i
      simp only [grows, List.map_cons, List.flatten_cons, Gr.row, List.drop_succ_cons] at this ⊢
      rw [show (i + 1) * 2 = i * 2 + 1 + 1 by omega]
      simp [this]
end Go.Ofp
namespace Go.Proofs.Ytkbekagmfbgefaa
open Go.RowKit Go.Ofp
set_option maxHeartbeats 4000000
structure Mem (w : World) (g : Gr) : Prop where
  sl : Sl w g.a (g.mem.map vi)
  le : g.mem.length ≤ g.c
  cm : g.c ≤ maxLen
  nz : g.a = none → g.c = 0
theorem Mem.below {w w' : World} {g : Gr} (h : Mem w g) (hb : Below w.heap.size w w') : Mem w' g := ⟨h.sl.below hb, h.le, h.cm, h.nz⟩
structure Deep (w : World) (a : Option Addr) (n c : Nat) (gs : List Gr) : Prop where
  sl : Sl w a (grows gs)
  len : gs.length = n
  le : n ≤ c
  cm : c ≤ maxLen
  nz : a = none → c = 0
  mem : ∀ g ∈ gs, Mem w g
theorem Deep.below {w w' : World} {a : Option Addr} {n c : Nat} {gs : List Gr} (h : Deep w a n c gs) (hb : Below w.heap.size w w') : Deep w' a n c gs :=
  ⟨h.sl.below hb, h.len, h.le, h.cm, h.nz, fun g hg => (h.mem g hg).below hb⟩
theorem Deep.get {w : World} {a : Option Addr} {n c : Nat} {gs : List Gr} (h : Deep w a n c gs) (j : Nat) (hj : j < gs.length) :
    ∃ b off, a = some ⟨b, off, none⟩ ∧ w.cell? ⟨b, off + j * 2, none⟩ = some (.int .i64 gs[j].no) ∧ w.cell? ⟨b, off + j * 2 + 1, none⟩ = some (.slice gs[j].a gs[j].mem.length gs[j].c) := by
  have hr : Rw w a 2 (gs.map Gr.row) := ⟨h.sl, fun r hr => by obtain ⟨p, _, rfl⟩ := List.mem_map.1 hr; rfl⟩
  obtain ⟨b, off, rfl, hc⟩ := hr.get j (by simpa using hj) (by decide)
  simp only [List.getElem_map] at hc
  exact ⟨b, off, rfl, hc 0 _ rfl, hc 1 _ rfl⟩
def cmpI (x y : Int) : Int := if x < y then -1 else if y < x then 1 else 0
theorem compare_any (x y : Int) (w : World) : Calls Try.prog 58 #[.int .i64 x, .int .i64 y] w fun e w' => e = .returned (.int .i64 (cmpI x y)) ∧ w = w' := by
  unfold cmpI
  by_cases h1 : x < y
  · rw [if_pos h1]
    go_enter Try.func58, Try.ntmps58
    go_wp2_with (go_at_call 67; (with_reducible refine (nan1_any _ _).mono ?_); rintro _ _ ⟨rfl, rfl⟩)
    go_ret
    exact ⟨rfl, rfl⟩
  · by_cases h2 : y < x
    · rw [if_neg h1, if_pos h2]
      have d1 : decide (x < y) = false := decide_eq_false h1
      clear h1
      go_enter Try.func58, Try.ntmps58
      go_wp2_with (go_at_call 67; (with_reducible refine (nan1_any _ _).mono ?_); rintro _ _ ⟨rfl, rfl⟩)
      go_ret
      exact ⟨rfl, rfl⟩
    · rw [if_neg h1, if_neg h2]
      have d1 : decide (x < y) = false := decide_eq_false h1
      have d2 : decide (y < x) = false := decide_eq_false h2
      have h3 : x ≤ y := by omega
      have h4 : y ≤ x := by omega
      clear h1 h2
      go_enter Try.func58, Try.ntmps58
      go_wp2_with (go_at_call 67; (with_reducible refine (nan1_any _ _).mono ?_); rintro _ _ ⟨rfl, rfl⟩)
      go_ret
      exact ⟨rfl, rfl⟩
theorem find1_any (no g : Int) (a : Option Addr) (n c : Nat) (w : World) : Calls Try.prog 57 #[.agg #[.int .i64 no, .slice a n c], .int .i64 g] w fun e w' => e = .returned (.int .i64 (cmpI no g)) ∧ Below w.heap.size w w' := by
  have hS := St.start w
  go_enter Try.func57, Try.ntmps57
  go_wp2_with (first
    | (with_reducible refine wpList_box_st hS rfl rfl rfl ?_; clear hS; intro g1 w1 hS) | (with_reducible refine wpList_box1_st hS rfl rfl rfl ?_; clear hS; intro g1 w1 hS) | (with_reducible refine al hS rfl rfl ?_; clear hS; intro g1 w1 hS) | (with_reducible refine wpList_alloc1_st hS rfl rfl (by assumption) rfl ?_; clear hS; intro g1 w1 hS) | (with_reducible refine ld 0 hS rfl rfl rfl rfl rfl ?_) | (with_reducible refine lda 0 hS rfl rfl rfl rfl ?_) | (with_reducible refine sto 0 hS rfl rfl rfl rfl rfl rfl ?_; clear hS; intro w1 hS) | (with_reducible refine stor 0 hS rfl rfl rfl rfl rfl rfl rfl rfl ?_; clear hS; intro w1 hS)
    | (go_at_call 58; (with_reducible refine (compare_any _ _ _).mono ?_); rintro _ _ ⟨rfl, rfl⟩))
  go_ret
  exact ⟨rfl, hS.below⟩
theorem gsearch_any (a : Option Addr) (gs : List Gr) (n cap : Nat) (id : Int) (w : World) (hD : Deep w a n cap gs) (hm : n ≤ 100000) (hu : Ids.Up (nos gs)) :
    Calls Try.prog 56 #[.slice a n cap, .int .i64 id, .func (.func 57) #[] #[]] w fun e w' => e = .returned (.tuple #[.int .i64 (Ids.place (nos gs) id), .bool (Ids.has (nos gs) id)]) ∧ Below w.heap.size w w' := by
  have hS := St.start w
  have hn : (nos gs).length = n := by rw [nos, List.length_map, hD.len]
  have hp := place_le (nos gs) id
  rw [hn] at hp
  have hlt := Lib.hid (Ids.lt_place (nos gs) id hu)
  have hhas := Lib.hid (Ids.has_place (nos gs) id hu)
  have hget : ∀ j (hj : j < (nos gs).length), ∃ b off A N C, a = some ⟨b, off, none⟩ ∧ w.cell? ⟨b, off + j * 2, none⟩ = some (.int .i64 (nos gs)[j]) ∧ w.cell? ⟨b, off + j * 2 + 1, none⟩ = some (.slice A N C) := by
    intro j hj
    obtain ⟨b, off, h1, h2, h3⟩ := hD.get j (by simpa [nos] using hj)
    exact ⟨b, off, (gs[j]'(by simpa [nos] using hj)).a, (gs[j]'(by simpa [nos] using hj)).mem.length, (gs[j]'(by simpa [nos] using hj)).c, h1, by simpa [nos] using h2, h3⟩
  replace hget := Lib.hid hget
  generalize Ids.has (nos gs) id = hb at hhas ⊢
  generalize Ids.place (nos gs) id = p at hp hlt hhas ⊢
  generalize nos gs = l at *
  replace hn := Lib.hid hn
  clear hu hD
  go_enter Try.func56, Try.ntmps56
  go_wp2_with fail
  go_loopg [9, 10] n (fun gk vx vy wr => ∃ i j : Nat, i ≤ p ∧ p ≤ j ∧ j ≤ n ∧ gk = j - i ∧ vx = .int .i64 i ∧ vy = .int .i64 j ∧ St w [] [] wr)
  case atStart => exact ⟨0, n, Nat.zero_le _, hp, Nat.le_refl _, rfl, rfl, rfl, hS⟩
  case round =>
    clear hS
    obtain ⟨i, j, h1, h2, h3, rfl, rfl, rfl, hS⟩ := hrel
    by_cases hij : i < j
    · have hmid : (i + j) / 2 < n := by omega
      obtain ⟨b, off, A, N, C, rfl, c0, c1⟩ := hget.out ((i + j) / 2) (by rw [hn.out]; exact hmid)
      have hl2 := hlt.out ((i + j) / 2) (by rw [hn.out]; exact hmid)
      generalize l[(i + j) / 2]'(by rw [hn.out]; exact hmid) = x at c0 hl2
      replace c0 := hS.old c0 (by simp)
      replace c1 := hS.old c1 (by simp)
      have cF := Lib.hid (fun W : World => find1_any x id A N C W)
      by_cases hx : x < id
      · have hp2 := hl2.1 hx
        have hcm := Lib.hid (show cmpI x id = -1 from by unfold cmpI; rw [if_pos hx])
        clear hl2 hx
        go_wp2_with (go_at_call 57; (with_reducible refine (cF.out _).mono ?_); rintro _ w3 ⟨rfl, hb3⟩; rw [hcm.out]; have hS1 := hS.keepB hb3; clear hb3 hS; have hS := hS1; clear hS1)
        go_roundg (j - ((i + j) / 2 + 1))
        case measure => omega
        case rel => exact ⟨(i + j) / 2 + 1, j, by omega, h2, h3, rfl, congrArg (Value.int .i64) (by omega), rfl, hS⟩
      · have hp2 : p ≤ (i + j) / 2 := by
          rcases Nat.lt_or_ge ((i + j) / 2) p with h | h
          · exact absurd (hl2.2 h) hx
          · exact h
        have hcm : 0 ≤ cmpI x id := by unfold cmpI; rw [if_neg hx]; split <;> omega
        have hcb : decide (cmpI x id < 0) = false := decide_eq_false (by omega)
        generalize cmpI x id = cx at *
        clear hl2 hx
        go_wp2_with (go_at_call 57; (with_reducible refine (cF.out _).mono ?_); rintro _ w3 ⟨rfl, hb3⟩; have hS1 := hS.keepB hb3; clear hb3 hS; have hS := hS1; clear hS1)
        go_roundg ((i + j) / 2 - i)
        case measure => omega
        case rel => exact ⟨i, (i + j) / 2, h1, hp2, by omega, rfl, rfl, congrArg (Value.int .i64) (by omega), hS⟩
    · obtain rfl : i = p := by omega
      obtain rfl : j = i := by omega
      clear h1 h2 hp hij
      by_cases hj : j < n
      · obtain ⟨b, off, A, N, C, rfl, c0, c1⟩ := hget.out j (by rw [hn.out]; exact hj)
        have hh := hhas.out
        rw [dif_pos (by rw [hn.out]; exact hj)] at hh
        generalize l[j]'(by rw [hn.out]; exact hj) = x at c0 hh
        replace c0 := hS.old c0 (by simp)
        replace c1 := hS.old c1 (by simp)
        have cF := Lib.hid (fun W : World => find1_any x id A N C W)
        have hcm : (cmpI x id == 0) = decide (x = id) := by
          unfold cmpI
          by_cases h1 : x < id
          · rw [if_pos h1, decide_eq_false (by omega)]; rfl
          · by_cases h2 : id < x
            · rw [if_neg h1, if_pos h2, decide_eq_false (by omega)]; rfl
            · rw [if_neg h1, if_neg h2, decide_eq_true (by omega)]; rfl
        rw [← hh] at hcm
        generalize cmpI x id = cx at *
        clear hh
        replace hcm := Lib.hid hcm
        go_wp2_with (go_at_call 57; (with_reducible refine (cF.out _).mono ?_); rintro _ w3 ⟨rfl, hb3⟩; have hS1 := hS.keepB hb3; clear hb3 hS; have hS := hS1; clear hS1)
        go_ret2
        exact ⟨by rw [← hcm.out]; rfl, hS.below⟩
      · have hh := hhas.out
        rw [dif_neg (by rw [hn.out]; exact hj)] at hh
        replace hh := Lib.hid hh
        have hj2 : n ≤ j := by omega
        clear hj
        go_wp2_with fail
        go_ret2
        exact ⟨by rw [hh.out]; rfl, hS.below⟩
theorem find_any (a : Option Addr) (gs : List Gr) (n cap : Nat) (id : Int) (w : World) (hD : Deep w a n cap gs) (hm : n ≤ 100000) (hu : Ids.Up (nos gs)) :
    Calls Try.prog 33 #[.slice a n cap, .int .i64 id] w fun e w' => e = .returned (.tuple #[.int .i64 (Ids.place (nos gs) id), .bool (Ids.has (nos gs) id)]) ∧ Below w.heap.size w w' := by
  have cS := Lib.hid (gsearch_any a gs n cap id w hD hm hu)
  clear hD hu
  go_enter Try.func33, Try.ntmps33
  go_wp2_with (go_at_call 56; (with_reducible refine cS.out.mono ?_); rintro _ w3 ⟨rfl, hb3⟩)
  go_ret2
  exact ⟨rfl, hb3⟩
end Go.Proofs.Ytkbekagmfbgefaa
end
