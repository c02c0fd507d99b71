/- Texts laid together: Grp7 Grp8. -/
import Derived.Test.YtneolmnpebiifaaGreatDoorM11
import Derived.Test.YtneolmnpebiifaaGreatDoorM4
import Derived.Test.YtneolmnpebiifaaGreatDoorM5
section
/- Groups: the document's looks at them. -/
set_option linter.unusedSimpArgs false
set_option linter.unusedVariables false
namespace Go.Ofp
theorem place_get (l : List Int) (g : Int) (h : Ids.Up l) (j : Nat) (hj : j < l.length) (e : l[j] = g) : Ids.place l g = j ∧ Ids.has l g = true := by
  refine ⟨?_, (Ids.has_iff _ _).2 (e ▸ List.getElem_mem hj)⟩
  have h1 := Ids.lt_place l g h j hj
  have h2 : ¬ j < Ids.place l g := by rw [← h1]; omega
  rcases Nat.eq_zero_or_pos j with rfl | hp
  · omega
  · have h3 := (List.pairwise_iff_getElem.1 h) (j - 1) j (by omega) hj (by omega)
    have h4 := (Ids.lt_place l g h (j - 1) (by omega)).1 (by omega)
    omega
end Go.Ofp
namespace Go.Proofs.YtneolmnpebiifaaGreatDoor
open Go.RowKit Go.Ofp
set_option linter.unusedVariables false
set_option maxRecDepth 100000
set_option maxHeartbeats 4000000

/-- A place, or -1. -/
def plR : Bool → Nat → Int
  | true, p => p
  | false, _ => -1
theorem rgplace_any (a : Option Addr) (gs : List Gr) (n cap : Nat) (g : Int) (w : World) (hD : Deep w a n cap gs) (hm : n ≤ 100000) (hu : Ids.Up (nos gs)) :
    Calls Tryz.prog 159 #[.slice a n cap, .int .i64 g] w fun e w' => e = .returned (.int .i64 (plR (Ids.has (nos gs) g) (Ids.place (nos gs) g))) ∧ w = w' := by
  have hlen := Lib.hid hD.len
  have hget := Lib.hid hD.get
  have hpg := Lib.hid (fun j (hj : j < gs.length) (e : gs[j].no = g) => place_get (nos gs) g hu j (by simpa [nos] using hj) (by simpa [nos] using e))
  have hno := Lib.hid (fun (h : ∀ j (hj : j < gs.length), gs[j].no ≠ g) => show Ids.has (nos gs) g = false by
    cases e : Ids.has (nos gs) g with
    | false => rfl
    | true =>
      rw [Ids.has_iff] at e
      obtain ⟨x, hx, e2⟩ := List.mem_map.1 e
      obtain ⟨j, hj, rfl⟩ := List.getElem_of_mem hx
      exact absurd e2 (h j hj))
  clear hD hu
  go_enter Tryz.func159, Tryz.ntmps159
  go_wp2_with fail
  go_loopg [5] n (fun gk vx wr => ∃ j : Nat, j + gk = n ∧ vx = .int .i64 j ∧ Hid (∀ i (hi : i < gs.length), i < j → gs[i].no ≠ g) ∧ w = wr)
  case atStart => exact ⟨0, Nat.zero_add _, rfl, Lib.hid (by intro i hi h; omega), rfl⟩
  case round =>
    obtain ⟨j, hj, rfl, hr, rfl⟩ := hrel
    by_cases hlt : j < n
    · have hjg : j < gs.length := by rw [hlen.out]; exact hlt
      obtain ⟨b, off, rfl, c0, -⟩ := hget.out j hjg
      have hp := hpg.out j hjg
      have hstep : gs[j].no ≠ g → ∀ i (hi : i < gs.length), i < j + 1 → gs[i].no ≠ g := by
        intro h i hi hij
        by_cases e : i = j
        · subst e; exact h
        · exact hr.out i hi (by omega)
      generalize gs[j].no = x at c0 hp hstep
      by_cases hx : x = g
      · obtain ⟨h1, h2⟩ := hp hx
        have e : (plR (Ids.has (nos gs) g) (Ids.place (nos gs) g)) = (j : Int) := by rw [h2, h1]; rfl
        replace e := Lib.hid e
        clear hp hstep h1 h2
        subst hx
        go_wp2_with fail
        go_ret
        exact ⟨by rw [e.out]; rfl, rfl⟩
      · have hxb : (x == g) = false := by rw [beq_eq_false_iff_ne]; exact hx
        replace hstep := Lib.hid (hstep hx)
        clear hp
        replace hx := Lib.hid hx
        go_wp2_with fail
        go_roundg (n - (j + 1))
        case measure => omega
        case rel => exact ⟨j + 1, by omega, by go_num, hstep, rfl⟩
    · obtain rfl : j = n := by omega
      have h2 := hno.out (fun i hi => hr.out i hi (by rw [← hlen.out]; exact hi))
      have e := Lib.hid (show (plR (Ids.has (nos gs) g) (Ids.place (nos gs) g)) = -1 by rw [h2]; rfl)
      clear h2
      go_wp2_with fail
      go_ret
      exact ⟨by rw [e.out]; rfl, rfl⟩

/-- Where a group of a card that may be stands, or an error. -/
def findR (has : Bool) (p : Nat) (g id : Int) : Int × Int := if g < 0 ∨ 16 ≤ g ∨ id < 1 ∨ 1073741824 ≤ id then (0, 1) else if has then ((p : Int), 0) else (0, 6)
theorem rfind_any (a : Option Addr) (gs : List Gr) (n cap : Nat) (g id : Int) (w : World) (hD : Deep w a n cap gs) (hm : n ≤ 100000) (hu : Ids.Up (nos gs)) :
    Calls Tryz.prog 160 #[.slice a n cap, .int .i64 g, .int .i64 id] w fun e w' => e = .returned (.tuple #[.int .i64 (findR (Ids.has (nos gs) g) (Ids.place (nos gs) g) g id).1, .int .i64 (findR (Ids.has (nos gs) g) (Ids.place (nos gs) g) g id).2]) ∧ w = w' := by
  have cP := rgplace_any a gs n cap g w hD hm hu
  have hpl := place_le (nos gs) g
  generalize Ids.has (nos gs) g = hb at cP ⊢
  generalize Ids.place (nos gs) g = p at cP hpl ⊢
  unfold findR
  clear hD hu hpl
  by_cases hbad : g < 0 ∨ 16 ≤ g ∨ id < 1 ∨ 1073741824 ≤ id
  · rw [if_pos hbad]
    have key : g < 0 ∨ (decide (g < 0) = false ∧ 16 ≤ g) ∨ (decide (g < 0) = false ∧ decide (16 ≤ g) = false ∧ id < 1) ∨ (decide (g < 0) = false ∧ decide (16 ≤ g) = false ∧ decide (id < 1) = false ∧ 1073741824 ≤ id) := by
      by_cases k1 : g < 0
      · exact .inl k1
      · by_cases k2 : 16 ≤ g
        · exact .inr (.inl ⟨decide_eq_false k1, k2⟩)
        · by_cases k3 : id < 1
          · exact .inr (.inr (.inl ⟨decide_eq_false k1, decide_eq_false k2, k3⟩))
          · exact .inr (.inr (.inr ⟨decide_eq_false k1, decide_eq_false k2, decide_eq_false k3, by omega⟩))
    clear hbad cP
    rcases key with k1 | ⟨k1, k2⟩ | ⟨k1, k2, k3⟩ | ⟨k1, k2, k3, k4⟩
    all_goals
      go_enter Tryz.func160, Tryz.ntmps160
      go_wp2_with fail
      go_ret2
      exact ⟨rfl, rfl⟩
  · rw [if_neg hbad]
    have d1 : decide (g < 0) = false := decide_eq_false (by omega)
    have d2 : decide (16 ≤ g) = false := decide_eq_false (by omega)
    have d3 : decide (id < 1) = false := decide_eq_false (by omega)
    have d4 : decide (1073741824 ≤ id) = false := decide_eq_false (by omega)
    clear hbad
    cases hb with
    | true =>
      rw [show plR true p = (p : Int) from rfl] at cP
      replace cP := Lib.hid cP
      have h0 : (0 : Int) ≤ (p : Int) := by omega
      go_enter Tryz.func160, Tryz.ntmps160
      go_wp2_with (go_at_call 159; (with_reducible refine cP.out.mono ?_); rintro _ _ ⟨rfl, rfl⟩)
      go_ret2
      exact ⟨rfl, rfl⟩
    | false =>
      rw [show plR false p = -1 from rfl] at cP
      replace cP := Lib.hid cP
      go_enter Tryz.func160, Tryz.ntmps160
      go_wp2_with (go_at_call 159; (with_reducible refine cP.out.mono ?_); rintro _ _ ⟨rfl, rfl⟩)
      go_ret2
      exact ⟨rfl, rfl⟩

theorem rgof_any (a : Option Addr) (gs : List Gr) (n cap : Nat) (id : Int) (w : World) (hD : Deep w a n cap gs) (hm : n ≤ 100000) (hv : ∀ g ∈ gs, 0 ≤ g.no ∧ g.no < 16) :
    Calls Tryz.prog 19 #[.slice a n cap, .int .i64 id] w fun e w' => e = .returned (.int .u32 (ofK (keys gs) id : Nat)) ∧ w = w' := by
  have hlen := Lib.hid hD.len
  have hget := Lib.hid hD.get
  have hM := Lib.hid (fun j (hj : j < gs.length) => hD.mem gs[j] (List.getElem_mem hj))
  have hvv := Lib.hid (fun j (hj : j < gs.length) => hv gs[j] (List.getElem_mem hj))
  clear hD hv
  go_enter Tryz.func19, Tryz.ntmps19
  go_wp2_with fail
  go_loopg [5, 6] n (fun gk vl vx wr => ∃ j s : Nat, j + gk = n ∧ vx = .int .i64 j ∧ vl = .int .u32 s ∧ s < 4294967296 ∧ Hid (ofK (keys gs) id = ofFrom id s ((keys gs).drop j)) ∧ w = wr)
  case atStart => exact ⟨0, 0, Nat.zero_add _, rfl, rfl, by omega, Lib.hid rfl, rfl⟩
  case round =>
    obtain ⟨j, s, hj, rfl, rfl, hs32, hr, rfl⟩ := hrel
    by_cases hlt : j < n
    · have hjg : j < gs.length := by rw [hlen.out]; exact hlt
      obtain ⟨b, off, rfl, c0, c1⟩ := hget.out j hjg
      have hMj := hM.out j hjg
      have hvj := hvv.out j hjg
      have hr2 := hr.out
      rw [gkeys_drop_cons hjg, Gr.key, ofFrom_cons] at hr2
      generalize gs[j] = x at c0 c1 hMj hr2 hvj
      have cH := rhas_any x.a x.mem x.mem.length x.c id w hMj.sl rfl (Nat.le_trans hMj.le hMj.cm)
      obtain ⟨xn, xa, xc, xm⟩ := x
      simp only at *
      obtain ⟨q, rfl⟩ := Int.eq_ofNat_of_zero_le hvj.1
      have hq : q < 32 := by omega
      rw [Int.toNat_natCast] at hr2
      have cW := Lib.hid (fun W : World => rwith_any s q W hq hs32)
      have hor := or_lt s q hs32 hq
      generalize hml3 : xm.length = m3 at *
      clear hml3 hMj hvj
      generalize Ids.has xm id = cx at cH hr2
      generalize s ||| 2 ^ q = s2 at *
      replace cH := Lib.hid cH
      cases cx with
      | false =>
        replace hr2 := Lib.hid hr2
        go_wp2_with (go_at_call 52; (with_reducible refine cH.out.mono ?_); rintro _ _ ⟨rfl, rfl⟩)
        go_roundg (n - (j + 1))
        case measure => omega
        case rel => exact ⟨j + 1, s, by omega, by go_num, rfl, hs32, Lib.hid (by rw [hr2.out]; rfl), rfl⟩
      | true =>
        replace hr2 := Lib.hid hr2
        go_wp2_with (first | (go_at_call 52; (with_reducible refine cH.out.mono ?_); rintro _ _ ⟨rfl, rfl⟩) | (go_at_call 53; (with_reducible refine (cW.out _).mono ?_); rintro _ _ ⟨rfl, rfl⟩))
        go_roundg (n - (j + 1))
        case measure => omega
        case rel => exact ⟨j + 1, s2, by omega, by go_num, rfl, hor, Lib.hid (by rw [hr2.out]; rfl), rfl⟩
    · obtain rfl : j = n := by omega
      have hr2 := hr.out
      rw [List.drop_of_length_le (by simp [keys, hlen.out])] at hr2
      replace hr2 := Lib.hid hr2
      go_wp2_with fail
      go_ret
      exact ⟨by rw [hr2.out]; rfl, rfl⟩

theorem rgsame_any (a b : Option Addr) (gs hs : List Gr) (n k cap cap2 : Nat) (w : World) (hD : Deep w a n cap gs) (hE : Deep w b k cap2 hs) :
    Calls Tryz.prog 47 #[.slice a n cap, .slice b k cap2] w fun e w' => e = .returned (.bool (decide (keys gs = keys hs))) ∧ Below w.heap.size w w' := by
  have hS := St.start w
  have hm : n ≤ 9223372036854775807 := by have := hD.le; have := hD.cm; unfold maxLen at this; omega
  have hm2 : k ≤ 9223372036854775807 := by have := hE.le; have := hE.cm; unfold maxLen at this; omega
  by_cases hlen : n = k
  · subst hlen
    have hl1 := Lib.hid hD.len
    have hl2 := Lib.hid hE.len
    replace hD := Lib.hid hD
    replace hE := Lib.hid hE
    go_enter Tryz.func47, Tryz.ntmps47
    go_wp2_with fail
    go_loopg [5] n (fun gk vi wr => ∃ j : Nat, j + gk = n ∧ vi = .int .i64 j ∧ Hid ((keys gs).take j = (keys hs).take j) ∧ St w [] [] wr)
    case atStart => exact ⟨0, Nat.zero_add _, rfl, Lib.hid (by simp), hS⟩
    case round =>
      clear hS
      obtain ⟨j, hj, rfl, hr, hS⟩ := hrel
      by_cases hlt : j < n
      · have hj1 : j < gs.length := by rw [hl1.out]; exact hlt
        have hj2 : j < hs.length := by rw [hl2.out]; exact hlt
        obtain ⟨b1, o1, rfl, c0, c1⟩ := hD.out.get j hj1
        obtain ⟨b2, o2, rfl, d0, d1⟩ := hE.out.get j hj2
        have hMx := hD.out.mem gs[j] (List.getElem_mem hj1)
        have hMy := hE.out.mem hs[j] (List.getElem_mem hj2)
        have t1 : (keys gs).take (j + 1) = (keys gs).take j ++ [gs[j].key] := by rw [List.take_succ_eq_append_getElem (by simpa [keys] using hj1)]; simp [keys]
        have t2 : (keys hs).take (j + 1) = (keys hs).take j ++ [hs[j].key] := by rw [List.take_succ_eq_append_getElem (by simpa [keys] using hj2)]; simp [keys]
        have t3 : keys gs = keys hs → gs[j].key = hs[j].key := by
          intro e
          have := congrArg (fun l => l[j]?) e
          simpa [keys, hj1, hj2] using this
        generalize gs[j] = x at *
        generalize hs[j] = y at *
        have hsx := Lib.hid (fun W (h : St w [] [] W) => h.sl hMx.sl)
        have hsy := Lib.hid (fun W (h : St w [] [] W) => h.sl hMy.sl)
        have cI := fun W h1 h2 => ints_any x.a y.a x.mem y.mem _ _ x.c y.c W h1 h2 rfl rfl (Nat.le_trans hMx.le hMx.cm) (Nat.le_trans hMy.le hMy.cm)
        have k0 := hS.kold0 c0
        have k1 := hS.kold0 c1
        have k2 := hS.kold0 d0
        have k3 := hS.kold0 d1
        clear c0 c1 d0 d1 hMx hMy
        obtain ⟨xn, xa, xc, xm⟩ := x
        obtain ⟨yn, ya, yc, ym⟩ := y
        simp only [Gr.key] at *
        replace t1 := Lib.hid t1
        replace t2 := Lib.hid t2
        have t4 := Lib.hid (fun e => (Prod.mk.injEq _ _ _ _).mp (t3 e))
        clear t3
        generalize xm.length = l1 at *
        generalize ym.length = l2 at *
        by_cases h1 : xn = yn
        · subst h1
          by_cases h2 : xm = ym
          · subst h2
            rw [decide_eq_true rfl] at cI
            replace cI := Lib.hid cI
            have hbb : (xn != xn) = false := by simp
            go_wp2_with fail
            refine mixs_begin (by kernel_rfl) hS ?_
            clear hS
            intro w2 hS
            refine tk 0 ?_
            refine tk 1 ?_
            refine tk 2 ?_
            refine tk 3 ?_
            refine tk 4 ?_
            refine tk 5 ?_
            refine tk 6 ?_
            refine tk 7 ?_
            refine tk 8 ?_
            refine tk 9 ?_
            refine tk 10 ?_
            refine tk 11 ?_
            refine tk 12 ?_
            refine tk 13 ?_
            refine tk 14 ?_
            refine tk 15 ?_
            refine tk 16 ?_
            refine tk 17 ?_
            refine tk 18 ?_
            refine tk 19 ?_
            refine tk 20 ?_
            refine tk 21 ?_
            refine mixs_one 22 (by kernel_rfl) rfl (fun K hK => ?_)
            go_simp
            ( go_at_call 81; (with_reducible refine (cI.out _ (hsx.out _ hS.empty) (hsy.out _ hS.empty)).mono ?_); rintro _ w3 ⟨rfl, hb3⟩; have hS1 := hS.keepB hb3; clear hb3 hS; have hS := hS1; clear hS1 )
            try clear hC
            refine cl hK (fun hC => ?_)
            clear hK K
            refine tk 23 ?_
            refine tk 24 ?_
            refine wpAnyH_done (by kernel_rfl) ?_ _
            clear k0 k1 k2 k3
            go_wp2_with fail
            go_roundg (n - (j + 1))
            case measure => omega
            case rel => exact ⟨j + 1, by omega, by go_num, Lib.hid (by rw [t1.out, t2.out, hr.out]), hS⟩
          · rw [decide_eq_false h2] at cI
            replace cI := Lib.hid cI
            replace h2 := Lib.hid h2
            have hbb : (xn != xn) = false := by simp
            go_wp2_with fail
            refine mixs_begin (by kernel_rfl) hS ?_
            clear hS
            intro w2 hS
            refine tk 0 ?_
            refine tk 1 ?_
            refine tk 2 ?_
            refine tk 3 ?_
            refine tk 4 ?_
            refine tk 5 ?_
            refine tk 6 ?_
            refine tk 7 ?_
            refine tk 8 ?_
            refine tk 9 ?_
            refine tk 10 ?_
            refine tk 11 ?_
            refine tk 12 ?_
            refine tk 13 ?_
            refine tk 14 ?_
            refine tk 15 ?_
            refine tk 16 ?_
            refine tk 17 ?_
            refine tk 18 ?_
            refine tk 19 ?_
            refine tk 20 ?_
            refine tk 21 ?_
            refine mixs_one 22 (by kernel_rfl) rfl (fun K hK => ?_)
            go_simp
            ( go_at_call 81; (with_reducible refine (cI.out _ (hsx.out _ hS.empty) (hsy.out _ hS.empty)).mono ?_); rintro _ w3 ⟨rfl, hb3⟩; have hS1 := hS.keepB hb3; clear hb3 hS; have hS := hS1; clear hS1 )
            try clear hC
            refine cl hK (fun hC => ?_)
            clear hK K
            refine tk 23 ?_
            refine tk 24 ?_
            refine wpAnyH_done (by kernel_rfl) ?_ _
            clear k0 k1 k2 k3
            go_wp2_with fail
            go_ret
            have : decide (keys gs = keys hs) = false := by rw [decide_eq_false_iff_not]; intro e; exact h2.out (t4.out e).2
            exact ⟨by rw [this]; rfl, hS.below⟩
        · have hbb : (xn != yn) = true := by simpa using h1
          clear cI
          replace h1 := Lib.hid h1
          go_wp2_with fail
          refine mixs_begin (by kernel_rfl) hS ?_
          clear hS
          intro w2 hS
          refine tk 0 ?_
          refine tk 1 ?_
          refine tk 2 ?_
          refine tk 3 ?_
          refine tk 4 ?_
          refine tk 5 ?_
          refine tk 6 ?_
          refine tk 7 ?_
          refine tk 8 ?_
          refine tk 9 ?_
          refine tk 10 ?_
          refine tk 11 ?_
          refine sk 12 ?_
          refine sk 13 ?_
          refine sk 14 ?_
          refine sk 15 ?_
          refine sk 16 ?_
          refine sk 17 ?_
          refine sk 18 ?_
          refine sk 19 ?_
          refine sk 20 ?_
          refine sk 21 ?_
          refine sk 22 ?_
          refine sk 23 ?_
          refine tk 24 ?_
          refine wpAnyH_done (by kernel_rfl) ?_ _
          clear k0 k1 k2 k3
          go_wp2_with fail
          go_ret
          have : decide (keys gs = keys hs) = false := by rw [decide_eq_false_iff_not]; intro e; exact h1.out (t4.out e).1
          exact ⟨by rw [this]; rfl, hS.below⟩
      · obtain rfl : j = n := by omega
        go_wp2_with fail
        go_ret
        have e1 := hr.out
        rw [List.take_of_length_le (by simp [keys, hl1.out]), List.take_of_length_le (by simp [keys, hl2.out])] at e1
        exact ⟨by rw [decide_eq_true e1]; rfl, hS.below⟩
  · have e : decide (keys gs = keys hs) = false := by
      rw [decide_eq_false_iff_not]; intro e
      have := congrArg List.length e
      simp only [keys, List.length_map] at this
      rw [hD.len, hE.len] at this
      exact hlen this
    have hb : ((n : Int) != (k : Int)) = true := by simp; omega
    rw [e]
    clear hlen hD hE e
    go_enter Tryz.func47, Tryz.ntmps47
    go_wp2_with fail
    go_ret
    exact ⟨rfl, hS.below⟩
end Go.Proofs.YtneolmnpebiifaaGreatDoor
end

section
/- Groups: the document's calls. -/
set_option linter.unusedSimpArgs false
set_option linter.unusedVariables false
namespace Go.Ofp
open Go.RowKit
section
variable {P : Program} {w w0 : World} {F : List Nat} {L : List Ch} {ops : Array Oper} {rest : List Oper} {o : Oper} {a : Act} {Q : Exit → Act → World → Prop} {K : Act → World → Prop}
theorem op_build0_st (hw : Region.wanted o (yielded ops a.tmps) = true) (hS : St w0 F L w) {t : TypeId} (ho : o.op = .buildSlice t 0 #[]) {e : TypeId} (ht : P.underlying t = some (.slice e)) {z : Value} {size bytes : Nat} (he : Elem P e z size bytes)
    (h : ∀ g w', St w0 F (Ch.row e size (.slice (some ⟨g, 0, none⟩) 0 0) 0 [] :: L) w' → K (a.put o.dst (.slice (some ⟨g, 0, none⟩) 0 0)) w') : if Region.wanted o (yielded ops a.tmps) = true then Oper.wp P o a w K Q else K (a.put o.dst undef) w := by
  rw [if_pos hw]
  have hr := run_build0 (P := P) w t e ht he
  unfold Oper.wp execOp
  simp only [ho, List.map_toArray, List.map_nil, Sem.run_bind, hr, Result.andThen_ok, Sem.run_pure]
  exact h _ _ (hS.build0 e size)
end
end Go.Ofp
namespace Go.Proofs.YtneolmnpebiifaaGreatDoor
open Go.RowKit Go.Ofp
set_option linter.unusedVariables false
set_option maxRecDepth 100000
set_option maxHeartbeats 4000000

end Go.Proofs.YtneolmnpebiifaaGreatDoor
end
