/- Texts laid together: ReplPlays. -/
import Derived.Deep.CutRange
import Derived.Deep.CutBlock
import Derived.Test.YtajldelodnjmoaaM18
import Derived.Test.YtajldelodnjmoaaM22
import Derived.Test.YtajldelodnjmoaaM3
import Derived.Test.YtajldelodnjmoaaM31
section
set_option linter.unusedSimpArgs false
set_option linter.unusedVariables false
namespace Go.Proofs.Ytajldelodnjmoaa
open Go.RowKit Go.Ofp
set_option linter.unusedVariables false
set_option maxRecDepth 100000
set_option maxHeartbeats 100000000
theorem elem_rr : Elem Try.prog 76 (.agg #[.int .i64 0, .bool false, .int .i64 0, .int .i64 0, .int .i64 0, .int .i64 0, .slice none 0 0]) 7 72 := Elem.mk (by kernel_rfl) (by rfl) (by decide)
theorem cards_at {g gm : Nat} {dev : Int} {s : RpS} {w0 w : World} {F : List Nat} {b : Nat} (h : St w0 F (rpA g gm dev s) w) (hm : MOk s b) (hb : b ≤ 20000) :
    Calls Try.prog 42 #[.pointer (some ⟨g, 0, none⟩)] w fun e w' => ∃ a c, e = .returned (.slice a s.m.length c) ∧ St w [] [Ch.row 41 27 (.slice a s.m.length c) s.m.length (s.m.map cdRow).flatten] w' :=
  rcards_any g gm s.m.length s.m w (h.cell 0 rfl 6) (h.get 1 rfl) hm.ris hm.ok (by have := hm.len; omega)
theorem token_at {g gm : Nat} {dev : Int} {s : RpS} {w0 w : World} {F : List Nat} {t : Tk} (h : St w0 F (rpA g gm dev s) w) (ht : s.t = t) :
    Calls Try.prog 38 #[.pointer (some ⟨g, 0, none⟩)] w fun e w' => e = .returned (.agg (tkRow t).toArray) ∧ Below w.heap.size w w' := by
  have := rtok_any g s.t w (tok_at h)
  rwa [ht] at this
theorem get_at {g gm : Nat} {dev id : Int} {s : RpS} {w0 w : World} {F : List Nat} {b : Nat} (h : St w0 F (rpA g gm dev s) w) (hm : MOk s b) (hid : I64 id) :
    Calls Try.prog 48 #[.pointer (some ⟨g, 0, none⟩), .int .i64 id] w fun e w' => e = .returned (getV (lookC s.m id)) ∧ Below w.heap.size w w' :=
  rget_any g gm s.m.length s.m id hid w (h.cell 0 rfl 6) (h.get 1 rfl) (fun c hc => (hm.ok c hc).f)
theorem whole_row {PR PR2 : List Value} (h1 : PR.length = 11) : (PR.toArray.toList.take 0 ++ PR2 ++ PR.toArray.toList.drop (0 + 11)).toArray = PR2.toArray := by simp [h1]
theorem plays43_any (dev : Int) (a : Option Addr) (n c : Nat) (l : List Ac) (id : Int) (hid : I64 id) (w : World) (hl : Lst acRow (AcIn w) w a n c l) :
    Calls Try.prog 11 #[.int .i64 dev, .slice a n c, .int .i64 id] w fun e w' => e = .returned (.bool true) ∧ Below w.heap.size w w' := by
  have hS := St.start w
  have et := elem_tk
  have ep := elem_pg
  have er := elem_rr
  have ec := elem_card
  have cA := Lib.hid fun W => awake43_any W
  have c0 := Lib.hid fun W => nothing_any W
  have cW := Lib.hid fun a n c l W h => wide_any a n c l W h
  have cF := Lib.hid fun code reset fr tt t a n c W => fitted_any code reset fr tt t a n c W
  have cB := Lib.hid fun g gm e q s W h => rbegin_any g gm dev e q s W h
  have cS := Lib.hid fun g gm s W h => rstop_any g gm dev s W h
  have cC := Lib.hid fun a b n m ca cb l k W hl hk hn hm => csame_any a b n m ca cb l k W hl hk hn hm
  have hlen := Lib.hid hl.len
  have hlens := Lib.hid (show ∀ x ∈ l, (acRow x).length = 14 from fun x _ => acRow_len x)
  have hbase := Lib.hid (hl.base (by decide) hlens.out)
  have hmem := Lib.hid hl.mem
  have hle := hl.le
  have hcm := hl.cm
  replace hl := Lib.hid hl
  by_cases hd1 : dev < 0
  case pos =>
    have cX := Lib.hid fun W => rnew_none dev (.inl hd1) W
    have e1 : decide (0 ≤ dev) = false := decide_eq_false (by omega)
    clear hd1
    by_cases hn : n ≤ 60
    · have d1 : decide (60 < (n : Int)) = false := decide_eq_false (by omega)
      have d2 : decide (60 < n) = false := decide_eq_false (by omega)
      go_enter Try.func11, Try.ntmps11
      go_wp2_with (first
        | (go_at_call 36; (with_reducible refine (cX.out _).mono ?_); rintro _ w3 ⟨rfl, hk9⟩; have hS1 := hS.keepB hk9; clear hk9 hS; have hS := hS1; clear hS1)
        | (go_at_call 37; (with_reducible refine (cA.out _).mono ?_); rintro _ w3 ⟨rfl, hk9⟩; have hS1 := hS.keepB hk9; clear hk9 hS; have hS := hS1; clear hS1)
        | (go_at_call 44; (with_reducible refine (c0.out _).mono ?_); rintro _ w3 ⟨rfl, hk9⟩; have hS1 := hS.keepB hk9; clear hk9 hS; have hS := hS1; clear hS1))
      go_ret
      exact ⟨rfl, hS.below⟩
    · have d1 : decide (60 < (n : Int)) = true := decide_eq_true (by omega)
      have d2 : decide (60 < n) = true := decide_eq_true (by omega)
      go_enter Try.func11, Try.ntmps11
      go_wp2_with (first
        | (go_at_call 36; (with_reducible refine (cX.out _).mono ?_); rintro _ w3 ⟨rfl, hk9⟩; have hS1 := hS.keepB hk9; clear hk9 hS; have hS := hS1; clear hS1)
        | (go_at_call 37; (with_reducible refine (cA.out _).mono ?_); rintro _ w3 ⟨rfl, hk9⟩; have hS1 := hS.keepB hk9; clear hk9 hS; have hS := hS1; clear hS1)
        | (go_at_call 44; (with_reducible refine (c0.out _).mono ?_); rintro _ w3 ⟨rfl, hk9⟩; have hS1 := hS.keepB hk9; clear hk9 hS; have hS := hS1; clear hS1))
      go_ret
      exact ⟨rfl, hS.below⟩
  have e1 : decide (0 ≤ dev) = true := decide_eq_true (by omega)
  by_cases hd2 : dev < 6
  case neg =>
    have cX := Lib.hid fun W => rnew_none dev (.inr (by omega)) W
    have e2 : decide (dev < 6) = false := decide_eq_false hd2
    clear hd1 hd2
    by_cases hn : n ≤ 60
    · have d1 : decide (60 < (n : Int)) = false := decide_eq_false (by omega)
      have d2 : decide (60 < n) = false := decide_eq_false (by omega)
      go_enter Try.func11, Try.ntmps11
      go_wp2_with (first
        | (go_at_call 36; (with_reducible refine (cX.out _).mono ?_); rintro _ w3 ⟨rfl, hk9⟩; have hS1 := hS.keepB hk9; clear hk9 hS; have hS := hS1; clear hS1)
        | (go_at_call 37; (with_reducible refine (cA.out _).mono ?_); rintro _ w3 ⟨rfl, hk9⟩; have hS1 := hS.keepB hk9; clear hk9 hS; have hS := hS1; clear hS1)
        | (go_at_call 44; (with_reducible refine (c0.out _).mono ?_); rintro _ w3 ⟨rfl, hk9⟩; have hS1 := hS.keepB hk9; clear hk9 hS; have hS := hS1; clear hS1))
      go_ret
      exact ⟨rfl, hS.below⟩
    · have d1 : decide (60 < (n : Int)) = true := decide_eq_true (by omega)
      have d2 : decide (60 < n) = true := decide_eq_true (by omega)
      go_enter Try.func11, Try.ntmps11
      go_wp2_with (first
        | (go_at_call 36; (with_reducible refine (cX.out _).mono ?_); rintro _ w3 ⟨rfl, hk9⟩; have hS1 := hS.keepB hk9; clear hk9 hS; have hS := hS1; clear hS1)
        | (go_at_call 37; (with_reducible refine (cA.out _).mono ?_); rintro _ w3 ⟨rfl, hk9⟩; have hS1 := hS.keepB hk9; clear hk9 hS; have hS := hS1; clear hS1)
        | (go_at_call 44; (with_reducible refine (c0.out _).mono ?_); rintro _ w3 ⟨rfl, hk9⟩; have hS1 := hS.keepB hk9; clear hk9 hS; have hS := hS1; clear hS1))
      go_ret
      exact ⟨rfl, hS.below⟩
  have cX := Lib.hid fun W => rnew_any dev (by omega) hd2 W
  have e2 : decide (dev < 6) = true := decide_eq_true hd2
  clear hd1
  by_cases hn : n ≤ 60
  case neg =>
    have d1 : decide (60 < (n : Int)) = true := decide_eq_true (by omega)
    have d2 : decide (60 < n) = true := decide_eq_true (by omega)
    go_enter Try.func11, Try.ntmps11
    go_wp2_with (first
      | (go_at_call 36; (with_reducible refine (cX.out _).mono ?_); rintro _ w3 ⟨g, gm, rfl, hk9⟩; have hS1 := hS.made hk9; clear hS hk9; have hS : St w [] (rpA g gm dev RpS.off ++ []) w3 := hS1; clear hS1; rw [List.append_nil] at hS)
      | (go_at_call 37; (with_reducible refine (cA.out _).mono ?_); rintro _ w3 ⟨rfl, hk9⟩; have hS1 := hS.keepB hk9; clear hk9 hS; have hS := hS1; clear hS1)
      | (with_reducible refine wpList_box_st hS rfl rfl rfl ?_; intro g1 w1 hS1; clear hS; replace hS := hS1; clear hS1) | (with_reducible refine wpList_box1_st hS rfl rfl rfl ?_; intro g1 w1 hS1; clear hS; replace hS := hS1; clear hS1) | (with_reducible refine wpList_alloc_st hS rfl rfl (by assumption) ?_; intro g1 w1 hS1; clear hS; replace hS := hS1; clear hS1) | (with_reducible refine wpList_alloc1_st hS rfl rfl (by assumption) rfl ?_; intro g1 w1 hS1; clear hS; replace hS := hS1; clear hS1) | ((with_reducible refine wpList_load_st 0 hS rfl rfl rfl rfl ?_ rfl ?_); focus (simp [scalarB, go_sem]; done)) | ((with_reducible refine wpList_loadall_st 0 hS rfl rfl rfl rfl ?_ (by kernel_rfl) ?_); focus (simp [rowB, go_sem]; done)) | ((with_reducible refine wpList_store_st 0 hS rfl rfl rfl rfl (by kernel_rfl) rfl rfl ?_); intro w1 hS1; clear hS; replace hS := hS1; clear hS1; try simp only [List.set_cons_zero, List.set_cons_succ, List.setIfInBounds_toArray, List.take_succ_cons, List.take_zero, List.drop_succ_cons, List.drop_zero, List.nil_append, List.cons_append, List.append_nil, List.drop_nil, List.take_nil, List.length_cons, List.length_nil, Nat.zero_add, Nat.add_zero, Nat.reduceAdd] at hS) | ((with_reducible refine wpList_storerow_st 0 hS rfl rfl rfl rfl (by kernel_rfl) rfl rfl rfl rfl ?_); intro w1 hS1; clear hS; replace hS := hS1; clear hS1; try simp only [List.set_cons_zero, List.set_cons_succ, List.setIfInBounds_toArray, List.take_succ_cons, List.take_zero, List.drop_succ_cons, List.drop_zero, List.nil_append, List.cons_append, List.append_nil, List.drop_nil, List.take_nil, List.length_cons, List.length_nil, Nat.zero_add, Nat.add_zero, Nat.reduceAdd] at hS))
    go_ret
    exact ⟨rfl, hS.below⟩
  have d1 : decide (60 < (n : Int)) = false := decide_eq_false (by omega)
  have d2 : decide (60 < n) = false := decide_eq_false (by omega)
  go_enter Try.func11, Try.ntmps11
  go_wp2_with (first
    | (go_at_call 36; (with_reducible refine (cX.out _).mono ?_); rintro _ w3 ⟨g, gm, rfl, hk9⟩; have hS1 := hS.made hk9; clear hS hk9; have hS : St w [] (rpA g gm dev RpS.off ++ []) w3 := hS1; clear hS1; rw [List.append_nil] at hS)
    | (go_at_call 37; (with_reducible refine (cA.out _).mono ?_); rintro _ w3 ⟨rfl, hk9⟩; have hS1 := hS.keepB hk9; clear hk9 hS; have hS := hS1; clear hS1)
    | (with_reducible refine wpList_box_st hS rfl rfl rfl ?_; intro g1 w1 hS1; clear hS; replace hS := hS1; clear hS1) | (with_reducible refine wpList_box1_st hS rfl rfl rfl ?_; intro g1 w1 hS1; clear hS; replace hS := hS1; clear hS1) | (with_reducible refine wpList_alloc_st hS rfl rfl (by assumption) ?_; intro g1 w1 hS1; clear hS; replace hS := hS1; clear hS1) | (with_reducible refine wpList_alloc1_st hS rfl rfl (by assumption) rfl ?_; intro g1 w1 hS1; clear hS; replace hS := hS1; clear hS1) | ((with_reducible refine wpList_load_st 0 hS rfl rfl rfl rfl ?_ rfl ?_); focus (simp [scalarB, go_sem]; done)) | ((with_reducible refine wpList_loadall_st 0 hS rfl rfl rfl rfl ?_ (by kernel_rfl) ?_); focus (simp [rowB, go_sem]; done)) | ((with_reducible refine wpList_store_st 0 hS rfl rfl rfl rfl (by kernel_rfl) rfl rfl ?_); intro w1 hS1; clear hS; replace hS := hS1; clear hS1; try simp only [List.set_cons_zero, List.set_cons_succ, List.setIfInBounds_toArray, List.take_succ_cons, List.take_zero, List.drop_succ_cons, List.drop_zero, List.nil_append, List.cons_append, List.append_nil, List.drop_nil, List.take_nil, List.length_cons, List.length_nil, Nat.zero_add, Nat.add_zero, Nat.reduceAdd] at hS) | ((with_reducible refine wpList_storerow_st 0 hS rfl rfl rfl rfl (by kernel_rfl) rfl rfl rfl rfl ?_); intro w1 hS1; clear hS; replace hS := hS1; clear hS1; try simp only [List.set_cons_zero, List.set_cons_succ, List.setIfInBounds_toArray, List.take_succ_cons, List.take_zero, List.drop_succ_cons, List.drop_zero, List.nil_append, List.cons_append, List.append_nil, List.drop_nil, List.take_nil, List.length_cons, List.length_nil, Nat.zero_add, Nat.add_zero, Nat.reduceAdd] at hS))
  have hS1 := (hS.nilrow 41 27).swap
  clear hS
  have hS : St w [] (rrA g1 dev RpS.off none 0 ++ rpA g gm dev RpS.off) _ := hS1
  clear hS1
  go_loopg [9] n (fun gk vx wr => ∃ (j : Nat) (s : RpS) (ar : Option Addr) (cr : Nat), j + gk = n ∧ vx = .int .i64 j ∧ Hid (MOk s (100 * j)) ∧ St w [] (rrA g1 dev s ar cr ++ rpA g gm dev s) wr)
  case atStart => exact ⟨0, RpS.off, none, 0, Nat.zero_add _, rfl, Lib.hid (MOk.off _), hS⟩
  case round =>
    clear hS
    obtain ⟨j, s, ar, cr, hj, rfl, hM, hS⟩ := hrel
    by_cases hlt : j < n
    case neg =>
      go_wp2_with (first
        | (go_at_call 37; (with_reducible refine (cA.out _).mono ?_); rintro _ w3 ⟨rfl, hk9⟩; have hS1 := hS.keepB hk9; clear hk9 hS; have hS := hS1; clear hS1)
        | (go_at_call 44; (with_reducible refine (c0.out _).mono ?_); rintro _ w3 ⟨rfl, hk9⟩; have hS1 := hS.keepB hk9; clear hk9 hS; have hS := hS1; clear hS1))
      go_ret
      exact ⟨rfl, hS.below⟩
    have hjl : j < l.length := by rw [hlen.out]; exact hlt
    obtain ⟨b, off, rfl⟩ := hbase.out (by omega)
    have hrow := hl.out.rowb hlens.out j hjl
    have hin := hmem.out _ (List.getElem_mem hjl)
    generalize l[j] = x at *
    obtain ⟨xk, xa, xb, code, reset, fr, tt, ia, xn, xc, xl⟩ := x
    have z0 : w.cell? ⟨b, off + j * 14, none⟩ = some (.int .i64 xk) := by simpa using hrow 0 _ rfl
    have z1 : w.cell? ⟨b, off + j * 14 + 1, none⟩ = some (.int .i64 xa) := by simpa using hrow 1 _ rfl
    have z2 : w.cell? ⟨b, off + j * 14 + 2, none⟩ = some (.int .i64 xb) := by simpa using hrow 2 _ rfl
    have z13 : w.cell? ⟨b, off + j * 14 + 3 + 10, none⟩ = some (.slice ia xn xc) := by simpa [Nat.add_assoc] using hrow 13 _ rfl
    have y13 := hS.old z13 (by simp)
    have zp : w.rangeAt b (off + j * 14 + 3) (pgRow code reset fr tt ia xn xc) := fun k v hk => by
      have := hrow (k + 3) v (by simpa [acRow] using hk)
      rw [show off + j * 14 + 3 + k = off + j * 14 + (k + 3) by omega]
      exact this
    replace hin : Lst itRow ItIn w ia xn xc xl := hin
    replace hin := Lib.hid hin
    clear hrow
    have hcd := Lib.hid fun x hx => cd_ok (hin.out.mem x hx).c
    obtain ⟨wd, hwd⟩ : ∃ z, wideI xl = z := ⟨_, rfl⟩
    have cWx := fun W hb => cW.out ia xn xc xl W (hin.out.below hb)
    rw [hwd] at cWx
    have hx100 : wd = false → xn ≤ 100 := fun h => by
      rw [h] at hwd
      unfold wideI at hwd
      rw [Bool.or_eq_false_iff] at hwd
      have := of_decide_eq_false hwd.1
      rw [hin.out.len] at this
      omega
    replace cWx := Lib.hid cWx
    replace hwd := Lib.hid hwd
    have hpl : ∀ P Q, (pgRow code reset P Q ia xn xc).length = 11 := fun _ _ => rfl
    have hpo : ∀ P Q, (pgRow code reset P Q ia xn xc).all Value.oneCell' = true := fun _ _ => rfl
    obtain ⟨PR, hPR⟩ : ∃ z, pgRow code reset fr tt ia xn xc = z := ⟨_, rfl⟩
    have hl1 := hpl fr tt
    have ho1 := hpo fr tt
    rw [hPR] at zp hl1 ho1
    replace hPR := Lib.hid hPR
    cases wd
    case true =>
      clear hx100
      go_wp2_with (first | (go_at_call 33; (with_reducible refine (cWx.out _ hS.below).mono ?_); rintro _ w3 ⟨rfl, hk9⟩; have hS1 := hS.keepB hk9; clear hk9 hS; have hS := hS1; clear hS1) | (go_at_call 37; (with_reducible refine (cA.out _).mono ?_); rintro _ w3 ⟨rfl, hk9⟩; have hS1 := hS.keepB hk9; clear hk9 hS; have hS := hS1; clear hS1) | (with_reducible refine wpList_rangerow (t := 66) (n := 11) (range_old hS zp) rfl rfl rfl (by kernel_rfl) (by kernel_rfl) hl1 ?_) | (with_reducible refine wpList_alloc_st (t := 66) (L := [_, _, _, _]) hS rfl rfl ep ?_; intro gA w1 hS1; clear hS; have hS := hS1; clear hS1; have y0 := hS.old z0 (by simp)) | ((with_reducible refine wpList_storerow_st (t := 66) (n := 11) (vs := PR) (j := 0) 0 hS rfl rfl rfl rfl (by kernel_rfl) rfl hl1 ho1 (by kernel_rfl) ?_); intro w1 hS1; clear hS; have hS := hS1; clear hS1; try simp only [List.set_cons_zero, List.set_cons_succ, List.setIfInBounds_toArray, List.take_succ_cons, List.take_zero, List.drop_succ_cons, List.drop_zero, List.nil_append, List.cons_append, List.append_nil, List.drop_nil, List.take_nil, List.length_cons, List.length_nil, Nat.zero_add, Nat.add_zero, Nat.reduceAdd] at hS; have y0 := hS.old z0 (by simp)))
      go_ret
      exact ⟨rfl, hS.below⟩
    have hx := hx100 rfl
    clear hx100
    go_upto_block 2 with (first | (go_at_call 33; (with_reducible refine (cWx.out _ hS.below).mono ?_); rintro _ w3 ⟨rfl, hk9⟩; have hS1 := hS.keepB hk9; clear hk9 hS; have hS := hS1; clear hS1) | (go_at_call 37; (with_reducible refine (cA.out _).mono ?_); rintro _ w3 ⟨rfl, hk9⟩; have hS1 := hS.keepB hk9; clear hk9 hS; have hS := hS1; clear hS1) | (with_reducible refine wpList_rangerow (t := 66) (n := 11) (range_old hS zp) rfl rfl rfl (by kernel_rfl) (by kernel_rfl) hl1 ?_) | (with_reducible refine wpList_alloc_st (t := 66) (L := [_, _, _, _]) hS rfl rfl ep ?_; intro gA w1 hS1; clear hS; have hS := hS1; clear hS1; have y0 := hS.old z0 (by simp)) | ((with_reducible refine wpList_storerow_st (t := 66) (n := 11) (vs := PR) (j := 0) 0 hS rfl rfl rfl rfl (by kernel_rfl) rfl hl1 ho1 (by kernel_rfl) ?_); intro w1 hS1; clear hS; have hS := hS1; clear hS1; try simp only [List.set_cons_zero, List.set_cons_succ, List.setIfInBounds_toArray, List.take_succ_cons, List.take_zero, List.drop_succ_cons, List.drop_zero, List.nil_append, List.cons_append, List.append_nil, List.drop_nil, List.take_nil, List.length_cons, List.length_nil, Nat.zero_add, Nat.add_zero, Nat.reduceAdd] at hS; have y0 := hS.old z0 (by simp)))
    go_simp
    go_cut [] from 45 to 158 (fun wc => ∃ (s1 : RpS) (ar2 : Option Addr) (cr2 : Nat), Hid (MOk s1 (100 * (j + 1))) ∧ St w [] (rrA g1 dev s1 ar2 cr2 ++ rpA g gm dev s1) wc)
    case first =>
      by_cases hk0 : xk = 0
      · subst hk0
        go_wp2_with (first | (go_at_call 33; (with_reducible refine (cWx.out _ hS.below).mono ?_); rintro _ w3 ⟨rfl, hk9⟩; have hS1 := hS.keepB hk9; clear hk9 hS; have hS := hS1; clear hS1) | (go_at_call 37; (with_reducible refine (cA.out _).mono ?_); rintro _ w3 ⟨rfl, hk9⟩; have hS1 := hS.keepB hk9; clear hk9 hS; have hS := hS1; clear hS1) | (with_reducible refine wpList_rangerow (t := 66) (n := 11) (range_old hS zp) rfl rfl rfl (by kernel_rfl) (by kernel_rfl) hl1 ?_) | (with_reducible refine wpList_alloc_st (t := 66) (L := [_, _, _, _]) hS rfl rfl ep ?_; intro gA w1 hS1; clear hS; have hS := hS1; clear hS1; have y0 := hS.old z0 (by simp)) | ((with_reducible refine wpList_storerow_st (t := 66) (n := 11) (vs := PR) (j := 0) 0 hS rfl rfl rfl rfl (by kernel_rfl) rfl hl1 ho1 (by kernel_rfl) ?_); intro w1 hS1; clear hS; have hS := hS1; clear hS1; try simp only [List.set_cons_zero, List.set_cons_succ, List.setIfInBounds_toArray, List.take_succ_cons, List.take_zero, List.drop_succ_cons, List.drop_zero, List.nil_append, List.cons_append, List.append_nil, List.drop_nil, List.take_nil, List.length_cons, List.length_nil, Nat.zero_add, Nat.add_zero, Nat.reduceAdd] at hS; have y0 := hS.old z0 (by simp)))
        obtain ⟨bb, hbb⟩ : ∃ z, (s.begin dev xa xb).2 = z := ⟨_, rfl⟩
        have cB1 := fun W h => cB.out g gm xa xb s W h
        have cB2 := fun W h => rrbegin_any g1 dev xa xb s ar cr W h
        rw [hbb] at cB1 cB2
        have hb0 : (bb != bb) = false := by simp
        have hM2 := Lib.hid ((hM.out.begin dev xa xb).mono (show 100 * j ≤ 100 * (j + 1) by omega))
        replace cB1 := Lib.hid cB1
        replace cB2 := Lib.hid cB2
        replace hbb := Lib.hid hbb
        generalize hs1 : (s.begin dev xa xb).1 = s1 at *
        replace hs1 := Lib.hid hs1
        refine mixs_beginC 0 (by kernel_rfl) hS rfl ?_
        clear hS
        intro w2 hS hC
        have kC := hC.kblk 0 rfl
        have ka := hC.kold0 z1
        have kb := hC.kold0 z2
        refine mixs_take 0 (v := ?_) rfl (by kernel_rfl) (fun _ _ _ h => h) (by kernel_rfl) (by assumption) (fun s => ?hy) ?_; case hy => (go_simp <;> with_reducible rfl)
        try simp only [List.getElem_toArray, List.getElem_cons_succ, List.getElem_cons_zero, Act.put, List.setIfInBounds_toArray, List.set_cons_zero, List.set_cons_succ]
        refine mixs_take 1 (v := ?_) rfl (by kernel_rfl) (fun _ _ _ h => h) (by kernel_rfl) (by assumption) (fun s => ?hy) ?_; case hy => (go_simp <;> with_reducible rfl)
        try simp only [List.getElem_toArray, List.getElem_cons_succ, List.getElem_cons_zero, Act.put, List.setIfInBounds_toArray, List.set_cons_zero, List.set_cons_succ]
        refine mixs_take 2 (v := ?_) rfl (by kernel_rfl) (fun _ _ _ h => h) (by kernel_rfl) (by assumption) (fun s => ?hy) ?_; case hy => (go_simp <;> with_reducible rfl)
        try simp only [List.getElem_toArray, List.getElem_cons_succ, List.getElem_cons_zero, Act.put, List.setIfInBounds_toArray, List.set_cons_zero, List.set_cons_succ]
        refine mixs_take 3 (v := ?_) rfl (by kernel_rfl) (fun _ _ _ h => h) (by kernel_rfl) (by assumption) (fun s => ?hy) ?_; case hy => (go_simp <;> with_reducible rfl)
        try simp only [List.getElem_toArray, List.getElem_cons_succ, List.getElem_cons_zero, Act.put, List.setIfInBounds_toArray, List.set_cons_zero, List.set_cons_succ]
        refine mixs_take 4 (v := ?_) rfl (by kernel_rfl) (fun _ _ _ h => h) (by kernel_rfl) (by assumption) (fun s => ?hy) ?_; case hy => (go_simp <;> with_reducible rfl)
        try simp only [List.getElem_toArray, List.getElem_cons_succ, List.getElem_cons_zero, Act.put, List.setIfInBounds_toArray, List.set_cons_zero, List.set_cons_succ]
        refine mixs_take 5 (v := ?_) rfl (by kernel_rfl) (fun _ _ _ h => h) (by kernel_rfl) (by assumption) (fun s => ?hy) ?_; case hy => (go_simp <;> with_reducible rfl)
        try simp only [List.getElem_toArray, List.getElem_cons_succ, List.getElem_cons_zero, Act.put, List.setIfInBounds_toArray, List.set_cons_zero, List.set_cons_succ]
        refine mixs_take 6 (v := ?_) rfl (by kernel_rfl) (fun _ _ _ h => h) (by kernel_rfl) (by assumption) (fun s => ?hy) ?_; case hy => (go_simp <;> with_reducible rfl)
        try simp only [List.getElem_toArray, List.getElem_cons_succ, List.getElem_cons_zero, Act.put, List.setIfInBounds_toArray, List.set_cons_zero, List.set_cons_succ]
        refine mixs_take 7 (v := ?_) rfl (by kernel_rfl) (fun _ _ _ h => h) (by kernel_rfl) (by assumption) (fun s => ?hy) ?_; case hy => (go_simp <;> with_reducible rfl)
        try simp only [List.getElem_toArray, List.getElem_cons_succ, List.getElem_cons_zero, Act.put, List.setIfInBounds_toArray, List.set_cons_zero, List.set_cons_succ]
        refine mixs_take 8 (v := ?_) rfl (by kernel_rfl) (fun _ _ _ h => h) (by kernel_rfl) (by assumption) (fun s => ?hy) ?_; case hy => (go_simp <;> with_reducible rfl)
        try simp only [List.getElem_toArray, List.getElem_cons_succ, List.getElem_cons_zero, Act.put, List.setIfInBounds_toArray, List.set_cons_zero, List.set_cons_succ]
        refine mixs_take 9 (v := ?_) rfl (by kernel_rfl) (fun _ _ _ h => h) (by kernel_rfl) (by assumption) (fun s => ?hy) ?_; case hy => (go_simp <;> with_reducible rfl)
        try simp only [List.getElem_toArray, List.getElem_cons_succ, List.getElem_cons_zero, Act.put, List.setIfInBounds_toArray, List.set_cons_zero, List.set_cons_succ]
        refine mixs_take 10 (v := ?_) rfl (by kernel_rfl) (fun _ _ _ h => h) (by kernel_rfl) (by assumption) (fun s => ?hy) ?_; case hy => (go_simp <;> with_reducible rfl)
        try simp only [List.getElem_toArray, List.getElem_cons_succ, List.getElem_cons_zero, Act.put, List.setIfInBounds_toArray, List.set_cons_zero, List.set_cons_succ]
        refine mixs_take 12 (v := ?_) rfl (by kernel_rfl) (fun _ _ _ h => h) (by kernel_rfl) (by assumption) (fun s => ?hy) ?_; case hy => (go_simp <;> with_reducible rfl)
        try simp only [List.getElem_toArray, List.getElem_cons_succ, List.getElem_cons_zero, Act.put, List.setIfInBounds_toArray, List.set_cons_zero, List.set_cons_succ]
        refine mixs_take 13 (v := ?_) rfl (by kernel_rfl) (fun _ _ _ h => h) (by kernel_rfl) (by assumption) (fun s => ?hy) ?_; case hy => (go_simp <;> with_reducible rfl)
        try simp only [List.getElem_toArray, List.getElem_cons_succ, List.getElem_cons_zero, Act.put, List.setIfInBounds_toArray, List.set_cons_zero, List.set_cons_succ]
        refine mixs_take 14 (v := ?_) rfl (by kernel_rfl) (fun _ _ _ h => h) (by kernel_rfl) (by assumption) (fun s => ?hy) ?_; case hy => (go_simp <;> with_reducible rfl)
        try simp only [List.getElem_toArray, List.getElem_cons_succ, List.getElem_cons_zero, Act.put, List.setIfInBounds_toArray, List.set_cons_zero, List.set_cons_succ]
        refine mixs_take 15 (v := ?_) rfl (by kernel_rfl) (fun _ _ _ h => h) (by kernel_rfl) (by assumption) (fun s => ?hy) ?_; case hy => (go_simp <;> with_reducible rfl)
        try simp only [List.getElem_toArray, List.getElem_cons_succ, List.getElem_cons_zero, Act.put, List.setIfInBounds_toArray, List.set_cons_zero, List.set_cons_succ]
        refine mixs_take 16 (v := ?_) rfl (by kernel_rfl) (fun _ _ _ h => h) (by kernel_rfl) (by assumption) (fun s => ?hy) ?_; case hy => (go_simp <;> with_reducible rfl)
        try simp only [List.getElem_toArray, List.getElem_cons_succ, List.getElem_cons_zero, Act.put, List.setIfInBounds_toArray, List.set_cons_zero, List.set_cons_succ]
        refine mixs_take 17 (v := ?_) rfl (by kernel_rfl) (fun _ _ _ h => h) (by kernel_rfl) (by assumption) (fun s => ?hy) ?_; case hy => (go_simp <;> with_reducible rfl)
        try simp only [List.getElem_toArray, List.getElem_cons_succ, List.getElem_cons_zero, Act.put, List.setIfInBounds_toArray, List.set_cons_zero, List.set_cons_succ]
        refine mixs_take 18 (v := ?_) rfl (by kernel_rfl) (fun _ _ _ h => h) (by kernel_rfl) (by assumption) (fun s => ?hy) ?_; case hy => (go_simp <;> with_reducible rfl)
        try simp only [List.getElem_toArray, List.getElem_cons_succ, List.getElem_cons_zero, Act.put, List.setIfInBounds_toArray, List.set_cons_zero, List.set_cons_succ]
        refine mixs_take 19 (v := ?_) rfl (by kernel_rfl) (fun _ _ _ h => h) (by kernel_rfl) (by assumption) (fun s => ?hy) ?_; case hy => (go_simp <;> with_reducible rfl)
        try simp only [List.getElem_toArray, List.getElem_cons_succ, List.getElem_cons_zero, Act.put, List.setIfInBounds_toArray, List.set_cons_zero, List.set_cons_succ]
        refine mixs_take 20 (v := ?_) rfl (by kernel_rfl) (fun _ _ _ h => h) (by kernel_rfl) (by assumption) (fun s => ?hy) ?_; case hy => (go_simp <;> with_reducible rfl)
        try simp only [List.getElem_toArray, List.getElem_cons_succ, List.getElem_cons_zero, Act.put, List.setIfInBounds_toArray, List.set_cons_zero, List.set_cons_succ]
        refine mixs_take 21 (v := ?_) rfl (by kernel_rfl) (fun _ _ _ h => h) (by kernel_rfl) (by assumption) (fun s => ?hy) ?_; case hy => (go_simp <;> with_reducible rfl)
        try simp only [List.getElem_toArray, List.getElem_cons_succ, List.getElem_cons_zero, Act.put, List.setIfInBounds_toArray, List.set_cons_zero, List.set_cons_succ]
        refine mixs_one 11 (by kernel_rfl) rfl (fun K hK => ?_)
        go_simp
        ( (go_at_call 39; (with_reducible refine (cB1.out _ (hS.preM (A := [_, _, _]) (B := rpA g gm dev s) (R := []))).mono ?_); rintro _ w3 ⟨rfl, hk9⟩; have hS1 := hS.callM (A := [_, _, _]) (B := rpA g gm dev s) (R := []) hk9; clear hS hk9; have hS := hS1; clear hS1) )
        try clear hC
        refine hK.out _ _ _ (fun _ h => h) (by first | exact hS | exact hS.drop | exact hS.drop.drop | exact hS.drop.drop.drop | exact hS.drop.drop.drop.drop | exact hS.empty | exact hS.one 0 rfl | exact hS.one 1 rfl | exact hS.one 2 rfl | exact hS.one 3 rfl | exact hS.one 4 rfl | exact hS.one 5 rfl | exact hS.one 6 rfl | exact hS.one 7 rfl | exact hS.one 8 rfl | exact hS.one 9 rfl | exact hS.one 10 rfl | exact hS.one 11 rfl) (fun hC => ?_)
        clear hK K
        try simp only [List.getElem_toArray, List.getElem_cons_succ, List.getElem_cons_zero, Act.put, List.setIfInBounds_toArray, List.set_cons_zero, List.set_cons_succ]
        refine mixs_one 22 (by kernel_rfl) rfl (fun K hK => ?_)
        go_simp
        ( (go_at_call 45; (with_reducible refine (cB2.out _ (hS.preM (A := [_]) (B := rrA g1 dev s ar cr) (R := _))).mono ?_); rintro _ w3 ⟨rfl, ar2, cr2, hk9⟩; have hS1 := hS.callM (A := [_]) (B := rrA g1 dev s ar cr) (R := _) hk9; clear hS hk9; have hS := hS1; clear hS1) )
        try clear hC
        refine hK.out _ _ _ (fun _ h => h) (by first | exact hS | exact hS.drop | exact hS.drop.drop | exact hS.drop.drop.drop | exact hS.drop.drop.drop.drop | exact hS.empty | exact hS.one 0 rfl | exact hS.one 1 rfl | exact hS.one 2 rfl | exact hS.one 3 rfl | exact hS.one 4 rfl | exact hS.one 5 rfl | exact hS.one 6 rfl | exact hS.one 7 rfl | exact hS.one 8 rfl | exact hS.one 9 rfl | exact hS.one 10 rfl | exact hS.one 11 rfl) (fun hC => ?_)
        clear hK K
        try simp only [List.getElem_toArray, List.getElem_cons_succ, List.getElem_cons_zero, Act.put, List.setIfInBounds_toArray, List.set_cons_zero, List.set_cons_succ]
        refine mixs_take 23 (v := ?_) rfl (by kernel_rfl) (fun _ _ _ h => h) (by kernel_rfl) (by assumption) (fun s => ?hy) ?_; case hy => (go_simp <;> with_reducible rfl)
        try simp only [List.getElem_toArray, List.getElem_cons_succ, List.getElem_cons_zero, Act.put, List.setIfInBounds_toArray, List.set_cons_zero, List.set_cons_succ]
        refine wpAnyH_done (by kernel_rfl) ?_ _
        clear ka kb hC
        go_wp2_with fail
        go_meet
        exact ⟨s1, ar2, cr2, hM2, by have := hS.drop; rwa [List.append_nil] at this⟩
      have q0 : (xk == 0) = false := by simpa using hk0
      by_cases hk12 : xk = 1 ∨ xk = 2
      case neg =>
        have q1 : (xk == 1) = false := by simpa using fun h => hk12 (.inl h)
        have q2 : (xk == 2) = false := by simpa using fun h => hk12 (.inr h)
        have cS2 := Lib.hid fun W h => rrstop_any g1 dev s ar cr W h
        clear hk0 hk12
        go_wp2_with (first
          | (go_at_call 33; (with_reducible refine (cWx.out _ hS.below).mono ?_); rintro _ w3 ⟨rfl, hk9⟩; have hS1 := hS.keepB hk9; clear hk9 hS; have hS := hS1; clear hS1) | (go_at_call 37; (with_reducible refine (cA.out _).mono ?_); rintro _ w3 ⟨rfl, hk9⟩; have hS1 := hS.keepB hk9; clear hk9 hS; have hS := hS1; clear hS1) | (with_reducible refine wpList_rangerow (t := 66) (n := 11) (range_old hS zp) rfl rfl rfl (by kernel_rfl) (by kernel_rfl) hl1 ?_) | (with_reducible refine wpList_alloc_st (t := 66) (L := [_, _, _, _]) hS rfl rfl ep ?_; intro gA w1 hS1; clear hS; have hS := hS1; clear hS1; have y0 := hS.old z0 (by simp)) | ((with_reducible refine wpList_storerow_st (t := 66) (n := 11) (vs := PR) (j := 0) 0 hS rfl rfl rfl rfl (by kernel_rfl) rfl hl1 ho1 (by kernel_rfl) ?_); intro w1 hS1; clear hS; have hS := hS1; clear hS1; try simp only [List.set_cons_zero, List.set_cons_succ, List.setIfInBounds_toArray, List.take_succ_cons, List.take_zero, List.drop_succ_cons, List.drop_zero, List.nil_append, List.cons_append, List.append_nil, List.drop_nil, List.take_nil, List.length_cons, List.length_nil, Nat.zero_add, Nat.add_zero, Nat.reduceAdd] at hS; have y0 := hS.old z0 (by simp))
          | (go_at_call 43; (with_reducible refine (cS.out g gm s _ (hS.preM (A := [_, _, _]) (B := rpA g gm dev s) (R := []))).mono ?_); rintro _ w3 ⟨rfl, hk9⟩; have hS1 := hS.callM (A := [_, _, _]) (B := rpA g gm dev s) (R := []) hk9; clear hS hk9; have hS := hS1; clear hS1)
          | (go_at_call 47; (with_reducible refine (cS2.out _ (hS.preM (A := [_]) (B := rrA g1 dev s ar cr) (R := _))).mono ?_); rintro _ w3 ⟨rfl, ar2, cr2, hk9⟩; have hS1 := hS.callM (A := [_]) (B := rrA g1 dev s ar cr) (R := _) hk9; clear hS hk9; have hS := hS1; clear hS1))
        go_meet
        exact ⟨RpS.off, ar2, cr2, Lib.hid (MOk.off _), by have := hS.drop; rwa [List.append_nil] at this⟩
      clear hk0
      rcases hk12 with hk1 | hk1
      · subst hk1
        obtain ⟨P, hP⟩ : ∃ z, fr = z := ⟨_, rfl⟩
        obtain ⟨Q, hQ⟩ : ∃ z, tt = z := ⟨_, rfl⟩
        rw [hP, hQ] at hPR
        go_wp2_with (first | (go_at_call 33; (with_reducible refine (cWx.out _ hS.below).mono ?_); rintro _ w3 ⟨rfl, hk9⟩; have hS1 := hS.keepB hk9; clear hk9 hS; have hS := hS1; clear hS1) | (go_at_call 37; (with_reducible refine (cA.out _).mono ?_); rintro _ w3 ⟨rfl, hk9⟩; have hS1 := hS.keepB hk9; clear hk9 hS; have hS := hS1; clear hS1) | (with_reducible refine wpList_rangerow (t := 66) (n := 11) (range_old hS zp) rfl rfl rfl (by kernel_rfl) (by kernel_rfl) hl1 ?_) | (with_reducible refine wpList_alloc_st (t := 66) (L := [_, _, _, _]) hS rfl rfl ep ?_; intro gA w1 hS1; clear hS; have hS := hS1; clear hS1; have y0 := hS.old z0 (by simp)) | ((with_reducible refine wpList_storerow_st (t := 66) (n := 11) (vs := PR) (j := 0) 0 hS rfl rfl rfl rfl (by kernel_rfl) rfl hl1 ho1 (by kernel_rfl) ?_); intro w1 hS1; clear hS; have hS := hS1; clear hS1; try simp only [List.set_cons_zero, List.set_cons_succ, List.setIfInBounds_toArray, List.take_succ_cons, List.take_zero, List.drop_succ_cons, List.drop_zero, List.nil_append, List.cons_append, List.append_nil, List.drop_nil, List.take_nil, List.length_cons, List.length_nil, Nat.zero_add, Nat.add_zero, Nat.reduceAdd] at hS; have y0 := hS.old z0 (by simp)))
        have cT1 := fun W (hb : Below w.heap.size w W) h => rtake_any g gm dev s code reset P Q ia xn xc xl W h (hin.out.below hb) hM.out.ris hM.out.ok (by have := hM.out.len; omega) (by omega)
        have cT2 := fun W (hb : Below w.heap.size w W) h => rrtake_any g1 dev s ar cr code reset P Q ia xn xc xl W h (hin.out.below hb) hM.out.ris hM.out.ok (by have := hM.out.len; omega) (by omega)
        rw [hPR.out] at cT1 cT2
        have hM2 := hM.out.take code reset P Q xl (by rw [hin.out.len]; exact hx) hcd.out
        generalize s.take code reset P Q xl = TK at *
        obtain ⟨s1, tk⟩ := TK
        dsimp only at hM2 cT1 cT2
        replace cT1 := Lib.hid cT1
        replace cT2 := Lib.hid cT2
        replace hM2 := Lib.hid (hM2.mono (show 100 * j + 100 ≤ 100 * (j + 1) by omega))
        have hvP : (PR.toArray.toList.drop 0).take 11 = PR := by simp [← hl1]
        have hb0 : (tk != tk) = false := by simp
        refine mixs_beginC 0 (by kernel_rfl) hS rfl ?_
        clear hS
        intro w2 hS hC
        have kC := hC.kblk 0 rfl
        have kP := hC.krow (P := Try.prog) (j := 0) 0 rfl (t := 66) (by kernel_rfl) (n := 11) (by kernel_rfl) hvP hl1
        refine mixs_take 0 (v := ?_) rfl (by kernel_rfl) (fun _ _ _ h => h) (by kernel_rfl) (by assumption) (fun s => ?hy) ?_; case hy => (go_simp <;> with_reducible rfl)
        try simp only [List.getElem_toArray, List.getElem_cons_succ, List.getElem_cons_zero, Act.put, List.setIfInBounds_toArray, List.set_cons_zero, List.set_cons_succ]
        refine mixs_take 1 (v := ?_) rfl (by kernel_rfl) (fun _ _ _ h => h) (by kernel_rfl) (by assumption) (fun s => ?hy) ?_; case hy => (refine Eq.trans (take_loadrow s rfl rfl kP) ?_; with_reducible rfl)
        try simp only [List.getElem_toArray, List.getElem_cons_succ, List.getElem_cons_zero, Act.put, List.setIfInBounds_toArray, List.set_cons_zero, List.set_cons_succ]
        refine mixs_take 3 (v := ?_) rfl (by kernel_rfl) (fun _ _ _ h => h) (by kernel_rfl) (by assumption) (fun s => ?hy) ?_; case hy => (refine Eq.trans (take_loadrow s rfl rfl kP) ?_; with_reducible rfl)
        try simp only [List.getElem_toArray, List.getElem_cons_succ, List.getElem_cons_zero, Act.put, List.setIfInBounds_toArray, List.set_cons_zero, List.set_cons_succ]
        refine mixs_one 2 (by kernel_rfl) rfl (fun K hK => ?_)
        go_simp
        ( (go_at_call 41; (with_reducible refine (cT1.out _ hS.below (hS.preM (A := [_, _, _]) (B := rpA g gm dev s) (R := []))).mono ?_); rintro _ w3 ⟨rfl, hk9⟩; have hS1 := hS.callM (A := [_, _, _]) (B := rpA g gm dev s) (R := []) hk9; clear hS hk9; have hS := hS1; clear hS1) )
        try clear hC
        refine hK.out _ _ _ (fun _ h => h) (by first | exact hS | exact hS.drop | exact hS.drop.drop | exact hS.drop.drop.drop | exact hS.drop.drop.drop.drop | exact hS.empty | exact hS.one 0 rfl | exact hS.one 1 rfl | exact hS.one 2 rfl | exact hS.one 3 rfl | exact hS.one 4 rfl | exact hS.one 5 rfl | exact hS.one 6 rfl | exact hS.one 7 rfl | exact hS.one 8 rfl | exact hS.one 9 rfl | exact hS.one 10 rfl | exact hS.one 11 rfl) (fun hC => ?_)
        clear hK K
        try simp only [List.getElem_toArray, List.getElem_cons_succ, List.getElem_cons_zero, Act.put, List.setIfInBounds_toArray, List.set_cons_zero, List.set_cons_succ]
        refine mixs_one 4 (by kernel_rfl) rfl (fun K hK => ?_)
        go_simp
        ( (go_at_call 46; (with_reducible refine (cT2.out _ hS.below (hS.preM (A := [_]) (B := rrA g1 dev s ar cr) (R := _))).mono ?_); rintro _ w3 ⟨rfl, ar2, cr2, hk9⟩; have hS1 := hS.callM (A := [_]) (B := rrA g1 dev s ar cr) (R := _) hk9; clear hS hk9; have hS := hS1; clear hS1) )
        try clear hC
        refine hK.out _ _ _ (fun _ h => h) (by first | exact hS | exact hS.drop | exact hS.drop.drop | exact hS.drop.drop.drop | exact hS.drop.drop.drop.drop | exact hS.empty | exact hS.one 0 rfl | exact hS.one 1 rfl | exact hS.one 2 rfl | exact hS.one 3 rfl | exact hS.one 4 rfl | exact hS.one 5 rfl | exact hS.one 6 rfl | exact hS.one 7 rfl | exact hS.one 8 rfl | exact hS.one 9 rfl | exact hS.one 10 rfl | exact hS.one 11 rfl) (fun hC => ?_)
        clear hK K
        try simp only [List.getElem_toArray, List.getElem_cons_succ, List.getElem_cons_zero, Act.put, List.setIfInBounds_toArray, List.set_cons_zero, List.set_cons_succ]
        refine mixs_take 5 (v := ?_) rfl (by kernel_rfl) (fun _ _ _ h => h) (by kernel_rfl) (by assumption) (fun s => ?hy) ?_; case hy => (go_simp <;> with_reducible rfl)
        try simp only [List.getElem_toArray, List.getElem_cons_succ, List.getElem_cons_zero, Act.put, List.setIfInBounds_toArray, List.set_cons_zero, List.set_cons_succ]
        refine wpAnyH_done (by kernel_rfl) ?_ _
        clear kP hC
        go_wp2_with fail
        go_meet
        exact ⟨s1, ar2, cr2, hM2, by have := hS.drop; rwa [List.append_nil] at this⟩
      · subst hk1
        obtain ⟨P, hP⟩ : ∃ z, s.t = z := ⟨_, rfl⟩
        obtain ⟨Q, hQ⟩ : ∃ z, fitT code reset tt P = z := ⟨_, rfl⟩
        obtain ⟨PR2, hPR2⟩ : ∃ z, pgRow code reset P Q ia xn xc = z := ⟨_, rfl⟩
        have hl2 := hpl P Q
        have ho2 := hpo P Q
        rw [hPR2] at hl2 ho2
        have cF1 := fun W => cF.out code reset fr tt P ia xn xc W
        rw [hQ, hPR2, hPR.out] at cF1
        have hvT : ((rrRow dev s ar cr).toArray.toList.drop 2).take 4 = tkRow P := by rw [← hP]; rfl
        have hlT : (tkRow P).length = 4 := rfl
        have hz1 : Nat.ble (0 + 11) PR.toArray.size = true := by simp [hl1]
        replace cF1 := Lib.hid cF1
        replace hPR2 := Lib.hid hPR2
        replace hP := Lib.hid hP
        replace hQ := Lib.hid hQ
        go_wp2_with (first
          | (go_at_call 33; (with_reducible refine (cWx.out _ hS.below).mono ?_); rintro _ w3 ⟨rfl, hk9⟩; have hS1 := hS.keepB hk9; clear hk9 hS; have hS := hS1; clear hS1) | (go_at_call 37; (with_reducible refine (cA.out _).mono ?_); rintro _ w3 ⟨rfl, hk9⟩; have hS1 := hS.keepB hk9; clear hk9 hS; have hS := hS1; clear hS1) | (with_reducible refine wpList_rangerow (t := 66) (n := 11) (range_old hS zp) rfl rfl rfl (by kernel_rfl) (by kernel_rfl) hl1 ?_) | (with_reducible refine wpList_alloc_st (t := 66) (L := [_, _, _, _]) hS rfl rfl ep ?_; intro gA w1 hS1; clear hS; have hS := hS1; clear hS1; have y0 := hS.old z0 (by simp)) | ((with_reducible refine wpList_storerow_st (t := 66) (n := 11) (vs := PR) (j := 0) 0 hS rfl rfl rfl rfl (by kernel_rfl) rfl hl1 ho1 (by kernel_rfl) ?_); intro w1 hS1; clear hS; have hS := hS1; clear hS1; try simp only [List.set_cons_zero, List.set_cons_succ, List.setIfInBounds_toArray, List.take_succ_cons, List.take_zero, List.drop_succ_cons, List.drop_zero, List.nil_append, List.cons_append, List.append_nil, List.drop_nil, List.take_nil, List.length_cons, List.length_nil, Nat.zero_add, Nat.add_zero, Nat.reduceAdd] at hS; have y0 := hS.old z0 (by simp))
          | (go_at_call 40; (with_reducible refine (cF1.out _).mono ?_); rintro _ w3 ⟨rfl, hk9⟩; have hS1 := hS.keepB hk9; clear hk9 hS; have hS := hS1; clear hS1)
          | ((with_reducible refine wpList_loadrow_st (t := 66) (n := 11) (j := 0) (vs := PR) 0 hS rfl rfl rfl rfl (by kernel_rfl) (by kernel_rfl) (by simp [← hl1]) hl1 ?_))
          | ((with_reducible refine wpList_loadrow_st (t := 64) (n := 4) (j := 2) (vs := tkRow P) 1 hS rfl rfl rfl rfl (by kernel_rfl) (by kernel_rfl) hvT hlT ?_))
          | ((with_reducible refine wpList_storerow_st (t := 66) (n := 11) (vs := PR2) (j := 0) 0 hS rfl rfl rfl rfl (by kernel_rfl) rfl hl2 ho2 hz1 ?_); intro w1 hS1; clear hS; simp only [List.set_cons_zero, whole_row hl1] at hS1; have hS := hS1; clear hS1; have y0 := hS.old z0 (by simp)))
        clear hPR hl1 ho1 zp hz1 cF1
        have hPR := hPR2
        have hl1 := hl2
        have ho1 := ho2
        generalize PR2 = PR at *
        have cT1 := fun W (hb : Below w.heap.size w W) h => rtake_any g gm dev s code reset P Q ia xn xc xl W h (hin.out.below hb) hM.out.ris hM.out.ok (by have := hM.out.len; omega) (by omega)
        have cT2 := fun W (hb : Below w.heap.size w W) h => rrtake_any g1 dev s ar cr code reset P Q ia xn xc xl W h (hin.out.below hb) hM.out.ris hM.out.ok (by have := hM.out.len; omega) (by omega)
        rw [hPR.out] at cT1 cT2
        have hM2 := hM.out.take code reset P Q xl (by rw [hin.out.len]; exact hx) hcd.out
        generalize s.take code reset P Q xl = TK at *
        obtain ⟨s1, tk⟩ := TK
        dsimp only at hM2 cT1 cT2
        replace cT1 := Lib.hid cT1
        replace cT2 := Lib.hid cT2
        replace hM2 := Lib.hid (hM2.mono (show 100 * j + 100 ≤ 100 * (j + 1) by omega))
        have hvP : (PR.toArray.toList.drop 0).take 11 = PR := by simp [← hl1]
        have hb0 : (tk != tk) = false := by simp
        refine mixs_beginC 0 (by kernel_rfl) hS rfl ?_
        clear hS
        intro w2 hS hC
        have kC := hC.kblk 0 rfl
        have kP := hC.krow (P := Try.prog) (j := 0) 0 rfl (t := 66) (by kernel_rfl) (n := 11) (by kernel_rfl) hvP hl1
        refine mixs_take 0 (v := ?_) rfl (by kernel_rfl) (fun _ _ _ h => h) (by kernel_rfl) (by assumption) (fun s => ?hy) ?_; case hy => (go_simp <;> with_reducible rfl)
        try simp only [List.getElem_toArray, List.getElem_cons_succ, List.getElem_cons_zero, Act.put, List.setIfInBounds_toArray, List.set_cons_zero, List.set_cons_succ]
        refine mixs_take 1 (v := ?_) rfl (by kernel_rfl) (fun _ _ _ h => h) (by kernel_rfl) (by assumption) (fun s => ?hy) ?_; case hy => (refine Eq.trans (take_loadrow s rfl rfl kP) ?_; with_reducible rfl)
        try simp only [List.getElem_toArray, List.getElem_cons_succ, List.getElem_cons_zero, Act.put, List.setIfInBounds_toArray, List.set_cons_zero, List.set_cons_succ]
        refine mixs_take 3 (v := ?_) rfl (by kernel_rfl) (fun _ _ _ h => h) (by kernel_rfl) (by assumption) (fun s => ?hy) ?_; case hy => (refine Eq.trans (take_loadrow s rfl rfl kP) ?_; with_reducible rfl)
        try simp only [List.getElem_toArray, List.getElem_cons_succ, List.getElem_cons_zero, Act.put, List.setIfInBounds_toArray, List.set_cons_zero, List.set_cons_succ]
        refine mixs_one 2 (by kernel_rfl) rfl (fun K hK => ?_)
        go_simp
        ( (go_at_call 41; (with_reducible refine (cT1.out _ hS.below (hS.preM (A := [_, _, _]) (B := rpA g gm dev s) (R := []))).mono ?_); rintro _ w3 ⟨rfl, hk9⟩; have hS1 := hS.callM (A := [_, _, _]) (B := rpA g gm dev s) (R := []) hk9; clear hS hk9; have hS := hS1; clear hS1) )
        try clear hC
        refine hK.out _ _ _ (fun _ h => h) (by first | exact hS | exact hS.drop | exact hS.drop.drop | exact hS.drop.drop.drop | exact hS.drop.drop.drop.drop | exact hS.empty | exact hS.one 0 rfl | exact hS.one 1 rfl | exact hS.one 2 rfl | exact hS.one 3 rfl | exact hS.one 4 rfl | exact hS.one 5 rfl | exact hS.one 6 rfl | exact hS.one 7 rfl | exact hS.one 8 rfl | exact hS.one 9 rfl | exact hS.one 10 rfl | exact hS.one 11 rfl) (fun hC => ?_)
        clear hK K
        try simp only [List.getElem_toArray, List.getElem_cons_succ, List.getElem_cons_zero, Act.put, List.setIfInBounds_toArray, List.set_cons_zero, List.set_cons_succ]
        refine mixs_one 4 (by kernel_rfl) rfl (fun K hK => ?_)
        go_simp
        ( (go_at_call 46; (with_reducible refine (cT2.out _ hS.below (hS.preM (A := [_]) (B := rrA g1 dev s ar cr) (R := _))).mono ?_); rintro _ w3 ⟨rfl, ar2, cr2, hk9⟩; have hS1 := hS.callM (A := [_]) (B := rrA g1 dev s ar cr) (R := _) hk9; clear hS hk9; have hS := hS1; clear hS1) )
        try clear hC
        refine hK.out _ _ _ (fun _ h => h) (by first | exact hS | exact hS.drop | exact hS.drop.drop | exact hS.drop.drop.drop | exact hS.drop.drop.drop.drop | exact hS.empty | exact hS.one 0 rfl | exact hS.one 1 rfl | exact hS.one 2 rfl | exact hS.one 3 rfl | exact hS.one 4 rfl | exact hS.one 5 rfl | exact hS.one 6 rfl | exact hS.one 7 rfl | exact hS.one 8 rfl | exact hS.one 9 rfl | exact hS.one 10 rfl | exact hS.one 11 rfl) (fun hC => ?_)
        clear hK K
        try simp only [List.getElem_toArray, List.getElem_cons_succ, List.getElem_cons_zero, Act.put, List.setIfInBounds_toArray, List.set_cons_zero, List.set_cons_succ]
        refine mixs_take 5 (v := ?_) rfl (by kernel_rfl) (fun _ _ _ h => h) (by kernel_rfl) (by assumption) (fun s => ?hy) ?_; case hy => (go_simp <;> with_reducible rfl)
        try simp only [List.getElem_toArray, List.getElem_cons_succ, List.getElem_cons_zero, Act.put, List.setIfInBounds_toArray, List.set_cons_zero, List.set_cons_succ]
        refine wpAnyH_done (by kernel_rfl) ?_ _
        clear kP hC
        go_wp2_with fail
        go_meet
        exact ⟨s1, ar2, cr2, hM2, by have := hS.drop; rwa [List.append_nil] at this⟩
    case rest =>
      clear hS hM zp z0 z1 z2 z13 y13 hin hcd hPR hl1 ho1
      obtain ⟨s1, ar2, cr2, hM2, hS⟩ := hcut
      have hL1 := Lib.hid fun (x : Cd) (hx : x ∈ s1.m) => (hM2.out.ok x hx).f
      have hf : ((lookC s1.m id).getD (Cd.none 0)).f.length = 8 := by
        cases h : lookC s1.m id with
        | none => rfl
        | some c => exact hL1.out c (List.mem_of_find?_eq_some h)
      have hgv : getV (lookC s1.m id) = .tuple #[.agg (cdRow ((lookC s1.m id).getD (Cd.none 0))).toArray, .bool (lookC s1.m id).isSome] := rfl
      have hrl := cdRow_lenT _ hf
      have hro := cdRow_oneT ((lookC s1.m id).getD (Cd.none 0))
      have cG1 := fun w0 w F (h : St w0 F (rpA g gm dev s1) w) => get_at (id := id) h hM2.out hid
      have cG2 := fun W h => rrget_any dev s1 ar2 cr2 id W h
      have hnq := fun W => neq_cd _ _ hf hf W
      simp only [decide_true, Bool.not_true] at hnq
      rw [hgv] at cG1 cG2
      replace cG1 := Lib.hid cG1
      replace cG2 := Lib.hid cG2
      clear hgv hf
      generalize cdRow ((lookC s1.m id).getD (Cd.none 0)) = RC at *
      generalize (lookC s1.m id).isSome = ib at *
      go_wp2_with (first
        | (go_at_call 48; (with_reducible refine (cG1.out _ _ _ (hS.dropM (A := []) (B := [_, _]) (R := rpA g gm dev s1))).mono ?_); rintro _ w3 ⟨rfl, hk9⟩; have hS1 := hS.keepB hk9; clear hk9 hS; have hS := hS1; clear hS1)
        | (go_at_call 49; (with_reducible refine (cG2.out _ (hS.lst 2 rfl rfl hL1.out)).mono ?_); rintro _ w3 ⟨rfl, hk9⟩; have hS1 := hS.keepB hk9; clear hk9 hS; have hS := hS1; clear hS1)
        | (with_reducible refine wpList_alloc_st (t := 41) hS rfl rfl ec ?_; intro gA w1 hS1; clear hS; have hS := hS1; clear hS1)
        | ((with_reducible refine wpList_storerow_st (t := 41) (n := 27) (vs := RC) 0 hS rfl rfl rfl rfl (by kernel_rfl) rfl hrl hro (by kernel_rfl) ?_); intro w1 hS1; clear hS; have hS := hS1; clear hS1; try simp only [List.set_cons_zero, List.set_cons_succ, List.setIfInBounds_toArray, List.take_succ_cons, List.take_zero, List.drop_succ_cons, List.drop_zero, List.nil_append, List.cons_append, List.append_nil, List.drop_nil, List.take_nil, List.length_cons, List.length_nil, Nat.zero_add, Nat.add_zero, Nat.reduceAdd] at hS)
        | ((with_reducible refine wpList_loadall_st 1 hS rfl rfl rfl rfl ?_ (by kernel_rfl) ?_); focus (simp [rowB, go_sem]; done)))
      have hbb1 : (s1.on != s1.on) = false := by simp
      have hib : (ib != ib) = false := by simp
      have hE := fun W => neq_tk s1.t s1.t W
      simp only [decide_true, Bool.not_true] at hE
      have hrT : (tkRow s1.t).length = 4 := rfl
      have cO := Lib.hid fun w0 w F (h : St w0 F (rpA g gm dev s1) w) => ron_any g s1.on w (h.cell 0 rfl 1)
      have cK := Lib.hid fun w0 w F (h : St w0 F (rpA g gm dev s1) w) => token_at h rfl
      have cD := Lib.hid fun w0 w F (h : St w0 F (rpA g gm dev s1) w) => cards_at h hM2.out (by omega)
      have cE := fun a b ca cb W h1 h2 => cC.out a b s1.m.length s1.m.length ca cb s1.m s1.m W h1 h2 (by have := hM2.out.len; omega) (by have := hM2.out.len; omega)
      rw [decide_eq_true rfl] at cE
      replace cE := Lib.hid cE
      have hv1 : (RC.toArray.toList.drop 0).take 27 = RC := by simp [← hrl]
      have hv2 : ((rrRow dev s1 ar2 cr2).toArray.toList.drop 2).take 4 = tkRow s1.t := rfl
      have hr1 : (rrRow dev s1 ar2 cr2)[1]? = some (.bool s1.on) := rfl
      have hr6 : (rrRow dev s1 ar2 cr2)[6]? = some (.slice ar2 s1.m.length cr2) := rfl
      have kR := hS.kblk 2 rfl
      have kA := hS.krow (P := Try.prog) (j := 0) 1 rfl (t := 41) (by kernel_rfl) (n := 27) (by kernel_rfl) hv1 hrl
      have kB := hS.krow (P := Try.prog) (j := 0) 0 rfl (t := 41) (by kernel_rfl) (n := 27) (by kernel_rfl) hv1 hrl
      have kT := hS.krow (P := Try.prog) (j := 2) 2 rfl (t := 64) (by kernel_rfl) (n := 4) (by kernel_rfl) hv2 hrT
      refine mixs_begin (by kernel_rfl) hS ?_
      clear hS
      intro w2 hS
      refine mixs_take 0 (v := ?_) rfl (by kernel_rfl) (fun _ _ _ h => h) (by kernel_rfl) (by assumption) (fun s => ?hy) ?_; case hy => (go_simp <;> with_reducible rfl)
      try simp only [List.getElem_toArray, List.getElem_cons_succ, List.getElem_cons_zero, Act.put, List.setIfInBounds_toArray, List.set_cons_zero, List.set_cons_succ]
      refine mixs_take 2 (v := ?_) rfl (by kernel_rfl) (fun _ _ _ h => h) (by kernel_rfl) (by assumption) (fun s => ?hy) ?_; case hy => (go_simp <;> with_reducible rfl)
      try simp only [List.getElem_toArray, List.getElem_cons_succ, List.getElem_cons_zero, Act.put, List.setIfInBounds_toArray, List.set_cons_zero, List.set_cons_succ]
      refine mixs_take 3 (v := ?_) rfl (by kernel_rfl) (fun _ _ _ h => h) (by kernel_rfl) (by assumption) (fun s => ?hy) ?_; case hy => (go_simp <;> with_reducible rfl)
      try simp only [List.getElem_toArray, List.getElem_cons_succ, List.getElem_cons_zero, Act.put, List.setIfInBounds_toArray, List.set_cons_zero, List.set_cons_succ]
      refine mixs_one 1 (by kernel_rfl) rfl (fun K hK => ?_)
      go_simp
      ( first | (go_at_call 50; (with_reducible refine (cO.out _ _ _ (hS.dropM (A := []) (B := [_, _, _, _]) (R := rpA g gm dev s1))).mono ?_); rintro _ w3 ⟨rfl, hk9⟩; have hS1 := hS.keepB hk9; clear hk9 hS; have hS := hS1; clear hS1) | (go_at_call 38; (with_reducible refine (cK.out _ _ _ (hS.dropM (A := []) (B := [_, _, _, _]) (R := rpA g gm dev s1))).mono ?_); rintro _ w3 ⟨rfl, hk9⟩; have hS1 := hS.keepB hk9; clear hk9 hS; have hS := hS1; clear hS1) | (go_at_call 42; (with_reducible refine (cD.out _ _ _ (hS.dropM (A := []) (B := [_, _, _, _]) (R := rpA g gm dev s1))).mono ?_); rintro _ w3 ⟨a5, c5, rfl, hk9⟩; have hS1 := hS.made hk9; clear hS hk9; have hS := hS1; clear hS1) | (go_at_call 22; (with_reducible refine (cE.out _ _ _ _ _ (hS.lst 0 rfl rfl hL1.out) (hS.lst 4 rfl rfl hL1.out)).mono ?_); rintro _ w3 ⟨rfl, hk9⟩; have hS1 := hS.keepB hk9; clear hk9 hS; have hS := hS1; clear hS1) )
      try clear hC
      refine hK.out _ _ _ (fun _ h => h) (by first | exact hS | exact hS.drop | exact hS.drop.drop | exact hS.drop.drop.drop | exact hS.drop.drop.drop.drop | exact hS.empty | exact hS.one 0 rfl | exact hS.one 1 rfl | exact hS.one 2 rfl | exact hS.one 3 rfl | exact hS.one 4 rfl | exact hS.one 5 rfl | exact hS.one 6 rfl | exact hS.one 7 rfl | exact hS.one 8 rfl | exact hS.one 9 rfl | exact hS.one 10 rfl | exact hS.one 11 rfl) (fun hC => ?_)
      clear hK K
      try simp only [List.getElem_toArray, List.getElem_cons_succ, List.getElem_cons_zero, Act.put, List.setIfInBounds_toArray, List.set_cons_zero, List.set_cons_succ]
      refine mixs_take 4 (v := ?_) rfl (by kernel_rfl) (fun _ _ _ h => h) (by kernel_rfl) (by assumption) (fun s => ?hy) ?_; case hy => (go_simp <;> with_reducible rfl)
      try simp only [List.getElem_toArray, List.getElem_cons_succ, List.getElem_cons_zero, Act.put, List.setIfInBounds_toArray, List.set_cons_zero, List.set_cons_succ]
      refine mixs_take 5 (v := ?_) rfl (by kernel_rfl) (fun _ _ _ h => h) (by kernel_rfl) (by assumption) (fun s => ?hy) ?_; case hy => (go_simp <;> with_reducible rfl)
      try simp only [List.getElem_toArray, List.getElem_cons_succ, List.getElem_cons_zero, Act.put, List.setIfInBounds_toArray, List.set_cons_zero, List.set_cons_succ]
      refine mixs_take 6 (v := ?_) rfl (by kernel_rfl) (fun _ _ _ h => h) (by kernel_rfl) (by assumption) (fun s => ?hy) ?_; case hy => (go_simp <;> with_reducible rfl)
      try simp only [List.getElem_toArray, List.getElem_cons_succ, List.getElem_cons_zero, Act.put, List.setIfInBounds_toArray, List.set_cons_zero, List.set_cons_succ]
      refine mixs_take 8 (v := ?_) rfl (by kernel_rfl) (fun _ _ _ h => h) (by kernel_rfl) (by assumption) (fun s => ?hy) ?_; case hy => (go_simp <;> with_reducible rfl)
      try simp only [List.getElem_toArray, List.getElem_cons_succ, List.getElem_cons_zero, Act.put, List.setIfInBounds_toArray, List.set_cons_zero, List.set_cons_succ]
      refine mixs_take 9 (v := ?_) rfl (by kernel_rfl) (fun _ _ _ h => h) (by kernel_rfl) (by assumption) (fun s => ?hy) ?_; case hy => (refine Eq.trans (take_loadrow s rfl rfl kT) ?_; with_reducible rfl)
      try simp only [List.getElem_toArray, List.getElem_cons_succ, List.getElem_cons_zero, Act.put, List.setIfInBounds_toArray, List.set_cons_zero, List.set_cons_succ]
      refine mixs_one 7 (by kernel_rfl) rfl (fun K hK => ?_)
      go_simp
      ( first | (go_at_call 50; (with_reducible refine (cO.out _ _ _ (hS.dropM (A := []) (B := [_, _, _, _]) (R := rpA g gm dev s1))).mono ?_); rintro _ w3 ⟨rfl, hk9⟩; have hS1 := hS.keepB hk9; clear hk9 hS; have hS := hS1; clear hS1) | (go_at_call 38; (with_reducible refine (cK.out _ _ _ (hS.dropM (A := []) (B := [_, _, _, _]) (R := rpA g gm dev s1))).mono ?_); rintro _ w3 ⟨rfl, hk9⟩; have hS1 := hS.keepB hk9; clear hk9 hS; have hS := hS1; clear hS1) | (go_at_call 42; (with_reducible refine (cD.out _ _ _ (hS.dropM (A := []) (B := [_, _, _, _]) (R := rpA g gm dev s1))).mono ?_); rintro _ w3 ⟨a5, c5, rfl, hk9⟩; have hS1 := hS.made hk9; clear hS hk9; have hS := hS1; clear hS1) | (go_at_call 22; (with_reducible refine (cE.out _ _ _ _ _ (hS.lst 0 rfl rfl hL1.out) (hS.lst 4 rfl rfl hL1.out)).mono ?_); rintro _ w3 ⟨rfl, hk9⟩; have hS1 := hS.keepB hk9; clear hk9 hS; have hS := hS1; clear hS1) )
      try clear hC
      refine hK.out _ _ _ (fun _ h => h) (by first | exact hS | exact hS.drop | exact hS.drop.drop | exact hS.drop.drop.drop | exact hS.drop.drop.drop.drop | exact hS.empty | exact hS.one 0 rfl | exact hS.one 1 rfl | exact hS.one 2 rfl | exact hS.one 3 rfl | exact hS.one 4 rfl | exact hS.one 5 rfl | exact hS.one 6 rfl | exact hS.one 7 rfl | exact hS.one 8 rfl | exact hS.one 9 rfl | exact hS.one 10 rfl | exact hS.one 11 rfl) (fun hC => ?_)
      clear hK K
      try simp only [List.getElem_toArray, List.getElem_cons_succ, List.getElem_cons_zero, Act.put, List.setIfInBounds_toArray, List.set_cons_zero, List.set_cons_succ]
      refine mixs_take 10 (v := ?_) rfl (by kernel_rfl) (fun _ _ _ h => h) (by kernel_rfl) (by assumption) (fun s => ?hy) ?_; case hy => (go_simp <;> with_reducible rfl)
      try simp only [List.getElem_toArray, List.getElem_cons_succ, List.getElem_cons_zero, Act.put, List.setIfInBounds_toArray, List.set_cons_zero, List.set_cons_succ]
      refine mixs_take 11 (v := ?_) rfl (by kernel_rfl) (fun _ _ _ h => h) (by kernel_rfl) (by assumption) (fun s => ?hy) ?_; case hy => (go_simp <;> with_reducible rfl)
      try simp only [List.getElem_toArray, List.getElem_cons_succ, List.getElem_cons_zero, Act.put, List.setIfInBounds_toArray, List.set_cons_zero, List.set_cons_succ]
      refine mixs_take 12 (v := ?_) rfl (by kernel_rfl) (fun _ _ _ h => h) (by kernel_rfl) (by assumption) (fun s => ?hy) ?_; case hy => (go_simp <;> with_reducible rfl)
      try simp only [List.getElem_toArray, List.getElem_cons_succ, List.getElem_cons_zero, Act.put, List.setIfInBounds_toArray, List.set_cons_zero, List.set_cons_succ]
      refine mixs_take 13 (v := ?_) rfl (by kernel_rfl) (fun _ _ _ h => h) (by kernel_rfl) (by assumption) (fun s => ?hy) ?_; case hy => (go_simp <;> with_reducible rfl)
      try simp only [List.getElem_toArray, List.getElem_cons_succ, List.getElem_cons_zero, Act.put, List.setIfInBounds_toArray, List.set_cons_zero, List.set_cons_succ]
      refine mixs_take 15 (v := ?_) rfl (by kernel_rfl) (fun _ _ _ h => h) (by kernel_rfl) (by assumption) (fun s => ?hy) ?_; case hy => (go_simp <;> with_reducible rfl)
      try simp only [List.getElem_toArray, List.getElem_cons_succ, List.getElem_cons_zero, Act.put, List.setIfInBounds_toArray, List.set_cons_zero, List.set_cons_succ]
      refine mixs_take 16 (v := ?_) rfl (by kernel_rfl) (fun _ _ _ h => h) (by kernel_rfl) (by assumption) (fun s => ?hy) ?_; case hy => (go_simp <;> with_reducible rfl)
      try simp only [List.getElem_toArray, List.getElem_cons_succ, List.getElem_cons_zero, Act.put, List.setIfInBounds_toArray, List.set_cons_zero, List.set_cons_succ]
      refine mixs_one 14 (by kernel_rfl) rfl (fun K hK => ?_)
      go_simp
      ( first | (go_at_call 50; (with_reducible refine (cO.out _ _ _ (hS.dropM (A := []) (B := [_, _, _, _]) (R := rpA g gm dev s1))).mono ?_); rintro _ w3 ⟨rfl, hk9⟩; have hS1 := hS.keepB hk9; clear hk9 hS; have hS := hS1; clear hS1) | (go_at_call 38; (with_reducible refine (cK.out _ _ _ (hS.dropM (A := []) (B := [_, _, _, _]) (R := rpA g gm dev s1))).mono ?_); rintro _ w3 ⟨rfl, hk9⟩; have hS1 := hS.keepB hk9; clear hk9 hS; have hS := hS1; clear hS1) | (go_at_call 42; (with_reducible refine (cD.out _ _ _ (hS.dropM (A := []) (B := [_, _, _, _]) (R := rpA g gm dev s1))).mono ?_); rintro _ w3 ⟨a5, c5, rfl, hk9⟩; have hS1 := hS.made hk9; clear hS hk9; have hS := hS1; clear hS1) | (go_at_call 22; (with_reducible refine (cE.out _ _ _ _ _ (hS.lst 0 rfl rfl hL1.out) (hS.lst 4 rfl rfl hL1.out)).mono ?_); rintro _ w3 ⟨rfl, hk9⟩; have hS1 := hS.keepB hk9; clear hk9 hS; have hS := hS1; clear hS1) )
      try clear hC
      refine hK.out _ _ _ (fun _ h => h) (by first | exact hS | exact hS.drop | exact hS.drop.drop | exact hS.drop.drop.drop | exact hS.drop.drop.drop.drop | exact hS.empty | exact hS.one 0 rfl | exact hS.one 1 rfl | exact hS.one 2 rfl | exact hS.one 3 rfl | exact hS.one 4 rfl | exact hS.one 5 rfl | exact hS.one 6 rfl | exact hS.one 7 rfl | exact hS.one 8 rfl | exact hS.one 9 rfl | exact hS.one 10 rfl | exact hS.one 11 rfl) (fun hC => ?_)
      clear hK K
      try simp only [List.getElem_toArray, List.getElem_cons_succ, List.getElem_cons_zero, Act.put, List.setIfInBounds_toArray, List.set_cons_zero, List.set_cons_succ]
      refine mixs_one 17 (by kernel_rfl) rfl (fun K hK => ?_)
      go_simp
      ( first | (go_at_call 50; (with_reducible refine (cO.out _ _ _ (hS.dropM (A := []) (B := [_, _, _, _]) (R := rpA g gm dev s1))).mono ?_); rintro _ w3 ⟨rfl, hk9⟩; have hS1 := hS.keepB hk9; clear hk9 hS; have hS := hS1; clear hS1) | (go_at_call 38; (with_reducible refine (cK.out _ _ _ (hS.dropM (A := []) (B := [_, _, _, _]) (R := rpA g gm dev s1))).mono ?_); rintro _ w3 ⟨rfl, hk9⟩; have hS1 := hS.keepB hk9; clear hk9 hS; have hS := hS1; clear hS1) | (go_at_call 42; (with_reducible refine (cD.out _ _ _ (hS.dropM (A := []) (B := [_, _, _, _]) (R := rpA g gm dev s1))).mono ?_); rintro _ w3 ⟨a5, c5, rfl, hk9⟩; have hS1 := hS.made hk9; clear hS hk9; have hS := hS1; clear hS1) | (go_at_call 22; (with_reducible refine (cE.out _ _ _ _ _ (hS.lst 0 rfl rfl hL1.out) (hS.lst 4 rfl rfl hL1.out)).mono ?_); rintro _ w3 ⟨rfl, hk9⟩; have hS1 := hS.keepB hk9; clear hk9 hS; have hS := hS1; clear hS1) )
      try clear hC
      refine hK.out _ _ _ (fun _ h => h) (by first | exact hS | exact hS.drop | exact hS.drop.drop | exact hS.drop.drop.drop | exact hS.drop.drop.drop.drop | exact hS.empty | exact hS.one 0 rfl | exact hS.one 1 rfl | exact hS.one 2 rfl | exact hS.one 3 rfl | exact hS.one 4 rfl | exact hS.one 5 rfl | exact hS.one 6 rfl | exact hS.one 7 rfl | exact hS.one 8 rfl | exact hS.one 9 rfl | exact hS.one 10 rfl | exact hS.one 11 rfl) (fun hC => ?_)
      clear hK K
      try simp only [List.getElem_toArray, List.getElem_cons_succ, List.getElem_cons_zero, Act.put, List.setIfInBounds_toArray, List.set_cons_zero, List.set_cons_succ]
      refine mixs_take 18 (v := ?_) rfl (by kernel_rfl) (fun _ _ _ h => h) (by kernel_rfl) (by assumption) (fun s => ?hy) ?_; case hy => (go_simp <;> with_reducible rfl)
      try simp only [List.getElem_toArray, List.getElem_cons_succ, List.getElem_cons_zero, Act.put, List.setIfInBounds_toArray, List.set_cons_zero, List.set_cons_succ]
      refine mixs_take 19 (v := ?_) rfl (by kernel_rfl) (fun _ _ _ h => h) (by kernel_rfl) (by assumption) (fun s => ?hy) ?_; case hy => (go_simp <;> with_reducible rfl)
      try simp only [List.getElem_toArray, List.getElem_cons_succ, List.getElem_cons_zero, Act.put, List.setIfInBounds_toArray, List.set_cons_zero, List.set_cons_succ]
      refine mixs_take 20 (v := ?_) rfl (by kernel_rfl) (fun _ _ _ h => h) (by kernel_rfl) (by assumption) (fun s => ?hy) ?_; case hy => (go_simp <;> with_reducible rfl)
      try simp only [List.getElem_toArray, List.getElem_cons_succ, List.getElem_cons_zero, Act.put, List.setIfInBounds_toArray, List.set_cons_zero, List.set_cons_succ]
      refine mixs_take 21 (v := ?_) rfl (by kernel_rfl) (fun _ _ _ h => h) (by kernel_rfl) (by assumption) (fun s => ?hy) ?_; case hy => (refine Eq.trans (take_loadrow s rfl rfl kA) ?_; with_reducible rfl)
      try simp only [List.getElem_toArray, List.getElem_cons_succ, List.getElem_cons_zero, Act.put, List.setIfInBounds_toArray, List.set_cons_zero, List.set_cons_succ]
      refine mixs_take 22 (v := ?_) rfl (by kernel_rfl) (fun _ _ _ h => h) (by kernel_rfl) (by assumption) (fun s => ?hy) ?_; case hy => (refine Eq.trans (take_loadrow s rfl rfl kB) ?_; with_reducible rfl)
      try simp only [List.getElem_toArray, List.getElem_cons_succ, List.getElem_cons_zero, Act.put, List.setIfInBounds_toArray, List.set_cons_zero, List.set_cons_succ]
      refine mixs_take 23 (v := ?_) rfl (by kernel_rfl) (fun _ _ _ h => h) (by kernel_rfl) (by assumption) (fun s => ?hy) ?_; case hy => (go_simp <;> with_reducible rfl)
      try simp only [List.getElem_toArray, List.getElem_cons_succ, List.getElem_cons_zero, Act.put, List.setIfInBounds_toArray, List.set_cons_zero, List.set_cons_succ]
      refine mixs_take 24 (v := ?_) rfl (by kernel_rfl) (fun _ _ _ h => h) (by kernel_rfl) (by assumption) (fun s => ?hy) ?_; case hy => (go_simp <;> with_reducible rfl)
      try simp only [List.getElem_toArray, List.getElem_cons_succ, List.getElem_cons_zero, Act.put, List.setIfInBounds_toArray, List.set_cons_zero, List.set_cons_succ]
      refine mixs_take 25 (v := ?_) rfl (by kernel_rfl) (fun _ _ _ h => h) (by kernel_rfl) (by assumption) (fun s => ?hy) ?_; case hy => (go_simp <;> with_reducible rfl)
      try simp only [List.getElem_toArray, List.getElem_cons_succ, List.getElem_cons_zero, Act.put, List.setIfInBounds_toArray, List.set_cons_zero, List.set_cons_succ]
      refine mixs_take 26 (v := ?_) rfl (by kernel_rfl) (fun _ _ _ h => h) (by kernel_rfl) (by assumption) (fun s => ?hy) ?_; case hy => (go_simp <;> with_reducible rfl)
      try simp only [List.getElem_toArray, List.getElem_cons_succ, List.getElem_cons_zero, Act.put, List.setIfInBounds_toArray, List.set_cons_zero, List.set_cons_succ]
      refine mixs_take 27 (v := ?_) rfl (by kernel_rfl) (fun _ _ _ h => h) (by kernel_rfl) (by assumption) (fun s => ?hy) ?_; case hy => (go_simp <;> with_reducible rfl)
      try simp only [List.getElem_toArray, List.getElem_cons_succ, List.getElem_cons_zero, Act.put, List.setIfInBounds_toArray, List.set_cons_zero, List.set_cons_succ]
      refine mixs_take 28 (v := ?_) rfl (by kernel_rfl) (fun _ _ _ h => h) (by kernel_rfl) (by assumption) (fun s => ?hy) ?_; case hy => (go_simp <;> with_reducible rfl)
      try simp only [List.getElem_toArray, List.getElem_cons_succ, List.getElem_cons_zero, Act.put, List.setIfInBounds_toArray, List.set_cons_zero, List.set_cons_succ]
      refine mixs_take 29 (v := ?_) rfl (by kernel_rfl) (fun _ _ _ h => h) (by kernel_rfl) (by assumption) (fun s => ?hy) ?_; case hy => (go_simp <;> with_reducible rfl)
      try simp only [List.getElem_toArray, List.getElem_cons_succ, List.getElem_cons_zero, Act.put, List.setIfInBounds_toArray, List.set_cons_zero, List.set_cons_succ]
      refine wpAnyH_done (by kernel_rfl) ?_ _
      try clear hC
      clear kR kA kB kT hE
      go_wp2_with fail
      go_roundg (n - (j + 1))
      case measure => omega
      case rel => exact ⟨j + 1, s1, ar2, cr2, by omega, by go_num, hM2, by have := hS.drop.drop.drop; first | exact this | rwa [List.append_nil] at this⟩
end Go.Proofs.Ytajldelodnjmoaa
end
