import Derived.Test.YtneolmnpebiifaaGreatDoorM40
set_option linter.unusedVariables false
set_option linter.unusedSimpArgs false
set_option maxRecDepth 100000
section
namespace Go.Ofp
open Go.RowKit
theorem right_no_cards {s : ShS} (k : Nat) (h : cardsGo s.next 0 (s.m.take k) = false) : s.right = false := by
 rw [← Bool.not_eq_true]
 intro hr
 rw [cardsGo_take ((right_iff s).1 hr).2.2.2.2.1 k] at h
 cases h
theorem right_no_dead {s : ShS} (k : Nat) (h : deadGo s.next s.m [] (s.dead.take k) = false) : s.right = false := by
 rw [← Bool.not_eq_true]
 intro hr
 have h6 := ((right_iff s).1 hr).2.2.2.2.2
 have := deadGo_take s.dead [] k (deadGo_of _ _ (by simpa using h6))
 rw [this] at h
 cases h
theorem right_head {s : ShS} (h : ¬ (1 ≤ s.next ∧ s.next ≤ 1073741824 ∧ s.m.length ≤ 48 ∧ s.dead.length ≤ 40)) : s.right = false := by
 rw [← Bool.not_eq_true]
 intro hr
 obtain ⟨h1, h2, h3, h4, -⟩ := (right_iff s).1 hr
 exact h ⟨h1, h2, h3, h4⟩
theorem right_of {s : ShS} (h1 : 1 ≤ s.next ∧ s.next ≤ 1073741824 ∧ s.m.length ≤ 48 ∧ s.dead.length ≤ 40) (h2 : cardsGo s.next 0 s.m = true) (h3 : deadGo s.next s.m [] s.dead = true) : s.right = true :=
 (right_iff s).2 ⟨h1.1, h1.2.1, h1.2.2.1, h1.2.2.2, h2, by have := deadGo_ok _ _ (DeadOk.nil _ _) h3; simpa using this⟩
end Go.Ofp
namespace Go.Proofs.YtneolmnpebiifaaGreatDoor
open Go.RowKit Go.Ofp
set_option maxHeartbeats 4000000
def Loads18 (s : ShS) (w : World) (e : Ending) (w' : World) : Prop :=
 (s.right = true ∧ ∃ g gm da dc, e = .returned (.tuple #[.pointer (some ⟨g, 0, none⟩), .bool true]) ∧ St w [] (shA g gm s da dc) w') ∨ (s.right = false ∧ e = .returned (.tuple #[.pointer none, .bool false]) ∧ Below w.heap.size w w')
theorem sload_any (next : Int) (ca : Option Addr) (n cc : Nat) (M : List Cd) (da : Option Addr) (m dc : Nat) (D : List Dd) (w : World) (hl : Lst cdRow (fun x => x.f.length = 8) w ca n cc M) (hd : Lst ddRow (fun _ => True) w da m dc D) :
 Calls Tryz.prog 55 #[.int .i64 next, .slice ca n cc, .slice da m dc] w (Loads18 ⟨next, M, D⟩ w) := by
 have hS := St.start w
 have ec := elem_card
 have ed := elem_dd
 have cN := Lib.hid fun W => snew_any W
 have hno : ∀ W, (ShS.mk next M D).right = false → Below w.heap.size w W → Loads18 ⟨next, M, D⟩ w (.returned (.tuple #[.pointer none, .bool false])) W := fun W h1 h2 => .inr ⟨h1, rfl, h2⟩
 have hlen := Lib.hid hl.len
 have hdn := Lib.hid hd.len
 have hfl := Lib.hid hl.mem
 have hflM := Lib.hid hl.mem
 have hlens := Lib.hid (show ∀ y ∈ M, (cdRow y).length = 27 from fun y hy => cdRow_lenT y (hl.mem y hy))
 have hbase := Lib.hid (hl.base (by decide) hlens.out)
 have hdlens := Lib.hid (show ∀ y ∈ D, (ddRow y).length = 3 from fun y hy => ddRow_len y)
 have hdbase := Lib.hid (hd.base (by decide) hdlens.out)
 replace hno := Lib.hid hno
 replace hl := Lib.hid hl
 replace hd := Lib.hid hd
 by_cases h1 : next < 1
 · have d1 : decide (next < 1) = true := decide_eq_true h1
   have hr := Lib.hid (right_head (s := ⟨next, M, D⟩) (by rintro ⟨k, -⟩; have k : 1 ≤ next := k; omega))
   clear h1
   go_enter Tryz.func55, Tryz.ntmps55
   go_wp2_with fail
   go_ret2
   exact hno.out _ hr.out hS.below
 have d1 : decide (next < 1) = false := decide_eq_false h1
 by_cases h2 : 1073741824 < next
 · have d2 : decide (1073741824 < next) = true := decide_eq_true h2
   have hr := Lib.hid (right_head (s := ⟨next, M, D⟩) (by rintro ⟨-, k, -⟩; have k : next ≤ 1073741824 := k; omega))
   clear h1 h2
   go_enter Tryz.func55, Tryz.ntmps55
   go_wp2_with fail
   go_ret2
   exact hno.out _ hr.out hS.below
 have d2 : decide (1073741824 < next) = false := decide_eq_false h2
 by_cases h3 : 48 < n
 · have d3 : decide ((48 : Int) < (n : Int)) = true := decide_eq_true (by omega)
   have d3b : decide (48 < n) = true := decide_eq_true h3
   have hr := Lib.hid (right_head (s := ⟨next, M, D⟩) (by rintro ⟨-, -, k, -⟩; have k : M.length ≤ 48 := k; rw [hlen.out] at k; omega))
   clear h1 h2 h3
   go_enter Tryz.func55, Tryz.ntmps55
   go_wp2_with fail
   go_ret2
   exact hno.out _ hr.out hS.below
 have d3 : decide ((48 : Int) < (n : Int)) = false := decide_eq_false (by omega)
 have d3b : decide (48 < n) = false := decide_eq_false h3
 by_cases h4 : 40 < m
 · have d4 : decide ((40 : Int) < (m : Int)) = true := decide_eq_true (by omega)
   have d4b : decide (40 < m) = true := decide_eq_true h4
   have hr := Lib.hid (right_head (s := ⟨next, M, D⟩) (by rintro ⟨-, -, -, k⟩; have k : D.length ≤ 40 := k; rw [hdn.out] at k; omega))
   clear h1 h2 h3 h4
   go_enter Tryz.func55, Tryz.ntmps55
   go_wp2_with fail
   go_ret2
   exact hno.out _ hr.out hS.below
 have d4 : decide ((40 : Int) < (m : Int)) = false := decide_eq_false (by omega)
 have d4b : decide (40 < m) = false := decide_eq_false h4
 have hhd := Lib.hid (show 1 ≤ next ∧ next ≤ 1073741824 ∧ M.length ≤ 48 ∧ D.length ≤ 40 from ⟨by omega, by omega, by rw [hlen.out]; omega, by rw [hdn.out]; omega⟩)
 have hn48 : n ≤ 48 := by omega
 have hm40 : m ≤ 40 := by omega
 clear h1 h2 h3 h4
 go_enter Tryz.func55, Tryz.ntmps55
 go_wp2_with (first | (go_at_call 33; (with_reducible refine (cN.out _).mono ?_); rintro _ w3 ⟨g, gm, rfl, hk9⟩; have hS1 := hS.made hk9; clear hS hk9; have hS : St w [] [Ch.blk g 101 #[.int .i64 1, .map (some gm), .slice none 0 0], Ch.map Tryz.prog 3 gm 0 noM, Ch.row 91 3 (.slice none 0 0) 0 []] w3 := hS1; clear hS1) | (with_reducible refine sto 0 hS rfl rfl rfl rfl rfl rfl ?_; clear hS; intro w1 hS))
 clear d1 d2 d3 d3b d4 d4b
 go_loopg [9, 40] n (fun gk vl vx wr => ∃ (j : Nat) (MJ : List Cd) (li : Int), j + gk = n ∧ vl = .int .i64 li ∧ vx = .int .i64 j ∧ Hid (MJ = M.take j) ∧ Hid (li = lastId MJ) ∧ Hid (cardsGo next 0 MJ = true) ∧ St w [] [Ch.blk g 101 #[.int .i64 next, .map (some gm), .slice none 0 0], Ch.map Tryz.prog 3 gm j (cdM cdRow MJ), Ch.row 91 3 (.slice none 0 0) 0 []] wr)
 case atStart => exact ⟨0, [], 0, Nat.zero_add _, rfl, rfl, Lib.hid rfl, Lib.hid rfl, Lib.hid rfl, hS⟩
 case round =>
  clear hS
  obtain ⟨j, MJ, li, hj, rfl, rfl, hMJ, hli, hg, hS⟩ := hrel
  by_cases hlt : j < n
  case neg =>
   have ht : MJ = M := by rw [hMJ.out]; exact List.take_of_length_le (by rw [hlen.out]; omega)
   have hjm : j = M.length := by rw [hlen.out]; omega
   rw [ht, hjm] at hS
   rw [ht] at hg
   clear hMJ hli ht hjm hlens hbase hfl hl cN hlen
   go_wp2_with fail
   go_loopg [12, 71] m (fun gk vl vx wr => ∃ (k : Nat) (DJ : List Dd) (sq : Int) (a1 : Option Addr) (c1 : Nat), k + gk = m ∧ vl = .int .i64 sq ∧ vx = .int .i64 k ∧ Hid (DJ = D.take k) ∧ Hid (sq = lastSq DJ) ∧ Hid (deadGo next M [] DJ = true) ∧ St w [] [Ch.blk g 101 #[.int .i64 next, .map (some gm), .slice a1 DJ.length c1], Ch.map Tryz.prog 3 gm M.length (cdM cdRow M), Ch.row 91 3 (.slice a1 DJ.length c1) DJ.length (dRow DJ)] wr)
   case atStart => exact ⟨0, [], 0, none, 0, Nat.zero_add _, rfl, rfl, Lib.hid rfl, Lib.hid rfl, Lib.hid rfl, hS⟩
   case round =>
    clear hS
    obtain ⟨k, DJ, sq, a1, c1, hk, rfl, rfl, hDJ, hsq, hgd, hS⟩ := hrel
    by_cases hlt : k < m
    case neg =>
     have ht : DJ = D := by rw [hDJ.out]; exact List.take_of_length_le (by rw [hdn.out]; omega)
     rw [ht] at hS hgd
     have hfin : ∀ W, St w [] (shA g gm ⟨next, M, D⟩ a1 c1) W → Loads18 ⟨next, M, D⟩ w (.returned (.tuple #[.pointer (some ⟨g, 0, none⟩), .bool true])) W := fun W h => .inl ⟨right_of (s := ⟨next, M, D⟩) hhd.out hg.out hgd.out, g, gm, a1, c1, rfl, h⟩
     replace hfin := Lib.hid hfin
     clear ht hsq hDJ
     go_wp2_with fail
     go_ret2
     exact hfin.out _ hS
    have hkl : k < D.length := by rw [hdn.out]; exact hlt
    obtain ⟨b, off, rfl⟩ := hdbase.out (by omega)
    have hrow := hd.out.rowb hdlens.out k hkl
    have hts : D.take (k + 1) = DJ ++ [D[k]] := by rw [hDJ.out]; exact List.take_succ_eq_append_getElem hkl
    have hgo := deadGo_snoc next M D[k] DJ []
    rw [← hts, hgd.out, Bool.true_and, List.nil_append] at hgo
    have hsn : lastSq (D.take (k + 1)) = D[k].seq := by rw [hts]; exact lastSq_snoc _ _
    have hnr : deadAt next M DJ D[k] = false → ∀ W, Below w.heap.size w W → Loads18 ⟨next, M, D⟩ w (.returned (.tuple #[.pointer none, .bool false])) W := fun h1 W h2 => hno.out W (right_no_dead (s := ⟨next, M, D⟩) (k + 1) (hgo.trans h1)) h2
    have hoks : ShOk ⟨next, M, DJ⟩ := right_ok (right_of (s := ⟨next, M, DJ⟩) ⟨hhd.out.1, hhd.out.2.1, hhd.out.2.2.1, by have := hhd.out.2.2.2; show DJ.length ≤ 40; rw [hDJ.out, List.length_take]; omega⟩ hg.out hgd.out) hflM.out
    have hDJl : DJ.length = k := by rw [hDJ.out, List.length_take]; omega
    generalize hDk : D[k] = d at *
    obtain ⟨di, dv, ds⟩ := d
    have z0 : w.rangeAt b (off + k * 3) [.int .i64 di, .int .i64 dv, .int .i64 ds] := hrow
    have hat : deadAt next M DJ ⟨di, dv, ds⟩ = (decide (1 ≤ di) && (decide (di < next) && (decide (1 ≤ dv) && (decide (dv ≤ 1099511627776) && (decide (lastSq DJ ≤ ds) && (decide (ds ≤ 1099511627776) && (!(lookC M di).isSome && !DJ.any (fun x => decide (x.id = di))))))))) := rfl
    rw [← hsq.out] at hat
    have hnr1 := Lib.hid hnr
    have hel : (D.take (k + 1)).length = DJ.length + 1 := by rw [hts]; simp
    have her : dRow (D.take (k + 1)) = dRow DJ ++ [.int .i64 di, .int .i64 dv, .int .i64 ds] := by rw [hts]; simp [dRow, ddRow]
    replace hel := Lib.hid hel
    replace her := Lib.hid her
    replace hsn := Lib.hid hsn
    have hDJm : DJ.length ≤ 40 := by omega
    have hdr := Lib.hid (dRow_len DJ)
    clear hrow hDk hnr hts
    by_cases p1 : di < 1
    · have d1 : decide (di < 1) = true := decide_eq_true p1
      have hnr2 := Lib.hid (hnr1.out (by rw [hat, decide_eq_false (by omega)]; rfl))
      clear hat p1
      go_wp2_with (first | (with_reducible refine wpList_rangerow (t := 91) (n := 3) (range_old hS z0) rfl rfl rfl (by kernel_rfl) (by kernel_rfl) rfl ?_) | (with_reducible refine wpList_alloc_st (t := 91) hS rfl rfl ed ?_; clear hS; intro gd w1 hS) | ((with_reducible refine wpList_storerow_st (t := 91) (n := 3) (vs := [.int .i64 di, .int .i64 dv, .int .i64 ds]) 0 hS rfl rfl rfl rfl (by kernel_rfl) rfl rfl rfl (by kernel_rfl) ?_); clear hS; intro w1 hS; try simp only [List.set_cons_zero, List.set_cons_succ, List.setIfInBounds_toArray, List.take_succ_cons, List.take_zero, List.drop_succ_cons, List.drop_zero, List.nil_append, List.cons_append, List.append_nil, List.drop_nil, List.take_nil, List.length_cons, List.length_nil, Nat.zero_add, Nat.add_zero, Nat.reduceAdd] at hS; have y0 : World.cell? _ ⟨gd, 0, none⟩ = some (.int .i64 di) := hS.cell 0 rfl 0; have y1 : World.cell? _ ⟨gd, 1, none⟩ = some (.int .i64 dv) := hS.cell 0 rfl 1; have y2 : World.cell? _ ⟨gd, 2, none⟩ = some (.int .i64 ds) := hS.cell 0 rfl 2))
      go_ret2
      exact hnr2.out _ hS.below
    have d1 : decide (di < 1) = false := decide_eq_false p1
    by_cases p2 : next ≤ di
    · have d2 : decide (next ≤ di) = true := decide_eq_true p2
      have hnr2 := Lib.hid (hnr1.out (by rw [hat, decide_eq_false (p := di < next) (by omega)]; simp))
      clear hat p1 p2
      go_wp2_with (first | (with_reducible refine wpList_rangerow (t := 91) (n := 3) (range_old hS z0) rfl rfl rfl (by kernel_rfl) (by kernel_rfl) rfl ?_) | (with_reducible refine wpList_alloc_st (t := 91) hS rfl rfl ed ?_; clear hS; intro gd w1 hS) | ((with_reducible refine wpList_storerow_st (t := 91) (n := 3) (vs := [.int .i64 di, .int .i64 dv, .int .i64 ds]) 0 hS rfl rfl rfl rfl (by kernel_rfl) rfl rfl rfl (by kernel_rfl) ?_); clear hS; intro w1 hS; try simp only [List.set_cons_zero, List.set_cons_succ, List.setIfInBounds_toArray, List.take_succ_cons, List.take_zero, List.drop_succ_cons, List.drop_zero, List.nil_append, List.cons_append, List.append_nil, List.drop_nil, List.take_nil, List.length_cons, List.length_nil, Nat.zero_add, Nat.add_zero, Nat.reduceAdd] at hS; have y0 : World.cell? _ ⟨gd, 0, none⟩ = some (.int .i64 di) := hS.cell 0 rfl 0; have y1 : World.cell? _ ⟨gd, 1, none⟩ = some (.int .i64 dv) := hS.cell 0 rfl 1; have y2 : World.cell? _ ⟨gd, 2, none⟩ = some (.int .i64 ds) := hS.cell 0 rfl 2))
      go_ret2
      exact hnr2.out _ hS.below
    have d2 : decide (next ≤ di) = false := decide_eq_false p2
    by_cases p3 : dv < 1
    · have d3 : decide (dv < 1) = true := decide_eq_true p3
      have hnr2 := Lib.hid (hnr1.out (by rw [hat, decide_eq_false (p := 1 ≤ dv) (by omega)]; simp))
      clear hat p1 p2 p3
      go_wp2_with (first | (with_reducible refine wpList_rangerow (t := 91) (n := 3) (range_old hS z0) rfl rfl rfl (by kernel_rfl) (by kernel_rfl) rfl ?_) | (with_reducible refine wpList_alloc_st (t := 91) hS rfl rfl ed ?_; clear hS; intro gd w1 hS) | ((with_reducible refine wpList_storerow_st (t := 91) (n := 3) (vs := [.int .i64 di, .int .i64 dv, .int .i64 ds]) 0 hS rfl rfl rfl rfl (by kernel_rfl) rfl rfl rfl (by kernel_rfl) ?_); clear hS; intro w1 hS; try simp only [List.set_cons_zero, List.set_cons_succ, List.setIfInBounds_toArray, List.take_succ_cons, List.take_zero, List.drop_succ_cons, List.drop_zero, List.nil_append, List.cons_append, List.append_nil, List.drop_nil, List.take_nil, List.length_cons, List.length_nil, Nat.zero_add, Nat.add_zero, Nat.reduceAdd] at hS; have y0 : World.cell? _ ⟨gd, 0, none⟩ = some (.int .i64 di) := hS.cell 0 rfl 0; have y1 : World.cell? _ ⟨gd, 1, none⟩ = some (.int .i64 dv) := hS.cell 0 rfl 1; have y2 : World.cell? _ ⟨gd, 2, none⟩ = some (.int .i64 ds) := hS.cell 0 rfl 2))
      go_ret2
      exact hnr2.out _ hS.below
    have d3 : decide (dv < 1) = false := decide_eq_false p3
    by_cases p4 : 1099511627776 < dv
    · have d4 : decide (1099511627776 < dv) = true := decide_eq_true p4
      have hnr2 := Lib.hid (hnr1.out (by rw [hat, decide_eq_false (p := dv ≤ 1099511627776) (by omega)]; simp))
      clear hat p1 p2 p3 p4
      go_wp2_with (first | (with_reducible refine wpList_rangerow (t := 91) (n := 3) (range_old hS z0) rfl rfl rfl (by kernel_rfl) (by kernel_rfl) rfl ?_) | (with_reducible refine wpList_alloc_st (t := 91) hS rfl rfl ed ?_; clear hS; intro gd w1 hS) | ((with_reducible refine wpList_storerow_st (t := 91) (n := 3) (vs := [.int .i64 di, .int .i64 dv, .int .i64 ds]) 0 hS rfl rfl rfl rfl (by kernel_rfl) rfl rfl rfl (by kernel_rfl) ?_); clear hS; intro w1 hS; try simp only [List.set_cons_zero, List.set_cons_succ, List.setIfInBounds_toArray, List.take_succ_cons, List.take_zero, List.drop_succ_cons, List.drop_zero, List.nil_append, List.cons_append, List.append_nil, List.drop_nil, List.take_nil, List.length_cons, List.length_nil, Nat.zero_add, Nat.add_zero, Nat.reduceAdd] at hS; have y0 : World.cell? _ ⟨gd, 0, none⟩ = some (.int .i64 di) := hS.cell 0 rfl 0; have y1 : World.cell? _ ⟨gd, 1, none⟩ = some (.int .i64 dv) := hS.cell 0 rfl 1; have y2 : World.cell? _ ⟨gd, 2, none⟩ = some (.int .i64 ds) := hS.cell 0 rfl 2))
      go_ret2
      exact hnr2.out _ hS.below
    have d4 : decide (1099511627776 < dv) = false := decide_eq_false p4
    by_cases p5 : ds < sq
    · have d5 : decide (ds < sq) = true := decide_eq_true p5
      have hnr2 := Lib.hid (hnr1.out (by rw [hat, decide_eq_false (p := sq ≤ ds) (by omega)]; simp))
      clear hat p1 p2 p3 p4 p5
      go_wp2_with (first | (with_reducible refine wpList_rangerow (t := 91) (n := 3) (range_old hS z0) rfl rfl rfl (by kernel_rfl) (by kernel_rfl) rfl ?_) | (with_reducible refine wpList_alloc_st (t := 91) hS rfl rfl ed ?_; clear hS; intro gd w1 hS) | ((with_reducible refine wpList_storerow_st (t := 91) (n := 3) (vs := [.int .i64 di, .int .i64 dv, .int .i64 ds]) 0 hS rfl rfl rfl rfl (by kernel_rfl) rfl rfl rfl (by kernel_rfl) ?_); clear hS; intro w1 hS; try simp only [List.set_cons_zero, List.set_cons_succ, List.setIfInBounds_toArray, List.take_succ_cons, List.take_zero, List.drop_succ_cons, List.drop_zero, List.nil_append, List.cons_append, List.append_nil, List.drop_nil, List.take_nil, List.length_cons, List.length_nil, Nat.zero_add, Nat.add_zero, Nat.reduceAdd] at hS; have y0 : World.cell? _ ⟨gd, 0, none⟩ = some (.int .i64 di) := hS.cell 0 rfl 0; have y1 : World.cell? _ ⟨gd, 1, none⟩ = some (.int .i64 dv) := hS.cell 0 rfl 1; have y2 : World.cell? _ ⟨gd, 2, none⟩ = some (.int .i64 ds) := hS.cell 0 rfl 2))
      go_ret2
      exact hnr2.out _ hS.below
    have d5 : decide (ds < sq) = false := decide_eq_false p5
    by_cases p6 : 1099511627776 < ds
    · have d6 : decide (1099511627776 < ds) = true := decide_eq_true p6
      have hnr2 := Lib.hid (hnr1.out (by rw [hat, decide_eq_false (p := ds ≤ 1099511627776) (by omega)]; simp))
      clear hat p1 p2 p3 p4 p5 p6
      go_wp2_with (first | (with_reducible refine wpList_rangerow (t := 91) (n := 3) (range_old hS z0) rfl rfl rfl (by kernel_rfl) (by kernel_rfl) rfl ?_) | (with_reducible refine wpList_alloc_st (t := 91) hS rfl rfl ed ?_; clear hS; intro gd w1 hS) | ((with_reducible refine wpList_storerow_st (t := 91) (n := 3) (vs := [.int .i64 di, .int .i64 dv, .int .i64 ds]) 0 hS rfl rfl rfl rfl (by kernel_rfl) rfl rfl rfl (by kernel_rfl) ?_); clear hS; intro w1 hS; try simp only [List.set_cons_zero, List.set_cons_succ, List.setIfInBounds_toArray, List.take_succ_cons, List.take_zero, List.drop_succ_cons, List.drop_zero, List.nil_append, List.cons_append, List.append_nil, List.drop_nil, List.take_nil, List.length_cons, List.length_nil, Nat.zero_add, Nat.add_zero, Nat.reduceAdd] at hS; have y0 : World.cell? _ ⟨gd, 0, none⟩ = some (.int .i64 di) := hS.cell 0 rfl 0; have y1 : World.cell? _ ⟨gd, 1, none⟩ = some (.int .i64 dv) := hS.cell 0 rfl 1; have y2 : World.cell? _ ⟨gd, 2, none⟩ = some (.int .i64 ds) := hS.cell 0 rfl 2))
      go_ret2
      exact hnr2.out _ hS.below
    have d6 : decide (1099511627776 < ds) = false := decide_eq_false p6
    have hIi : I64 di := by have := hhd.out; omega
    have cG := fun W h => sget_any g gm ⟨next, M, DJ⟩ a1 c1 di hIi W h hoks
    have hgf := get_f hoks di
    have hgl := cdRow_lenT _ hgf
    have hgo' := cdRow_oneT ((ShS.mk next M DJ).get di).1
    have hgV : sgV ((ShS.mk next M DJ).get di) = .tuple #[.agg (cdRow ((ShS.mk next M DJ).get di).1).toArray, .int .i64 ((ShS.mk next M DJ).get di).2] := rfl
    have hge : ((ShS.mk next M DJ).get di).2 = 6 ↔ ((lookC M di).isSome = false ∧ DJ.any (fun x => decide (x.id = di)) = false) := by
     cases hlk : lookC M di with
     | some c => rw [get_some (s := ⟨next, M, DJ⟩) hlk]; simp
     | none =>
      rw [get_none (s := ⟨next, M, DJ⟩) hlk]
      cases DJ.any (fun x => decide (x.id = di)) <;> simp
    rw [hgV] at cG
    clear hgV hgf hoks
    generalize cdRow ((ShS.mk next M DJ).get di).1 = GR at *
    generalize ((ShS.mk next M DJ).get di).2 = ge at *
    replace cG := Lib.hid cG
    by_cases p7 : ge = 6
    case neg =>
     have b7 : (ge != 6) = true := by simpa using p7
     have hnr2 := Lib.hid (hnr1.out (by
      rw [hat]
      have : ¬ ((lookC M di).isSome = false ∧ DJ.any (fun x => decide (x.id = di)) = false) := fun h => p7 (hge.2 h)
      cases h8 : (lookC M di).isSome
      · cases h9 : DJ.any (fun x => decide (x.id = di))
        · exact absurd ⟨h8, h9⟩ this
        · simp
      · simp))
     clear hat p1 p2 p3 p4 p5 p6 p7 hge hnr1
     go_wp2_with (first | (with_reducible refine wpList_rangerow (t := 91) (n := 3) (range_old hS z0) rfl rfl rfl (by kernel_rfl) (by kernel_rfl) rfl ?_) | (with_reducible refine wpList_alloc_st (t := 91) hS rfl rfl ed ?_; clear hS; intro gd w1 hS) | ((with_reducible refine wpList_storerow_st (t := 91) (n := 3) (vs := [.int .i64 di, .int .i64 dv, .int .i64 ds]) 0 hS rfl rfl rfl rfl (by kernel_rfl) rfl rfl rfl (by kernel_rfl) ?_); clear hS; intro w1 hS; try simp only [List.set_cons_zero, List.set_cons_succ, List.setIfInBounds_toArray, List.take_succ_cons, List.take_zero, List.drop_succ_cons, List.drop_zero, List.nil_append, List.cons_append, List.append_nil, List.drop_nil, List.take_nil, List.length_cons, List.length_nil, Nat.zero_add, Nat.add_zero, Nat.reduceAdd] at hS; have y0 : World.cell? _ ⟨gd, 0, none⟩ = some (.int .i64 di) := hS.cell 0 rfl 0; have y1 : World.cell? _ ⟨gd, 1, none⟩ = some (.int .i64 dv) := hS.cell 0 rfl 1; have y2 : World.cell? _ ⟨gd, 2, none⟩ = some (.int .i64 ds) := hS.cell 0 rfl 2) | (go_at_call 49; have q2 := shAt_st (s := ⟨next, M, DJ⟩) hS 1 2 3 rfl rfl rfl; (with_reducible refine (cG.out _ q2).mono ?_); clear q2 y0 y1 y2; rintro _ w3 ⟨rfl, hk9⟩; replace hS := hS.keepB hk9; clear hk9) | (with_reducible refine wpList_alloc_st (t := 58) hS rfl rfl ec ?_; clear hS; intro gc w1 hS) | ((with_reducible refine wpList_storerow_st (t := 58) (n := 27) (vs := GR) 0 hS rfl rfl rfl rfl (by kernel_rfl) rfl hgl hgo' (by kernel_rfl) ?_); clear hS; intro w1 hS; try simp only [List.set_cons_zero, List.set_cons_succ, List.setIfInBounds_toArray, List.take_succ_cons, List.take_zero, List.drop_succ_cons, List.drop_zero, List.nil_append, List.cons_append, List.append_nil, List.drop_nil, List.take_nil, List.length_cons, List.length_nil, Nat.zero_add, Nat.add_zero, Nat.reduceAdd] at hS))
     go_ret2
     exact hnr2.out _ hS.below
    subst p7
    obtain ⟨h8, h9⟩ := hge.1 rfl
    have hgo1 : deadGo next M [] (D.take (k + 1)) = true := by
     rw [hgo, hat, h8, h9, decide_eq_true (p := 1 ≤ di) (by omega), decide_eq_true (p := di < next) (by omega), decide_eq_true (p := 1 ≤ dv) (by omega), decide_eq_true (p := dv ≤ 1099511627776) (by omega), decide_eq_true (p := sq ≤ ds) (by omega), decide_eq_true (p := ds ≤ 1099511627776) (by omega)]
     rfl
    replace hgo1 := Lib.hid hgo1
    clear hat p1 p2 p3 p4 p5 p6 hge hnr1 hgo h8 h9
    go_wp2_with (first | (with_reducible refine wpList_rangerow (t := 91) (n := 3) (range_old hS z0) rfl rfl rfl (by kernel_rfl) (by kernel_rfl) rfl ?_) | (with_reducible refine wpList_alloc_st (t := 91) hS rfl rfl ed ?_; clear hS; intro gd w1 hS) | ((with_reducible refine wpList_storerow_st (t := 91) (n := 3) (vs := [.int .i64 di, .int .i64 dv, .int .i64 ds]) 0 hS rfl rfl rfl rfl (by kernel_rfl) rfl rfl rfl (by kernel_rfl) ?_); clear hS; intro w1 hS; try simp only [List.set_cons_zero, List.set_cons_succ, List.setIfInBounds_toArray, List.take_succ_cons, List.take_zero, List.drop_succ_cons, List.drop_zero, List.nil_append, List.cons_append, List.append_nil, List.drop_nil, List.take_nil, List.length_cons, List.length_nil, Nat.zero_add, Nat.add_zero, Nat.reduceAdd] at hS; have y0 : World.cell? _ ⟨gd, 0, none⟩ = some (.int .i64 di) := hS.cell 0 rfl 0; have y1 : World.cell? _ ⟨gd, 1, none⟩ = some (.int .i64 dv) := hS.cell 0 rfl 1; have y2 : World.cell? _ ⟨gd, 2, none⟩ = some (.int .i64 ds) := hS.cell 0 rfl 2) | (go_at_call 49; have q2 := shAt_st (s := ⟨next, M, DJ⟩) hS 1 2 3 rfl rfl rfl; (with_reducible refine (cG.out _ q2).mono ?_); clear q2 y0 y1 y2; rintro _ w3 ⟨rfl, hk9⟩; replace hS := hS.keepB hk9; clear hk9) | (with_reducible refine wpList_alloc_st (t := 58) hS rfl rfl ec ?_; clear hS; intro gc w1 hS) | ((with_reducible refine wpList_storerow_st (t := 58) (n := 27) (vs := GR) 0 hS rfl rfl rfl rfl (by kernel_rfl) rfl hgl hgo' (by kernel_rfl) ?_); clear hS; intro w1 hS; try simp only [List.set_cons_zero, List.set_cons_succ, List.setIfInBounds_toArray, List.take_succ_cons, List.take_zero, List.drop_succ_cons, List.drop_zero, List.nil_append, List.cons_append, List.append_nil, List.drop_nil, List.take_nil, List.length_cons, List.length_nil, Nat.zero_add, Nat.add_zero, Nat.reduceAdd] at hS) | ((with_reducible refine wpList_load_st 1 hS rfl rfl rfl rfl ?_ rfl ?_); focus (simp [scalarB, go_sem]; done)))
    clear d1 d2 d3 d4 d5 d6
    have hS1 := hS.drop
    clear hS
    have hS := hS1
    clear hS1
    refine mixs_beginC 0 (by kernel_rfl) hS rfl ?_
    clear hS
    intro w2 hS hC
    have kC := hC.kblk 0 rfl
    have kr := hC.krow (P := Tryz.prog) (j := 0) 0 rfl (t := 91) (by kernel_rfl) (n := 3) (by kernel_rfl) (vs := [.int .i64 di, .int .i64 dv, .int .i64 ds]) rfl rfl
    refine tk 0 ?_
    refine tk 1 ?_
    refine tk 2 ?_
    refine tk 3 ?_
    refine tkr 5 kr ?_
    refine mixs_two 4 6 (by kernel_rfl) rfl rfl (fun K hK => ?_) (fun K hK => ?_)
    ·
     refine op_load_st (by kernel_rfl) 1 hS rfl rfl rfl (by simp [scalarB, go_sem]) rfl ?_
     try clear hC
     refine cl hK (fun hC => ?_)
     clear hK K
     refine mixs_one 6 (by kernel_rfl) rfl (fun K hK => ?_)
     ((refine op_build1_st (by kernel_rfl) hS rfl Tryz.underlying28 ed (cs := #[.int .i64 di, .int .i64 dv, .int .i64 ds]) rfl rfl (by decide) ?_; clear hS; intro g3 w3 hS))
     try clear hC
     refine cl hK (fun hC => ?_)
     clear hK K
     refine mixs_one 7 (by kernel_rfl) rfl (fun K hK => ?_)
     ((refine op_app_st (by kernel_rfl) 4 (m := 1) (news := [.int .i64 di, .int .i64 dv, .int .i64 ds]) hS rfl rfl Tryz.underlying28 ed rfl (Src.slice Tryz.underlying28 (hS.blksl2 0 rfl) rfl) rfl (by simp [Value.oneCell']) (by omega) (by unfold maxLen; omega) ?_; intro v6 w6 hS1; clear hS; simp only [List.set_cons_zero, List.set_cons_succ] at hS1; obtain ⟨a6, c6, rfl, -⟩ := hS1.row 4 rfl; have hS := hS1.drop; clear hS1))
     try clear hC
     refine cl hK (fun hC => ?_)
     clear hK K
     refine tk 8 ?_
     refine tk 9 ?_
     refine mixs_one 10 (by kernel_rfl) rfl (fun K hK => ?_)
     refine op_store_st (by kernel_rfl) 1 hS rfl rfl rfl (by kernel_rfl) rfl rfl ?_
     clear hS; intro w1 hS; try simp only [List.set_cons_zero, List.set_cons_succ, List.setIfInBounds_toArray, List.take_succ_cons, List.take_zero, List.drop_succ_cons, List.drop_zero, List.nil_append, List.cons_append, List.append_nil, List.drop_nil, List.take_nil, List.length_cons, List.length_nil, Nat.zero_add, Nat.add_zero, Nat.reduceAdd] at hS
     try clear hC
     refine cl hK (fun hC => ?_)
     clear hK K
     refine wpAnyH_done (by kernel_rfl) ?_ _
     clear kC kr
     go_wp2_with fail
     go_roundg (m - (k + 1))
     case measure => omega
     case rel => exact ⟨k + 1, D.take (k + 1), ds, a6, c6, by omega, rfl, by go_num, Lib.hid rfl, Lib.hid hsn.out.symm, hgo1, by rw [hel.out, her.out]; exact hS.drop⟩
    ·
     ((refine op_build1_st (by kernel_rfl) hS rfl Tryz.underlying28 ed (cs := #[.int .i64 di, .int .i64 dv, .int .i64 ds]) rfl rfl (by decide) ?_; clear hS; intro g3 w3 hS))
     try clear hC
     refine cl hK (fun hC => ?_)
     clear hK K
     refine mixs_one 4 (by kernel_rfl) rfl (fun K hK => ?_)
     refine op_load_st (by kernel_rfl) 2 hS rfl rfl rfl (by simp [scalarB, go_sem]) rfl ?_
     try clear hC
     refine cl hK (fun hC => ?_)
     clear hK K
     refine mixs_one 7 (by kernel_rfl) rfl (fun K hK => ?_)
     ((refine op_app_st (by kernel_rfl) 4 (m := 1) (news := [.int .i64 di, .int .i64 dv, .int .i64 ds]) hS rfl rfl Tryz.underlying28 ed rfl (Src.slice Tryz.underlying28 (hS.blksl2 0 rfl) rfl) rfl (by simp [Value.oneCell']) (by omega) (by unfold maxLen; omega) ?_; intro v6 w6 hS1; clear hS; simp only [List.set_cons_zero, List.set_cons_succ] at hS1; obtain ⟨a6, c6, rfl, -⟩ := hS1.row 4 rfl; have hS := hS1.drop; clear hS1))
     try clear hC
     refine cl hK (fun hC => ?_)
     clear hK K
     refine tk 8 ?_
     refine tk 9 ?_
     refine mixs_one 10 (by kernel_rfl) rfl (fun K hK => ?_)
     refine op_store_st (by kernel_rfl) 1 hS rfl rfl rfl (by kernel_rfl) rfl rfl ?_
     clear hS; intro w1 hS; try simp only [List.set_cons_zero, List.set_cons_succ, List.setIfInBounds_toArray, List.take_succ_cons, List.take_zero, List.drop_succ_cons, List.drop_zero, List.nil_append, List.cons_append, List.append_nil, List.drop_nil, List.take_nil, List.length_cons, List.length_nil, Nat.zero_add, Nat.add_zero, Nat.reduceAdd] at hS
     try clear hC
     refine cl hK (fun hC => ?_)
     clear hK K
     refine wpAnyH_done (by kernel_rfl) ?_ _
     clear kC kr
     go_wp2_with fail
     go_roundg (m - (k + 1))
     case measure => omega
     case rel => exact ⟨k + 1, D.take (k + 1), ds, a6, c6, by omega, rfl, by go_num, Lib.hid rfl, Lib.hid hsn.out.symm, hgo1, by rw [hel.out, her.out]; exact hS.drop⟩
  have hjl : j < M.length := by rw [hlen.out]; exact hlt
  obtain ⟨b, off, rfl⟩ := hbase.out (by omega)
  have hrow := hl.out.rowb hlens.out j hjl
  have hf8 := hfl.out _ (List.getElem_mem hjl)
  have hcl := hlens.out _ (List.getElem_mem hjl)
  have hco := cdRow_oneT M[j]
  have cK := fun W => ckc_any M[j] hf8 W
  have hts : M.take (j + 1) = MJ ++ [M[j]] := by rw [hMJ.out]; exact List.take_succ_eq_append_getElem hjl
  have hgo := cardsGo_snoc next M[j] MJ 0
  rw [← hts, hg.out, Bool.true_and] at hgo
  have hgo : cardsGo next 0 (M.take (j + 1)) = (M[j].ok && (decide (lastId MJ < M[j].id) && decide (M[j].id < next))) := hgo
  rw [← hli.out] at hgo
  have hnr : cardsGo next 0 (M.take (j + 1)) = false → ∀ W, Below w.heap.size w W → Loads18 ⟨next, M, D⟩ w (.returned (.tuple #[.pointer none, .bool false])) W := fun h1 W h2 => hno.out W (right_no_cards (s := ⟨next, M, D⟩) (j + 1) h1) h2
  rw [hgo] at hnr
  obtain ⟨CT, hCT⟩ : ∃ CT, cdRow M[j] = .int .i64 M[j].id :: CT := ⟨_, rfl⟩
  have hmp : cardsGo next 0 (M.take (j + 1)) = true → cdM cdRow (M.take (j + 1)) = putM (cdM cdRow MJ) M[j].id (.agg (cdRow M[j]).toArray) := fun h => by
   rw [hts]
   refine cdM_snoc fun d hd => ?_
   have h1 := ((cardsGo_iff _ _ _).1 h).1
   rw [hts] at h1
   have := (List.pairwise_append.1 h1).2.2 d hd M[j] (by simp)
   omega
  have hlid : lastId (M.take (j + 1)) = M[j].id := by rw [hts]; exact lastId_snoc _ _
  have hwk : M[j].ok = true → (Lit.int .i64 M[j].id).wf = true := fun h => wf_of_i64 (by
   unfold Cd.ok at h
   rw [Bool.and_eq_true] at h
   have := of_decide_eq_true h.1
   omega)
  rw [hCT] at hrow hcl hco cK hmp
  generalize M[j].id = ci at *
  generalize M[j].ok = ck at *
  have z0 : w.cell? ⟨b, off + j * 27, none⟩ = some (.int .i64 ci) := by simpa using hrow 0 _ rfl
  have hrc : ((Value.int .i64 ci :: CT).toArray.toList.drop 0).take 27 = Value.int .i64 ci :: CT := by simp [← hcl]
  replace hrow := Lib.hid hrow
  clear hCT hf8
  replace cK := Lib.hid cK
  cases ck
  case false =>
   have hnr1 := Lib.hid (hnr (by simp))
   clear hnr hmp hwk hgo
   go_wp2_with (first | (with_reducible refine wpList_rangerow (t := 58) (n := 27) (range_old hS hrow.out) rfl rfl rfl (by kernel_rfl) (by kernel_rfl) hcl ?_) | (with_reducible refine wpList_alloc_st (t := 58) hS rfl rfl ec ?_; clear hS; intro gc w1 hS) | ((with_reducible refine wpList_storerow_st (t := 58) (n := 27) (vs := Value.int .i64 ci :: CT) 0 hS rfl rfl rfl rfl (by kernel_rfl) rfl hcl hco (by kernel_rfl) ?_); clear hS; intro w1 hS; try simp only [List.set_cons_zero, List.set_cons_succ, List.setIfInBounds_toArray, List.take_succ_cons, List.take_zero, List.drop_succ_cons, List.drop_zero, List.nil_append, List.cons_append, List.append_nil, List.drop_nil, List.take_nil, List.length_cons, List.length_nil, Nat.zero_add, Nat.add_zero, Nat.reduceAdd] at hS) | ((with_reducible refine wpList_loadrow_st (t := 58) (n := 27) (j := 0) (vs := Value.int .i64 ci :: CT) 0 hS rfl rfl rfl rfl (by kernel_rfl) (by kernel_rfl) hrc hcl ?_)) | (go_at_call 98; (with_reducible refine (cK.out _).mono ?_); rintro _ w3 ⟨rfl, hk9⟩; replace hS := hS.keepB hk9; clear hk9; have y0 : World.cell? _ ⟨gc, 0, none⟩ = some (.int .i64 ci) := hS.cell 0 rfl 0))
   go_ret2
   exact hnr1.out _ hS.below
  by_cases h1 : ci ≤ li
  · have hnr1 := Lib.hid (hnr (by simp; omega))
    have d1 : decide (ci ≤ li) = true := decide_eq_true h1
    clear hnr hmp hwk hgo h1
    go_wp2_with (first | (with_reducible refine wpList_rangerow (t := 58) (n := 27) (range_old hS hrow.out) rfl rfl rfl (by kernel_rfl) (by kernel_rfl) hcl ?_) | (with_reducible refine wpList_alloc_st (t := 58) hS rfl rfl ec ?_; clear hS; intro gc w1 hS) | ((with_reducible refine wpList_storerow_st (t := 58) (n := 27) (vs := Value.int .i64 ci :: CT) 0 hS rfl rfl rfl rfl (by kernel_rfl) rfl hcl hco (by kernel_rfl) ?_); clear hS; intro w1 hS; try simp only [List.set_cons_zero, List.set_cons_succ, List.setIfInBounds_toArray, List.take_succ_cons, List.take_zero, List.drop_succ_cons, List.drop_zero, List.nil_append, List.cons_append, List.append_nil, List.drop_nil, List.take_nil, List.length_cons, List.length_nil, Nat.zero_add, Nat.add_zero, Nat.reduceAdd] at hS) | ((with_reducible refine wpList_loadrow_st (t := 58) (n := 27) (j := 0) (vs := Value.int .i64 ci :: CT) 0 hS rfl rfl rfl rfl (by kernel_rfl) (by kernel_rfl) hrc hcl ?_)) | (go_at_call 98; (with_reducible refine (cK.out _).mono ?_); rintro _ w3 ⟨rfl, hk9⟩; replace hS := hS.keepB hk9; clear hk9; have y0 : World.cell? _ ⟨gc, 0, none⟩ = some (.int .i64 ci) := hS.cell 0 rfl 0))
    go_ret2
    exact hnr1.out _ hS.below
  have d1 : decide (ci ≤ li) = false := decide_eq_false h1
  by_cases h2 : next ≤ ci
  · have hnr1 := Lib.hid (hnr (by simp; omega))
    have d2 : decide (next ≤ ci) = true := decide_eq_true h2
    clear hnr hmp hwk hgo h1 h2
    go_wp2_with (first | (with_reducible refine wpList_rangerow (t := 58) (n := 27) (range_old hS hrow.out) rfl rfl rfl (by kernel_rfl) (by kernel_rfl) hcl ?_) | (with_reducible refine wpList_alloc_st (t := 58) hS rfl rfl ec ?_; clear hS; intro gc w1 hS) | ((with_reducible refine wpList_storerow_st (t := 58) (n := 27) (vs := Value.int .i64 ci :: CT) 0 hS rfl rfl rfl rfl (by kernel_rfl) rfl hcl hco (by kernel_rfl) ?_); clear hS; intro w1 hS; try simp only [List.set_cons_zero, List.set_cons_succ, List.setIfInBounds_toArray, List.take_succ_cons, List.take_zero, List.drop_succ_cons, List.drop_zero, List.nil_append, List.cons_append, List.append_nil, List.drop_nil, List.take_nil, List.length_cons, List.length_nil, Nat.zero_add, Nat.add_zero, Nat.reduceAdd] at hS) | ((with_reducible refine wpList_loadrow_st (t := 58) (n := 27) (j := 0) (vs := Value.int .i64 ci :: CT) 0 hS rfl rfl rfl rfl (by kernel_rfl) (by kernel_rfl) hrc hcl ?_)) | (go_at_call 98; (with_reducible refine (cK.out _).mono ?_); rintro _ w3 ⟨rfl, hk9⟩; replace hS := hS.keepB hk9; clear hk9; have y0 : World.cell? _ ⟨gc, 0, none⟩ = some (.int .i64 ci) := hS.cell 0 rfl 0))
    go_ret2
    exact hnr1.out _ hS.below
  have d2 : decide (next ≤ ci) = false := decide_eq_false h2
  have hgo1 : cardsGo next 0 (M.take (j + 1)) = true := by rw [hgo]; simp; omega
  have hmp1 := Lib.hid (hmp hgo1)
  have hwk1 := hwk rfl
  replace hgo1 := Lib.hid hgo1
  have hmx : j < maxLen := by unfold maxLen; omega
  replace hlid := Lib.hid hlid
  clear hnr hmp hwk hgo h1 h2 hts hli
  go_wp2_with (first | (with_reducible refine wpList_rangerow (t := 58) (n := 27) (range_old hS hrow.out) rfl rfl rfl (by kernel_rfl) (by kernel_rfl) hcl ?_) | (with_reducible refine wpList_alloc_st (t := 58) hS rfl rfl ec ?_; clear hS; intro gc w1 hS) | ((with_reducible refine wpList_storerow_st (t := 58) (n := 27) (vs := Value.int .i64 ci :: CT) 0 hS rfl rfl rfl rfl (by kernel_rfl) rfl hcl hco (by kernel_rfl) ?_); clear hS; intro w1 hS; try simp only [List.set_cons_zero, List.set_cons_succ, List.setIfInBounds_toArray, List.take_succ_cons, List.take_zero, List.drop_succ_cons, List.drop_zero, List.nil_append, List.cons_append, List.append_nil, List.drop_nil, List.take_nil, List.length_cons, List.length_nil, Nat.zero_add, Nat.add_zero, Nat.reduceAdd] at hS) | ((with_reducible refine wpList_loadrow_st (t := 58) (n := 27) (j := 0) (vs := Value.int .i64 ci :: CT) 0 hS rfl rfl rfl rfl (by kernel_rfl) (by kernel_rfl) hrc hcl ?_)) | (go_at_call 98; (with_reducible refine (cK.out _).mono ?_); rintro _ w3 ⟨rfl, hk9⟩; replace hS := hS.keepB hk9; clear hk9; have y0 : World.cell? _ ⟨gc, 0, none⟩ = some (.int .i64 ci) := hS.cell 0 rfl 0) | (with_reducible refine ld 0 hS rfl rfl rfl rfl rfl ?_))
  clear y0
  refine mixs_beginC2 (by kernel_rfl) hS ?_
  clear hS
  intro w2 hS hC
  have kc := hC.kblk 0 rfl
  have kg := hC.kblk 1 rfl
  have kr := hC.krow (P := Tryz.prog) (j := 0) 0 rfl (t := 58) (by kernel_rfl) (n := 27) (by kernel_rfl) hrc hcl
  refine tk 0 ?_
  refine tk 1 ?_
  refine tk 2 ?_
  refine tk 3 ?_
  refine tk 4 ?_
  refine tk 5 ?_
  refine tkr 6 kr ?_
  refine mixs_one 7 (by kernel_rfl) rfl (fun K hK => ?_)
  ( refine op_mapput_st (u := .agg (Value.int .i64 ci :: CT).toArray) (k := 3) (by kernel_rfl) 2 hS rfl rfl rfl rfl rfl Tryz.underlying3 Tryz.underlying99 hmx hwk1 ?_; clear hS; intro w1 hS; try simp only [List.set_cons_zero, List.set_cons_succ] at hS )
  try clear hC
  refine cl hK (fun hC => ?_)
  clear hK K
  refine wpAnyH_done (by kernel_rfl) ?_ _
  clear kc kg kr
  rw [← hmp1.out] at hS
  go_wp2_with fail
  go_roundg (n - (j + 1))
  case measure => omega
  case rel => exact ⟨j + 1, M.take (j + 1), ci, by omega, rfl, by go_num, Lib.hid rfl, Lib.hid hlid.out.symm, hgo1, hS.drop⟩
end Go.Proofs.YtneolmnpebiifaaGreatDoor
end
section
namespace Go.Proofs.YtneolmnpebiifaaGreatDoor
open Go.RowKit Go.Ofp
set_option maxHeartbeats 4000000
theorem build_keep_l (w : World) : (Instr.build 131 #[(0, .bool true)]).run Tryz.prog w = .ok (.agg #[.bool true, .bool false, .bool false]) w := by kernel_rfl
theorem minus_any (a b : Option Addr) (l m : List Int) (n k cap cap2 : Nat) (w : World) (hs : Sl w a (l.map vi)) (ht : Sl w b (m.map vi)) (hn : l.length = n) (hk : m.length = k) (hm : n ≤ 10000) (hm2 : k ≤ 10000) :
 Calls Tryz.prog 57 #[.slice a n cap, .slice b k cap2] w (IntsRet (Ids.along true false false l m) w) := by
 have cA := along_any a b l m n k cap cap2 true false false w hs ht hn hk hm hm2
 replace cA := Lib.hid cA
 clear hs ht hn hk
 go_enter Tryz.func57, Tryz.ntmps57
 go_wp2_with (first | ((with_reducible refine wpList_build1 rfl rfl (.bool true) rfl build_keep_l ?_)) | (go_at_call 100; (with_reducible refine cA.out.mono ?_); rintro _ w3 ⟨a3, c3, rfl, h1, h2, h3⟩))
 go_ret
 exact ⟨_, _, rfl, h1, h2, h3⟩
theorem row_ints {w : World} {a : Option Addr} {len cap : Nat} {zs : List Int} (h : (a = none ∧ len = 0 ∧ cap = 0 ∧ zs = []) ∨
 ∃ x, a = some x ∧ len ≤ cap ∧ cap ≤ maxLen ∧ zs.length = cap ∧ (∀ i, i < zs.length → w.cell? (x.add i) = some (.int .i64 (zs.getD i 0))) ∧ ∀ n ∈ zs, (Lit.int .i64 n).wf = true) :
 ∃ l : List Int, l.length = len ∧ Sl w a (l.map vi) ∧ len ≤ cap ∧ cap ≤ maxLen ∧ ∀ x ∈ l, -9223372036854775808 ≤ x ∧ x ≤ 9223372036854775807 := by
 rcases h with ⟨rfl, rfl, rfl, rfl⟩ | ⟨x, rfl, h1, h2, h3, h4, h5⟩
 · exact ⟨[], rfl, Sl.nil _ _, Nat.le_refl _, Nat.zero_le _, by simp⟩
 · refine ⟨zs.take len, by rw [List.length_take]; omega, ?_, h1, h2, fun z hz => wf_i64 (h5 z (List.mem_of_mem_take hz))⟩
   intro i hi
   have hi' : i < len := by simp at hi; omega
   have hc := h4 i (by omega)
   obtain ⟨b, off, spot⟩ := x
   have hs : spot = none := by
    have := h4 0 (by omega)
    simpa [Addr.add] using World.cell?_spot this
   subst hs
   refine ⟨b, off, rfl, ?_⟩
   rw [Addr.add_lit] at hc
   rw [hc]
   simp [vi, List.getElem?_eq_getElem (show i < zs.length by omega)]
end Go.Proofs.YtneolmnpebiifaaGreatDoor
end
