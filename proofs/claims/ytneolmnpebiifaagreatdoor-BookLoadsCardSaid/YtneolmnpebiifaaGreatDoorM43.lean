import Derived.Test.YtneolmnpebiifaaGreatDoorM41
set_option linter.unusedVariables false
set_option linter.unusedSimpArgs false
set_option maxRecDepth 100000
section
namespace Go.Proofs.YtneolmnpebiifaaGreatDoor
open Go.RowKit Go.Ofp
set_option maxHeartbeats 4000000
def largeBk (b : BkS) : Bool := decide (60 < b.sh.m.length) || (decide (60 < b.sh.dead.length) || (bigK b.ks || largeC b.sh.m))
theorem large20_any (b : BkS) (r : RV) (w : World) (h : r.at b w) :
 Calls Tryz.prog 28 #[.agg (bdRow b r).toArray] w fun e w' => e = .returned (.bool (largeBk b)) ∧ Below w.heap.size w w' := by
 have hS := St.start w
 rw [bdRow_eq]
 have cL := Lib.hid fun f hf W => large6_any f hf W
 have cG := fun W (k : Below w.heap.size w W) => large_any r.ga r.grs r.grs.length r.gc W (h.deep.below k)
 rw [h.ks] at cG
 have hl : Lst cdRow (fun x => x.f.length = 8) w r.ca b.sh.m.length r.cc b.sh.m := h.lc
 have hfl := Lib.hid hl.mem
 have hlens := Lib.hid (show ∀ y ∈ b.sh.m, (cdRow y).length = 27 from fun y hy => cdRow_lenT y (hl.mem y hy))
 have hbase := Lib.hid (hl.base (by decide) hlens.out)
 replace hl := Lib.hid hl
 obtain ⟨LB, hLB⟩ : ∃ LB, largeBk b = LB := ⟨_, rfl⟩
 rw [hLB]
 unfold largeBk at hLB
 have hgm := h.deep.cm
 have hgle := h.deep.le
 clear h
 obtain ⟨rca, rcc, rda, rdc, rga, rgc, rgrs⟩ := r
 obtain ⟨sq, ⟨nx, M, D⟩, ks⟩ := b
 dsimp only at *
 generalize D.length = m at *
 generalize rgrs.length = g at *
 generalize bigK ks = bg at *
 obtain ⟨n, hMn⟩ : ∃ n, M.length = n := ⟨_, rfl⟩
 rw [hMn] at hl hLB hbase ⊢
 replace cG := Lib.hid cG
 by_cases h1 : 60 < n
 · have d1 : decide ((60 : Int) < (n : Int)) = true := decide_eq_true (by omega)
   have d1b : decide (60 < n) = true := decide_eq_true h1
   have hy := Lib.hid (show LB = true by rw [← hLB, d1b]; rfl)
   clear h1 hLB
   go_enter Tryz.func28, Tryz.ntmps28
   go_wp2_with (first | (with_reducible refine wpList_box_st (L := []) hS rfl rfl rfl ?_; clear hS; intro gb w1 hS; have y3 : World.cell? _ ⟨gb, 3, none⟩ = some (.slice rda m rdc) := hS.cell 0 rfl 3; have y4 : World.cell? _ ⟨gb, 4, none⟩ = some (.slice rga g rgc) := hS.cell 0 rfl 4) | (with_reducible refine ld 0 hS rfl rfl rfl rfl rfl ?_))
   go_ret
   exact ⟨by rw [hy.out]; rfl, hS.below⟩
 have d1 : decide ((60 : Int) < (n : Int)) = false := decide_eq_false (by omega)
 have d1b : decide (60 < n) = false := decide_eq_false h1
 by_cases h2 : 60 < m
 · have d2 : decide ((60 : Int) < (m : Int)) = true := decide_eq_true (by omega)
   have d2b : decide (60 < m) = true := decide_eq_true h2
   have hy := Lib.hid (show LB = true by rw [← hLB, d1b, d2b]; rfl)
   clear h1 h2 hLB
   go_enter Tryz.func28, Tryz.ntmps28
   go_wp2_with (first | (with_reducible refine wpList_box_st (L := []) hS rfl rfl rfl ?_; clear hS; intro gb w1 hS; have y3 : World.cell? _ ⟨gb, 3, none⟩ = some (.slice rda m rdc) := hS.cell 0 rfl 3; have y4 : World.cell? _ ⟨gb, 4, none⟩ = some (.slice rga g rgc) := hS.cell 0 rfl 4) | (with_reducible refine ld 0 hS rfl rfl rfl rfl rfl ?_))
   go_ret
   exact ⟨by rw [hy.out]; rfl, hS.below⟩
 have d2 : decide ((60 : Int) < (m : Int)) = false := decide_eq_false (by omega)
 have d2b : decide (60 < m) = false := decide_eq_false h2
 cases bg
 case true =>
  have hy := Lib.hid (show LB = true by rw [← hLB, d1b, d2b]; rfl)
  clear h1 h2 hLB
  go_enter Tryz.func28, Tryz.ntmps28
  go_wp2_with (first | (with_reducible refine wpList_box_st (L := []) hS rfl rfl rfl ?_; clear hS; intro gb w1 hS; have y3 : World.cell? _ ⟨gb, 3, none⟩ = some (.slice rda m rdc) := hS.cell 0 rfl 3; have y4 : World.cell? _ ⟨gb, 4, none⟩ = some (.slice rga g rgc) := hS.cell 0 rfl 4) | (go_at_call 58; (with_reducible refine (cG.out _ hS.below).mono ?_); rintro _ _ ⟨rfl, rfl⟩) | (with_reducible refine ld 0 hS rfl rfl rfl rfl rfl ?_))
  go_ret
  exact ⟨by rw [hy.out]; rfl, hS.below⟩
 have hLC : largeC M = LB := by rw [← hLB, d1b, d2b]; rfl
 replace hLC := Lib.hid hLC
 have hn60 : n ≤ 60 := by omega
 clear h1 h2 hLB
 go_enter Tryz.func28, Tryz.ntmps28
 go_wp2_with (first | (with_reducible refine wpList_box_st (L := []) hS rfl rfl rfl ?_; clear hS; intro gb w1 hS; have y3 : World.cell? _ ⟨gb, 3, none⟩ = some (.slice rda m rdc) := hS.cell 0 rfl 3; have y4 : World.cell? _ ⟨gb, 4, none⟩ = some (.slice rga g rgc) := hS.cell 0 rfl 4) | (go_at_call 58; (with_reducible refine (cG.out _ hS.below).mono ?_); rintro _ _ ⟨rfl, rfl⟩) | (with_reducible refine ld 0 hS rfl rfl rfl rfl rfl ?_))
 clear d1 d1b d2 d2b y3 y4
 go_loopg [3] n (fun gk vx wr => ∃ j : Nat, j + gk = n ∧ vx = .int .i64 j ∧ Hid (LB = (M.drop j).any fun x => largeF x.f) ∧ St w [] [Ch.blk gb 31 #[.int .i64 sq, .int .i64 nx, .slice rca n rcc, .slice rda m rdc, .slice rga g rgc]] wr)
 case atStart => exact ⟨0, Nat.zero_add _, rfl, Lib.hid hLC.out.symm, hS⟩
 case round =>
  clear hS
  obtain ⟨j, hj, rfl, hr, hS⟩ := hrel
  by_cases hlt : j < n
  case neg =>
   obtain rfl : j = n := by omega
   have hr2 := hr.out
   rw [List.drop_of_length_le (by rw [hMn]; exact Nat.le_refl _)] at hr2
   replace hr2 := Lib.hid hr2
   go_wp2_with ((with_reducible refine ld 0 hS rfl rfl rfl rfl rfl ?_))
   go_ret
   exact ⟨by rw [hr2.out]; rfl, hS.below⟩
  have hjl : j < M.length := by rw [hMn]; exact hlt
  have hr2 := hr.out
  rw [any_drop M _ j hjl] at hr2
  obtain ⟨b, off, rfl⟩ := hbase.out (by omega)
  have hrow := hl.out.rowb hlens.out j hjl
  have hf8 := hfl.out _ (List.getElem_mem hjl)
  have cL2 := Lib.hid fun W => cL.out M[j].f hf8 W
  have hFl2 : (flRow M[j].f).length = 24 := by rw [flRow_length, hf8]
  have zF : w.rangeAt b (off + j * 27 + 3) (flRow M[j].f) := fun k v hk => by
   have := hrow (3 + k) v (by rw [Nat.add_comm]; exact hk)
   rw [← Nat.add_assoc] at this
   exact this
  clear hrow
  generalize flRow M[j].f = FM at *
  generalize largeF M[j].f = lm at *
  cases lm
  case true =>
   rw [Bool.true_or] at hr2
   replace hr2 := Lib.hid hr2
   go_wp2_with (first | (go_at_call 32; (with_reducible refine (cL2.out _).mono ?_); rintro _ w3 ⟨rfl, hk9⟩; replace hS := hS.keepB hk9; clear hk9) | (with_reducible refine wpList_rangerow (t := 40) (n := 24) (range_old hS zF) rfl rfl rfl (by kernel_rfl) (by kernel_rfl) hFl2 ?_) | (with_reducible refine ld 0 hS rfl rfl rfl rfl rfl ?_))
   go_ret
   exact ⟨by rw [hr2.out]; rfl, hS.below⟩
  rw [Bool.false_or] at hr2
  replace hr2 := Lib.hid hr2
  go_wp2_with (first | (go_at_call 32; (with_reducible refine (cL2.out _).mono ?_); rintro _ w3 ⟨rfl, hk9⟩; replace hS := hS.keepB hk9; clear hk9) | (with_reducible refine wpList_rangerow (t := 40) (n := 24) (range_old hS zF) rfl rfl rfl (by kernel_rfl) (by kernel_rfl) hFl2 ?_) | (with_reducible refine ld 0 hS rfl rfl rfl rfl rfl ?_))
  go_roundg (n - (j + 1))
  case measure => omega
  case rel => exact ⟨j + 1, by omega, by go_num, hr2, hS⟩
end Go.Proofs.YtneolmnpebiifaaGreatDoor
end
section
namespace Go.Ofp
open Go.RowKit
theorem lastId_take {M : List Cd} {j : Nat} (h0 : 0 < j) (hj : j ≤ M.length) : lastId (M.take j) = (M[j - 1]'(by omega)).id := by
 obtain ⟨i, rfl⟩ : ∃ i, j = i + 1 := ⟨j - 1, by omega⟩
 rw [List.take_succ_eq_append_getElem (by omega), lastId_snoc]
 rfl
theorem right_dead {s : ShS} (hr : s.right = true) (i : Nat) (hi : i < s.dead.length) : 1 ≤ s.dead[i].id ∧ s.dead[i].id < s.next ∧ 1 ≤ s.dead[i].ver ∧ s.dead[i].ver ≤ 1099511627776 ∧ 0 ≤ s.dead[i].seq ∧ s.dead[i].seq ≤ 1099511627776 ∧ lookC s.m s.dead[i].id = none ∧ ∀ k (hk : k < i), s.dead[k].id ≠ s.dead[i].id ∧ s.dead[k].seq ≤ s.dead[i].seq := by
 have h6 := ((right_iff s).1 hr).2.2.2.2.2
 obtain ⟨h1, h2, h3, h4, h5, h7, h8⟩ := h6.each _ (List.getElem_mem hi)
 exact ⟨h1, h2, h3, h4, h5, h7, h8, fun k hk => ⟨List.pairwise_iff_getElem.1 h6.ids k i (by omega) hi hk, List.pairwise_iff_getElem.1 h6.seqs k i (by omega) hi hk⟩⟩
theorem deadOk_snoc2 {next : Int} {m : List Cd} {pre : List Dd} {d : Dd} (h : DeadOk next m pre) (hd : 1 ≤ d.id ∧ d.id < next ∧ 1 ≤ d.ver ∧ d.ver ≤ 1099511627776 ∧ 0 ≤ d.seq ∧ d.seq ≤ 1099511627776 ∧ lookC m d.id = none) (hp : ∀ x ∈ pre, x.id ≠ d.id ∧ x.seq ≤ d.seq) : DeadOk next m (pre ++ [d]) :=
 h.snoc ((deadAt_iff h).2 ⟨hd.1, hd.2.1, hd.2.2.1, hd.2.2.2.1, hd.2.2.2.2.1, hd.2.2.2.2.2.1, hd.2.2.2.2.2.2, fun x hx => (hp x hx).1, fun x hx => (hp x hx).2⟩)
end Go.Ofp
namespace Go.Proofs.YtneolmnpebiifaaGreatDoor
open Go.RowKit Go.Ofp
set_option maxHeartbeats 4000000
theorem rsright_any (nx : Int) (M : List Cd) (D : List Dd) (ca : Option Addr) (cc : Nat) (da : Option Addr) (dc : Nat) (w : World) (hl : LC w ⟨nx, M, D⟩ ca cc) (hd : LD w ⟨nx, M, D⟩ da dc) :
 Calls Tryz.prog 59 #[.agg (rsRow ⟨nx, M, D⟩ ca cc da dc).toArray] w fun e w' => e = .returned (.bool (ShS.mk nx M D).right) ∧ Below w.heap.size w w' := by
 have hS := St.start w
 have ed := elem_dd
 have cP := Lib.hid fun W (hb : Below w.heap.size w W) id => splace_any ⟨nx, M, D⟩ ca cc da dc id W (hl.below hb)
 have e0 : rsRow ⟨nx, M, D⟩ ca cc da dc = [.int .i64 nx, .slice ca M.length cc, .slice da D.length dc] := rfl
 rw [e0] at cP ⊢
 dsimp only [LC, LD] at hl hd
 clear e0
 obtain ⟨RR, hRR⟩ : ∃ r, (ShS.mk nx M D).right = r := ⟨_, rfl⟩
 rw [hRR]
 replace hRR := Lib.hid hRR
 have hlen := Lib.hid hl.len
 have hdn := Lib.hid hd.len
 have hfl := Lib.hid hl.mem
 have hlens := Lib.hid (show ∀ y ∈ M, (cdRow y).length = 27 from fun y hy => cdRow_lenT y (hl.mem y hy))
 have hbase := Lib.hid (hl.base (by decide) hlens.out)
 have hdlens := Lib.hid (show ∀ y ∈ D, (ddRow y).length = 3 from fun y hy => ddRow_len y)
 have hdbase := Lib.hid (hd.base (by decide) hdlens.out)
 replace hl := Lib.hid hl
 replace hd := Lib.hid hd
 have hno : (ShS.mk nx M D).right = false → ∀ W, Below w.heap.size w W → Ending.returned (.bool false) = .returned (.bool RR) ∧ Below w.heap.size w W := fun h1 W h2 => ⟨by rw [← hRR.out, h1], h2⟩
 replace hno := Lib.hid hno
 generalize hMn : M.length = n at *
 generalize hDn : D.length = m at *
 by_cases h1 : nx < 1
 · have d1 : decide (nx < 1) = true := decide_eq_true h1
   have hr := Lib.hid (right_head (s := ⟨nx, M, D⟩) (by rintro ⟨k, -⟩; have k : 1 ≤ nx := k; omega))
   clear h1
   go_enter Tryz.func59, Tryz.ntmps59
   go_wp2_with ((with_reducible refine wpList_box_st (L := []) hS rfl rfl rfl ?_; clear hS; intro gb w1 hS; have y0 : World.cell? _ ⟨gb, 0, none⟩ = some (.int .i64 nx) := hS.cell 0 rfl 0; have y1 : World.cell? _ ⟨gb, 1, none⟩ = some (.slice ca n cc) := hS.cell 0 rfl 1; have y2 : World.cell? _ ⟨gb, 2, none⟩ = some (.slice da m dc) := hS.cell 0 rfl 2))
   go_ret
   exact hno.out hr.out _ hS.below
 have d1 : decide (nx < 1) = false := decide_eq_false h1
 by_cases h2 : 1073741824 < nx
 · have d2 : decide (1073741824 < nx) = true := decide_eq_true h2
   have hr := Lib.hid (right_head (s := ⟨nx, M, D⟩) (by rintro ⟨-, k, -⟩; have k : nx ≤ 1073741824 := k; omega))
   clear h1 h2
   go_enter Tryz.func59, Tryz.ntmps59
   go_wp2_with ((with_reducible refine wpList_box_st (L := []) hS rfl rfl rfl ?_; clear hS; intro gb w1 hS; have y0 : World.cell? _ ⟨gb, 0, none⟩ = some (.int .i64 nx) := hS.cell 0 rfl 0; have y1 : World.cell? _ ⟨gb, 1, none⟩ = some (.slice ca n cc) := hS.cell 0 rfl 1; have y2 : World.cell? _ ⟨gb, 2, none⟩ = some (.slice da m dc) := hS.cell 0 rfl 2))
   go_ret
   exact hno.out hr.out _ hS.below
 have d2 : decide (1073741824 < nx) = false := decide_eq_false h2
 by_cases h3 : 48 < n
 · have d3 : decide ((48 : Int) < (n : Int)) = true := decide_eq_true (by omega)
   have d3b : decide (48 < n) = true := decide_eq_true h3
   have hr := Lib.hid (right_head (s := ⟨nx, M, D⟩) (by rintro ⟨-, -, k, -⟩; have k : M.length ≤ 48 := k; omega))
   clear h1 h2 h3
   go_enter Tryz.func59, Tryz.ntmps59
   go_wp2_with ((with_reducible refine wpList_box_st (L := []) hS rfl rfl rfl ?_; clear hS; intro gb w1 hS; have y0 : World.cell? _ ⟨gb, 0, none⟩ = some (.int .i64 nx) := hS.cell 0 rfl 0; have y1 : World.cell? _ ⟨gb, 1, none⟩ = some (.slice ca n cc) := hS.cell 0 rfl 1; have y2 : World.cell? _ ⟨gb, 2, none⟩ = some (.slice da m dc) := hS.cell 0 rfl 2))
   go_ret
   exact hno.out hr.out _ hS.below
 have d3 : decide ((48 : Int) < (n : Int)) = false := decide_eq_false (by omega)
 have d3b : decide (48 < n) = false := decide_eq_false h3
 by_cases h4 : 40 < m
 · have d4 : decide ((40 : Int) < (m : Int)) = true := decide_eq_true (by omega)
   have d4b : decide (40 < m) = true := decide_eq_true h4
   have hr := Lib.hid (right_head (s := ⟨nx, M, D⟩) (by rintro ⟨-, -, -, k⟩; have k : D.length ≤ 40 := k; omega))
   clear h1 h2 h3 h4
   go_enter Tryz.func59, Tryz.ntmps59
   go_wp2_with ((with_reducible refine wpList_box_st (L := []) hS rfl rfl rfl ?_; clear hS; intro gb w1 hS; have y0 : World.cell? _ ⟨gb, 0, none⟩ = some (.int .i64 nx) := hS.cell 0 rfl 0; have y1 : World.cell? _ ⟨gb, 1, none⟩ = some (.slice ca n cc) := hS.cell 0 rfl 1; have y2 : World.cell? _ ⟨gb, 2, none⟩ = some (.slice da m dc) := hS.cell 0 rfl 2))
   go_ret
   exact hno.out hr.out _ hS.below
 have d4 : decide ((40 : Int) < (m : Int)) = false := decide_eq_false (by omega)
 have d4b : decide (40 < m) = false := decide_eq_false h4
 have hhd := Lib.hid (show 1 ≤ nx ∧ nx ≤ 1073741824 ∧ M.length ≤ 48 ∧ D.length ≤ 40 from ⟨by omega, by omega, by omega, by omega⟩)
 have hn48 : n ≤ 48 := by omega
 have hm40 : m ≤ 40 := by omega
 replace hMn := Lib.hid hMn
 replace hDn := Lib.hid hDn
 clear h1 h2 h3 h4
 go_enter Tryz.func59, Tryz.ntmps59
 go_wp2_with ((with_reducible refine wpList_box_st (L := []) hS rfl rfl rfl ?_; clear hS; intro gb w1 hS; have y0 : World.cell? _ ⟨gb, 0, none⟩ = some (.int .i64 nx) := hS.cell 0 rfl 0; have y1 : World.cell? _ ⟨gb, 1, none⟩ = some (.slice ca n cc) := hS.cell 0 rfl 1; have y2 : World.cell? _ ⟨gb, 2, none⟩ = some (.slice da m dc) := hS.cell 0 rfl 2))
 clear d1 d2 d3 d3b d4 d4b y0 y1 y2
 go_loopg [3] n (fun gk vx wr => ∃ (j : Nat), j + gk = n ∧ vx = .int .i64 j ∧ Hid (cardsGo nx 0 (M.take j) = true) ∧ St w [] [Ch.blk gb 51 #[.int .i64 nx, .slice ca n cc, .slice da m dc]] wr)
 case atStart => exact ⟨0, Nat.zero_add _, rfl, Lib.hid rfl, hS⟩
 case round =>
  clear hS
  obtain ⟨j, hj, rfl, hg, hS⟩ := hrel
  by_cases hlt : j < n
  case neg =>
   have ht : M.take j = M := List.take_of_length_le (by rw [hMn.out]; omega)
   rw [ht] at hg
   clear ht hlens hbase hfl hl
   go_wp2_with (((with_reducible refine wpList_load_st 0 hS rfl rfl rfl rfl ?_ rfl ?_); focus (simp [scalarB, go_sem]; done)))
   go_loopg [4] m (fun gk vx wr => ∃ (k : Nat), k + gk = m ∧ vx = .int .i64 k ∧ Hid (DeadOk nx M (D.take k)) ∧ St w [] [Ch.blk gb 51 #[.int .i64 nx, .slice ca n cc, .slice da m dc]] wr)
   case atStart => exact ⟨0, Nat.zero_add _, rfl, Lib.hid (DeadOk.nil _ _), hS⟩
   case round =>
    clear hS
    obtain ⟨k, hk, rfl, hdk, hS⟩ := hrel
    by_cases hlt : k < m
    case neg =>
     have ht : D.take k = D := List.take_of_length_le (by rw [hDn.out]; omega)
     have hdk2 := hdk.out
     rw [ht] at hdk2
     have hyes : RR = true := by rw [← hRR.out]; exact (right_iff _).2 ⟨hhd.out.1, hhd.out.2.1, hhd.out.2.2.1, hhd.out.2.2.2, hg.out, hdk2⟩
     replace hyes := Lib.hid hyes
     clear ht hdk2
     go_wp2_with (((with_reducible refine wpList_load_st 0 hS rfl rfl rfl rfl ?_ rfl ?_); focus (simp [scalarB, go_sem]; done)))
     go_ret
     exact ⟨by rw [hyes.out]; rfl, hS.below⟩
    have hkl : k < D.length := by rw [hDn.out]; exact hlt
    obtain ⟨b, off, rfl⟩ := hdbase.out (by omega)
    have hrow := hd.out.rowb hdlens.out k hkl
    have hcon : (ShS.mk nx M D).right = true → 1 ≤ D[k].id ∧ D[k].id < nx ∧ 1 ≤ D[k].ver ∧ D[k].ver ≤ 1099511627776 ∧ 0 ≤ D[k].seq ∧ D[k].seq ≤ 1099511627776 ∧ lookC M D[k].id = none ∧ ∀ q (hq : q < k), D[q].id ≠ D[k].id ∧ D[q].seq ≤ D[k].seq := fun hr => right_dead hr k hkl
    have hts : D.take (k + 1) = D.take k ++ [D[k]] := List.take_succ_eq_append_getElem hkl
    have hnext : (1 ≤ D[k].id ∧ D[k].id < nx ∧ 1 ≤ D[k].ver ∧ D[k].ver ≤ 1099511627776 ∧ 0 ≤ D[k].seq ∧ D[k].seq ≤ 1099511627776 ∧ lookC M D[k].id = none) → (∀ q (hq : q < k), D[q].id ≠ D[k].id ∧ D[q].seq ≤ D[k].seq) → DeadOk nx M (D.take (k + 1)) := fun h1 h2 => by
     rw [hts]
     refine deadOk_snoc2 hdk.out h1 fun x hx => ?_
     obtain ⟨q, hq, rfl⟩ := List.getElem_of_mem hx
     rw [List.length_take] at hq
     rw [List.getElem_take]
     exact h2 q (by omega)
    clear hts
    generalize D[k] = d at *
    obtain ⟨di, dv, ds⟩ := d
    have zr : w.rangeAt b (off + k * 3) [.int .i64 di, .int .i64 dv, .int .i64 ds] := hrow
    have hcon : (ShS.mk nx M D).right = true → 1 ≤ di ∧ di < nx ∧ 1 ≤ dv ∧ dv ≤ 1099511627776 ∧ 0 ≤ ds ∧ ds ≤ 1099511627776 ∧ lookC M di = none ∧ ∀ q (hq : q < k), D[q].id ≠ di ∧ D[q].seq ≤ ds := hcon
    have hnext : (1 ≤ di ∧ di < nx ∧ 1 ≤ dv ∧ dv ≤ 1099511627776 ∧ 0 ≤ ds ∧ ds ≤ 1099511627776 ∧ lookC M di = none) → (∀ q (hq : q < k), D[q].id ≠ di ∧ D[q].seq ≤ ds) → DeadOk nx M (D.take (k + 1)) := hnext
    clear hrow
    have hf : ((ShS.mk nx M D).right = true → False) → ∀ W, Below w.heap.size w W → Ending.returned (.bool false) = .returned (.bool RR) ∧ Below w.heap.size w W := fun h => hno.out (by rw [← Bool.not_eq_true]; exact h)
    have hwk1 : IntKind.i64.wrap ((k : Int) + 1) = (k : Int) + 1 := IntWalk.i64_in _ (by omega)
    by_cases p1 : di < 1
    · have d1 : decide (di < 1) = true := decide_eq_true p1
      have hnr2 := Lib.hid (hf fun hr => by have := hcon hr; omega)
      clear hcon hnext hf p1
      go_wp2_with (first | (with_reducible refine wpList_rangerow (t := 91) (n := 3) (range_old hS zr) rfl rfl rfl (by kernel_rfl) (by kernel_rfl) rfl ?_) | (with_reducible refine wpList_alloc_st (t := 91) hS rfl rfl ed ?_; clear hS; intro gd w1 hS) | ((with_reducible refine wpList_storerow_st (t := 91) (n := 3) (vs := [.int .i64 di, .int .i64 dv, .int .i64 ds]) 0 hS rfl rfl rfl rfl (by kernel_rfl) rfl rfl rfl (by kernel_rfl) ?_); clear hS; intro w1 hS; try simp only [List.set_cons_zero, List.set_cons_succ, List.setIfInBounds_toArray, List.take_succ_cons, List.take_zero, List.drop_succ_cons, List.drop_zero, List.nil_append, List.cons_append, List.append_nil, List.drop_nil, List.take_nil, List.length_cons, List.length_nil, Nat.zero_add, Nat.add_zero, Nat.reduceAdd] at hS; have v0 : World.cell? _ ⟨gd, 0, none⟩ = some (.int .i64 di) := hS.cell 0 rfl 0; have v1 : World.cell? _ ⟨gd, 1, none⟩ = some (.int .i64 dv) := hS.cell 0 rfl 1; have v2 : World.cell? _ ⟨gd, 2, none⟩ = some (.int .i64 ds) := hS.cell 0 rfl 2; have y0 : World.cell? _ ⟨gb, 0, none⟩ = some (.int .i64 nx) := hS.cell 1 rfl 0) | ((with_reducible refine wpList_load_st 0 hS rfl rfl rfl rfl ?_ rfl ?_); focus (simp [scalarB, go_sem]; done)))
      go_ret
      exact hnr2.out _ hS.below
    have d1 : decide (di < 1) = false := decide_eq_false p1
    by_cases p2 : nx ≤ di
    · have d2 : decide (nx ≤ di) = true := decide_eq_true p2
      have hnr2 := Lib.hid (hf fun hr => by have := hcon hr; omega)
      clear hcon hnext hf p1 p2
      go_wp2_with (first | (with_reducible refine wpList_rangerow (t := 91) (n := 3) (range_old hS zr) rfl rfl rfl (by kernel_rfl) (by kernel_rfl) rfl ?_) | (with_reducible refine wpList_alloc_st (t := 91) hS rfl rfl ed ?_; clear hS; intro gd w1 hS) | ((with_reducible refine wpList_storerow_st (t := 91) (n := 3) (vs := [.int .i64 di, .int .i64 dv, .int .i64 ds]) 0 hS rfl rfl rfl rfl (by kernel_rfl) rfl rfl rfl (by kernel_rfl) ?_); clear hS; intro w1 hS; try simp only [List.set_cons_zero, List.set_cons_succ, List.setIfInBounds_toArray, List.take_succ_cons, List.take_zero, List.drop_succ_cons, List.drop_zero, List.nil_append, List.cons_append, List.append_nil, List.drop_nil, List.take_nil, List.length_cons, List.length_nil, Nat.zero_add, Nat.add_zero, Nat.reduceAdd] at hS; have v0 : World.cell? _ ⟨gd, 0, none⟩ = some (.int .i64 di) := hS.cell 0 rfl 0; have v1 : World.cell? _ ⟨gd, 1, none⟩ = some (.int .i64 dv) := hS.cell 0 rfl 1; have v2 : World.cell? _ ⟨gd, 2, none⟩ = some (.int .i64 ds) := hS.cell 0 rfl 2; have y0 : World.cell? _ ⟨gb, 0, none⟩ = some (.int .i64 nx) := hS.cell 1 rfl 0) | ((with_reducible refine wpList_load_st 0 hS rfl rfl rfl rfl ?_ rfl ?_); focus (simp [scalarB, go_sem]; done)))
      go_ret
      exact hnr2.out _ hS.below
    have d2 : decide (nx ≤ di) = false := decide_eq_false p2
    cases hlk : lookC M di with
    | some c0 =>
     have hpv : plV M di = (placeC M di : Int) := by unfold plV; rw [hlk]; rfl
     have d0 : decide (0 ≤ plV M di) = true := decide_eq_true (by rw [hpv]; omega)
     have hnr2 := Lib.hid (hf fun hr => by have := (hcon hr).2.2.2.2.2.2.1; rw [hlk] at this; cases this)
     clear hcon hnext hf p1 p2 hpv hlk
     go_wp2_with (first | (with_reducible refine wpList_rangerow (t := 91) (n := 3) (range_old hS zr) rfl rfl rfl (by kernel_rfl) (by kernel_rfl) rfl ?_) | (with_reducible refine wpList_alloc_st (t := 91) hS rfl rfl ed ?_; clear hS; intro gd w1 hS) | ((with_reducible refine wpList_storerow_st (t := 91) (n := 3) (vs := [.int .i64 di, .int .i64 dv, .int .i64 ds]) 0 hS rfl rfl rfl rfl (by kernel_rfl) rfl rfl rfl (by kernel_rfl) ?_); clear hS; intro w1 hS; try simp only [List.set_cons_zero, List.set_cons_succ, List.setIfInBounds_toArray, List.take_succ_cons, List.take_zero, List.drop_succ_cons, List.drop_zero, List.nil_append, List.cons_append, List.append_nil, List.drop_nil, List.take_nil, List.length_cons, List.length_nil, Nat.zero_add, Nat.add_zero, Nat.reduceAdd] at hS; have v0 : World.cell? _ ⟨gd, 0, none⟩ = some (.int .i64 di) := hS.cell 0 rfl 0; have v1 : World.cell? _ ⟨gd, 1, none⟩ = some (.int .i64 dv) := hS.cell 0 rfl 1; have v2 : World.cell? _ ⟨gd, 2, none⟩ = some (.int .i64 ds) := hS.cell 0 rfl 2; have y0 : World.cell? _ ⟨gb, 0, none⟩ = some (.int .i64 nx) := hS.cell 1 rfl 0) | (go_at_call 50; (with_reducible refine (cP.out _ hS.below di).mono ?_); rintro _ w3 ⟨rfl, hk9⟩; clear v0 v1 v2 y0; replace hS := hS.keepB hk9; clear hk9; have v0 : World.cell? _ ⟨gd, 0, none⟩ = some (.int .i64 di) := hS.cell 0 rfl 0; have v1 : World.cell? _ ⟨gd, 1, none⟩ = some (.int .i64 dv) := hS.cell 0 rfl 1; have v2 : World.cell? _ ⟨gd, 2, none⟩ = some (.int .i64 ds) := hS.cell 0 rfl 2) | ((with_reducible refine wpList_gloadrow_st (n := 3) 1 hS rfl (by with_unfolding_all rfl) rfl rfl ?_ (by kernel_rfl) rfl rfl ?_); focus (simp [rowB, go_sem]; done)) | ((with_reducible refine wpList_load_st 0 hS rfl rfl rfl rfl ?_ rfl ?_); focus (simp [scalarB, go_sem]; done)))
     go_ret
     exact hnr2.out _ hS.below
    | none =>
    have d0 : decide (0 ≤ plV M di) = false := decide_eq_false (by unfold plV; rw [hlk]; simp)
    by_cases p3 : dv < 1
    · have d3 : decide (dv < 1) = true := decide_eq_true p3
      have hnr2 := Lib.hid (hf fun hr => by have := hcon hr; omega)
      clear hcon hnext hf p1 p2 p3 hlk
      go_wp2_with (first | (with_reducible refine wpList_rangerow (t := 91) (n := 3) (range_old hS zr) rfl rfl rfl (by kernel_rfl) (by kernel_rfl) rfl ?_) | (with_reducible refine wpList_alloc_st (t := 91) hS rfl rfl ed ?_; clear hS; intro gd w1 hS) | ((with_reducible refine wpList_storerow_st (t := 91) (n := 3) (vs := [.int .i64 di, .int .i64 dv, .int .i64 ds]) 0 hS rfl rfl rfl rfl (by kernel_rfl) rfl rfl rfl (by kernel_rfl) ?_); clear hS; intro w1 hS; try simp only [List.set_cons_zero, List.set_cons_succ, List.setIfInBounds_toArray, List.take_succ_cons, List.take_zero, List.drop_succ_cons, List.drop_zero, List.nil_append, List.cons_append, List.append_nil, List.drop_nil, List.take_nil, List.length_cons, List.length_nil, Nat.zero_add, Nat.add_zero, Nat.reduceAdd] at hS; have v0 : World.cell? _ ⟨gd, 0, none⟩ = some (.int .i64 di) := hS.cell 0 rfl 0; have v1 : World.cell? _ ⟨gd, 1, none⟩ = some (.int .i64 dv) := hS.cell 0 rfl 1; have v2 : World.cell? _ ⟨gd, 2, none⟩ = some (.int .i64 ds) := hS.cell 0 rfl 2; have y0 : World.cell? _ ⟨gb, 0, none⟩ = some (.int .i64 nx) := hS.cell 1 rfl 0) | (go_at_call 50; (with_reducible refine (cP.out _ hS.below di).mono ?_); rintro _ w3 ⟨rfl, hk9⟩; clear v0 v1 v2 y0; replace hS := hS.keepB hk9; clear hk9; have v0 : World.cell? _ ⟨gd, 0, none⟩ = some (.int .i64 di) := hS.cell 0 rfl 0; have v1 : World.cell? _ ⟨gd, 1, none⟩ = some (.int .i64 dv) := hS.cell 0 rfl 1; have v2 : World.cell? _ ⟨gd, 2, none⟩ = some (.int .i64 ds) := hS.cell 0 rfl 2) | ((with_reducible refine wpList_gloadrow_st (n := 3) 1 hS rfl (by with_unfolding_all rfl) rfl rfl ?_ (by kernel_rfl) rfl rfl ?_); focus (simp [rowB, go_sem]; done)) | ((with_reducible refine wpList_load_st 0 hS rfl rfl rfl rfl ?_ rfl ?_); focus (simp [scalarB, go_sem]; done)))
      go_ret
      exact hnr2.out _ hS.below
    have d3 : decide (dv < 1) = false := decide_eq_false p3
    by_cases p4 : 1099511627776 < dv
    · have d4 : decide (1099511627776 < dv) = true := decide_eq_true p4
      have hnr2 := Lib.hid (hf fun hr => by have := hcon hr; omega)
      clear hcon hnext hf p1 p2 p3 p4 hlk
      go_wp2_with (first | (with_reducible refine wpList_rangerow (t := 91) (n := 3) (range_old hS zr) rfl rfl rfl (by kernel_rfl) (by kernel_rfl) rfl ?_) | (with_reducible refine wpList_alloc_st (t := 91) hS rfl rfl ed ?_; clear hS; intro gd w1 hS) | ((with_reducible refine wpList_storerow_st (t := 91) (n := 3) (vs := [.int .i64 di, .int .i64 dv, .int .i64 ds]) 0 hS rfl rfl rfl rfl (by kernel_rfl) rfl rfl rfl (by kernel_rfl) ?_); clear hS; intro w1 hS; try simp only [List.set_cons_zero, List.set_cons_succ, List.setIfInBounds_toArray, List.take_succ_cons, List.take_zero, List.drop_succ_cons, List.drop_zero, List.nil_append, List.cons_append, List.append_nil, List.drop_nil, List.take_nil, List.length_cons, List.length_nil, Nat.zero_add, Nat.add_zero, Nat.reduceAdd] at hS; have v0 : World.cell? _ ⟨gd, 0, none⟩ = some (.int .i64 di) := hS.cell 0 rfl 0; have v1 : World.cell? _ ⟨gd, 1, none⟩ = some (.int .i64 dv) := hS.cell 0 rfl 1; have v2 : World.cell? _ ⟨gd, 2, none⟩ = some (.int .i64 ds) := hS.cell 0 rfl 2; have y0 : World.cell? _ ⟨gb, 0, none⟩ = some (.int .i64 nx) := hS.cell 1 rfl 0) | (go_at_call 50; (with_reducible refine (cP.out _ hS.below di).mono ?_); rintro _ w3 ⟨rfl, hk9⟩; clear v0 v1 v2 y0; replace hS := hS.keepB hk9; clear hk9; have v0 : World.cell? _ ⟨gd, 0, none⟩ = some (.int .i64 di) := hS.cell 0 rfl 0; have v1 : World.cell? _ ⟨gd, 1, none⟩ = some (.int .i64 dv) := hS.cell 0 rfl 1; have v2 : World.cell? _ ⟨gd, 2, none⟩ = some (.int .i64 ds) := hS.cell 0 rfl 2) | ((with_reducible refine wpList_gloadrow_st (n := 3) 1 hS rfl (by with_unfolding_all rfl) rfl rfl ?_ (by kernel_rfl) rfl rfl ?_); focus (simp [rowB, go_sem]; done)) | ((with_reducible refine wpList_load_st 0 hS rfl rfl rfl rfl ?_ rfl ?_); focus (simp [scalarB, go_sem]; done)))
      go_ret
      exact hnr2.out _ hS.below
    have d4 : decide (1099511627776 < dv) = false := decide_eq_false p4
    by_cases p5 : ds < 0
    · have d5 : decide (ds < 0) = true := decide_eq_true p5
      have hnr2 := Lib.hid (hf fun hr => by have := hcon hr; omega)
      clear hcon hnext hf p1 p2 p3 p4 p5 hlk
      go_wp2_with (first | (with_reducible refine wpList_rangerow (t := 91) (n := 3) (range_old hS zr) rfl rfl rfl (by kernel_rfl) (by kernel_rfl) rfl ?_) | (with_reducible refine wpList_alloc_st (t := 91) hS rfl rfl ed ?_; clear hS; intro gd w1 hS) | ((with_reducible refine wpList_storerow_st (t := 91) (n := 3) (vs := [.int .i64 di, .int .i64 dv, .int .i64 ds]) 0 hS rfl rfl rfl rfl (by kernel_rfl) rfl rfl rfl (by kernel_rfl) ?_); clear hS; intro w1 hS; try simp only [List.set_cons_zero, List.set_cons_succ, List.setIfInBounds_toArray, List.take_succ_cons, List.take_zero, List.drop_succ_cons, List.drop_zero, List.nil_append, List.cons_append, List.append_nil, List.drop_nil, List.take_nil, List.length_cons, List.length_nil, Nat.zero_add, Nat.add_zero, Nat.reduceAdd] at hS; have v0 : World.cell? _ ⟨gd, 0, none⟩ = some (.int .i64 di) := hS.cell 0 rfl 0; have v1 : World.cell? _ ⟨gd, 1, none⟩ = some (.int .i64 dv) := hS.cell 0 rfl 1; have v2 : World.cell? _ ⟨gd, 2, none⟩ = some (.int .i64 ds) := hS.cell 0 rfl 2; have y0 : World.cell? _ ⟨gb, 0, none⟩ = some (.int .i64 nx) := hS.cell 1 rfl 0) | (go_at_call 50; (with_reducible refine (cP.out _ hS.below di).mono ?_); rintro _ w3 ⟨rfl, hk9⟩; clear v0 v1 v2 y0; replace hS := hS.keepB hk9; clear hk9; have v0 : World.cell? _ ⟨gd, 0, none⟩ = some (.int .i64 di) := hS.cell 0 rfl 0; have v1 : World.cell? _ ⟨gd, 1, none⟩ = some (.int .i64 dv) := hS.cell 0 rfl 1; have v2 : World.cell? _ ⟨gd, 2, none⟩ = some (.int .i64 ds) := hS.cell 0 rfl 2) | ((with_reducible refine wpList_gloadrow_st (n := 3) 1 hS rfl (by with_unfolding_all rfl) rfl rfl ?_ (by kernel_rfl) rfl rfl ?_); focus (simp [rowB, go_sem]; done)) | ((with_reducible refine wpList_load_st 0 hS rfl rfl rfl rfl ?_ rfl ?_); focus (simp [scalarB, go_sem]; done)))
      go_ret
      exact hnr2.out _ hS.below
    have d5 : decide (ds < 0) = false := decide_eq_false p5
    by_cases p6 : 1099511627776 < ds
    · have d6 : decide (1099511627776 < ds) = true := decide_eq_true p6
      have hnr2 := Lib.hid (hf fun hr => by have := hcon hr; omega)
      clear hcon hnext hf p1 p2 p3 p4 p5 p6 hlk
      go_wp2_with (first | (with_reducible refine wpList_rangerow (t := 91) (n := 3) (range_old hS zr) rfl rfl rfl (by kernel_rfl) (by kernel_rfl) rfl ?_) | (with_reducible refine wpList_alloc_st (t := 91) hS rfl rfl ed ?_; clear hS; intro gd w1 hS) | ((with_reducible refine wpList_storerow_st (t := 91) (n := 3) (vs := [.int .i64 di, .int .i64 dv, .int .i64 ds]) 0 hS rfl rfl rfl rfl (by kernel_rfl) rfl rfl rfl (by kernel_rfl) ?_); clear hS; intro w1 hS; try simp only [List.set_cons_zero, List.set_cons_succ, List.setIfInBounds_toArray, List.take_succ_cons, List.take_zero, List.drop_succ_cons, List.drop_zero, List.nil_append, List.cons_append, List.append_nil, List.drop_nil, List.take_nil, List.length_cons, List.length_nil, Nat.zero_add, Nat.add_zero, Nat.reduceAdd] at hS; have v0 : World.cell? _ ⟨gd, 0, none⟩ = some (.int .i64 di) := hS.cell 0 rfl 0; have v1 : World.cell? _ ⟨gd, 1, none⟩ = some (.int .i64 dv) := hS.cell 0 rfl 1; have v2 : World.cell? _ ⟨gd, 2, none⟩ = some (.int .i64 ds) := hS.cell 0 rfl 2; have y0 : World.cell? _ ⟨gb, 0, none⟩ = some (.int .i64 nx) := hS.cell 1 rfl 0) | (go_at_call 50; (with_reducible refine (cP.out _ hS.below di).mono ?_); rintro _ w3 ⟨rfl, hk9⟩; clear v0 v1 v2 y0; replace hS := hS.keepB hk9; clear hk9; have v0 : World.cell? _ ⟨gd, 0, none⟩ = some (.int .i64 di) := hS.cell 0 rfl 0; have v1 : World.cell? _ ⟨gd, 1, none⟩ = some (.int .i64 dv) := hS.cell 0 rfl 1; have v2 : World.cell? _ ⟨gd, 2, none⟩ = some (.int .i64 ds) := hS.cell 0 rfl 2) | ((with_reducible refine wpList_gloadrow_st (n := 3) 1 hS rfl (by with_unfolding_all rfl) rfl rfl ?_ (by kernel_rfl) rfl rfl ?_); focus (simp [rowB, go_sem]; done)) | ((with_reducible refine wpList_load_st 0 hS rfl rfl rfl rfl ?_ rfl ?_); focus (simp [scalarB, go_sem]; done)))
      go_ret
      exact hnr2.out _ hS.below
    have d6 : decide (1099511627776 < ds) = false := decide_eq_false p6
    have hnx1 := Lib.hid (hnext ⟨by omega, by omega, by omega, by omega, by omega, by omega, hlk⟩)
    have hf1 := Lib.hid (fun (q : Nat) (hq : q < k) (hb : ¬ ((D[q]'(by omega)).id ≠ di ∧ (D[q]'(by omega)).seq ≤ ds)) => hf fun hr => hb ((hcon hr).2.2.2.2.2.2.2 q hq))
    clear hcon hnext hf p1 p2 p3 p4 p5 p6 hlk
    go_wp2_with (first | (with_reducible refine wpList_rangerow (t := 91) (n := 3) (range_old hS zr) rfl rfl rfl (by kernel_rfl) (by kernel_rfl) rfl ?_) | (with_reducible refine wpList_alloc_st (t := 91) hS rfl rfl ed ?_; clear hS; intro gd w1 hS) | ((with_reducible refine wpList_storerow_st (t := 91) (n := 3) (vs := [.int .i64 di, .int .i64 dv, .int .i64 ds]) 0 hS rfl rfl rfl rfl (by kernel_rfl) rfl rfl rfl (by kernel_rfl) ?_); clear hS; intro w1 hS; try simp only [List.set_cons_zero, List.set_cons_succ, List.setIfInBounds_toArray, List.take_succ_cons, List.take_zero, List.drop_succ_cons, List.drop_zero, List.nil_append, List.cons_append, List.append_nil, List.drop_nil, List.take_nil, List.length_cons, List.length_nil, Nat.zero_add, Nat.add_zero, Nat.reduceAdd] at hS; have v0 : World.cell? _ ⟨gd, 0, none⟩ = some (.int .i64 di) := hS.cell 0 rfl 0; have v1 : World.cell? _ ⟨gd, 1, none⟩ = some (.int .i64 dv) := hS.cell 0 rfl 1; have v2 : World.cell? _ ⟨gd, 2, none⟩ = some (.int .i64 ds) := hS.cell 0 rfl 2; have y0 : World.cell? _ ⟨gb, 0, none⟩ = some (.int .i64 nx) := hS.cell 1 rfl 0) | (go_at_call 50; (with_reducible refine (cP.out _ hS.below di).mono ?_); rintro _ w3 ⟨rfl, hk9⟩; clear v0 v1 v2 y0; replace hS := hS.keepB hk9; clear hk9; have v0 : World.cell? _ ⟨gd, 0, none⟩ = some (.int .i64 di) := hS.cell 0 rfl 0; have v1 : World.cell? _ ⟨gd, 1, none⟩ = some (.int .i64 dv) := hS.cell 0 rfl 1; have v2 : World.cell? _ ⟨gd, 2, none⟩ = some (.int .i64 ds) := hS.cell 0 rfl 2) | ((with_reducible refine wpList_gloadrow_st (n := 3) 1 hS rfl (by with_unfolding_all rfl) rfl rfl ?_ (by kernel_rfl) rfl rfl ?_); focus (simp [rowB, go_sem]; done)) | ((with_reducible refine wpList_load_st 0 hS rfl rfl rfl rfl ?_ rfl ?_); focus (simp [scalarB, go_sem]; done)))
    clear d1 d2 d3 d4 d5 d6 d0 v0 v1 v2
    go_loopg [6] k (fun gk vx wr => ∃ (q : Nat), q + gk = k ∧ vx = .int .i64 q ∧ Hid (∀ p (hp : p < q) (hpk : p < k), (D[p]'(by omega)).id ≠ di ∧ (D[p]'(by omega)).seq ≤ ds) ∧ St w [] [Ch.blk gd 91 #[.int .i64 di, .int .i64 dv, .int .i64 ds], Ch.blk gb 51 #[.int .i64 nx, .slice ca n cc, .slice (some ⟨b, off, none⟩) m dc]] wr)
    case atStart => exact ⟨0, Nat.zero_add _, rfl, Lib.hid (fun p hp => absurd hp (Nat.not_lt_zero _)), hS⟩
    case round =>
     clear hS
     obtain ⟨q, hq, rfl, hin, hS⟩ := hrel
     by_cases hlt : q < k
     case neg =>
      have hdk1 := Lib.hid (hnx1.out fun p hp => hin.out p (by omega) hp)
      go_wp2_with fail
      go_roundg (m - (k + 1))
      case measure => omega
      case rel => exact ⟨k + 1, by omega, by go_num, hdk1, hS.drop⟩
     have hql : q < D.length := by omega
     have hrq := hd.out.rowb hdlens.out q hql
     have hbad := fun h => hf1.out q hlt h
     have hnin : ((D[q].id ≠ di ∧ D[q].seq ≤ ds)) → ∀ p (hp : p < q + 1) (hpk : p < k), (D[p]'(by omega)).id ≠ di ∧ (D[p]'(by omega)).seq ≤ ds := fun h p hp hpk => by
      by_cases e : p = q
      · subst e; exact h
      · exact hin.out p (by omega) hpk
     have z0 : w.cell? ⟨b, off + q * 3, none⟩ = some (.int .i64 D[q].id) := by simpa using hrq 0 _ rfl
     have z2 : w.cell? ⟨b, off + q * 3 + 2, none⟩ = some (.int .i64 D[q].seq) := hrq 2 _ rfl
     have hqm : q < m := by omega
     have hqm2 : (q : Int) < (m : Int) := by omega
     clear hrq
     go_wp2_with fail
     have kd := hS.kblk 0 rfl
     have kb := hS.kblk 1 rfl
     have kz0 := hS.kold0 z0
     have kz2 := hS.kold0 z2
     generalize D[q].id = qi at *
     generalize D[q].seq = qs at *
     by_cases e1 : qi = di
     · have b1 : (qi == di) = true := by simpa using e1
       have hnr2 := Lib.hid (hbad fun h => h.1 e1)
       clear hbad hnin e1
       refine mixs_begin (by kernel_rfl) hS ?_
       clear hS
       intro w2 hS
       refine tk 0 ?_
       refine tk 1 ?_
       refine tk 2 ?_
       refine tk 3 ?_
       refine tk 4 ?_
       refine tk 5 ?_
       refine tk 6 ?_
       refine tk 7 ?_
       refine tk 8 ?_
       refine tk 9 ?_
       refine sk 10 ?_
       refine sk 11 ?_
       refine sk 12 ?_
       refine sk 13 ?_
       refine sk 14 ?_
       refine sk 15 ?_
       refine sk 16 ?_
       refine sk 17 ?_
       refine sk 18 ?_
       refine tk 19 ?_
       refine wpAnyH_done (by kernel_rfl) ?_ _
       clear kd kb kz0 kz2
       go_wp2_with fail
       go_ret
       exact hnr2.out _ hS.below
     have b1 : (qi == di) = false := by simpa using e1
     by_cases e2 : ds < qs
     · have b2 : decide (ds < qs) = true := decide_eq_true e2
       have hnr2 := Lib.hid (hbad fun h => by have := h.2; omega)
       clear hbad hnin e1 e2
       refine mixs_begin (by kernel_rfl) hS ?_
       clear hS
       intro w2 hS
       refine tk 0 ?_
       refine tk 1 ?_
       refine tk 2 ?_
       refine tk 3 ?_
       refine tk 4 ?_
       refine tk 5 ?_
       refine tk 6 ?_
       refine tk 7 ?_
       refine tk 8 ?_
       refine tk 9 ?_
       refine tk 10 ?_
       refine tk 11 ?_
       refine tk 12 ?_
       refine tk 13 ?_
       refine tk 14 ?_
       refine tk 15 ?_
       refine tk 16 ?_
       refine tk 17 ?_
       refine tk 18 ?_
       refine tk 19 ?_
       refine wpAnyH_done (by kernel_rfl) ?_ _
       clear kd kb kz0 kz2
       go_wp2_with fail
       go_ret
       exact hnr2.out _ hS.below
     have b2 : decide (ds < qs) = false := decide_eq_false e2
     have hnin1 := Lib.hid (hnin ⟨e1, by omega⟩)
     clear hbad hnin e1 e2
     refine mixs_begin (by kernel_rfl) hS ?_
     clear hS
     intro w2 hS
     refine tk 0 ?_
     refine tk 1 ?_
     refine tk 2 ?_
     refine tk 3 ?_
     refine tk 4 ?_
     refine tk 5 ?_
     refine tk 6 ?_
     refine tk 7 ?_
     refine tk 8 ?_
     refine tk 9 ?_
     refine tk 10 ?_
     refine tk 11 ?_
     refine tk 12 ?_
     refine tk 13 ?_
     refine tk 14 ?_
     refine tk 15 ?_
     refine tk 16 ?_
     refine tk 17 ?_
     refine tk 18 ?_
     refine tk 19 ?_
     refine wpAnyH_done (by kernel_rfl) ?_ _
     clear kd kb kz0 kz2
     go_wp2_with fail
     go_roundg (k - (q + 1))
     case measure => omega
     case rel => exact ⟨q + 1, by omega, by go_num, hnin1, hS⟩
  have hjl : j < M.length := by rw [hMn.out]; exact hlt
  obtain ⟨b, off, rfl⟩ := hbase.out (by omega)
  have hrow := hl.out.rowb hlens.out j hjl
  have hf8 := hfl.out _ (List.getElem_mem hjl)
  have hcl := hlens.out _ (List.getElem_mem hjl)
  have cK := Lib.hid fun W => rckc_any M[j] hf8 W
  have hgo := cardsGo_snoc nx M[j] (M.take j) 0
  rw [← List.take_succ_eq_append_getElem hjl, hg.out, Bool.true_and] at hgo
  have hgo : cardsGo nx 0 (M.take (j + 1)) = (M[j].ok && (decide (lastId (M.take j) < M[j].id) && decide (M[j].id < nx))) := hgo
  have hnr : cardsGo nx 0 (M.take (j + 1)) = false → ∀ W, Below w.heap.size w W → Ending.returned (.bool false) = .returned (.bool RR) ∧ Below w.heap.size w W := fun h1 W h2 => hno.out (right_no_cards (s := ⟨nx, M, D⟩) (j + 1) h1) W h2
  rw [hgo] at hnr
  have hpos : M[j].ok = true → 1 ≤ M[j].id := fun h => by
   unfold Cd.ok at h
   rw [Bool.and_eq_true] at h
   have := of_decide_eq_true h.1
   omega
  have z0 : w.cell? ⟨b, off + j * 27, none⟩ = some (.int .i64 M[j].id) := by simpa using hrow 0 _ rfl
  have hprev : 0 < j → ∃ pi : Int, lastId (M.take j) = pi ∧ w.cell? ⟨b, off + (j - 1) * 27, none⟩ = some (.int .i64 pi) := fun h0 => ⟨_, lastId_take h0 (by omega), by simpa using hl.out.rowb hlens.out (j - 1) (by omega) 0 _ rfl⟩
  have hcsz : sizeB Tryz.prog 58 27 = true := by kernel_rfl
  go_wp2_with (((with_reducible refine wpList_load_st 0 hS rfl rfl rfl rfl ?_ rfl ?_); focus (simp [scalarB, go_sem]; done)))
  have kb := hS.kblk 0 rfl
  have kr := hS.kold_row (P := Tryz.prog) (t := 58) hrow (by kernel_rfl) hcsz hcl
  have kz := hS.kold0 z0
  clear hrow
  generalize cdRow M[j] = CR at *
  generalize M[j].id = ci at *
  generalize M[j].ok = ck at *
  cases ck
  case false =>
   have hnr1 := Lib.hid (hnr (by simp))
   clear hnr hgo hpos hprev
   refine mixs_begin (by kernel_rfl) hS ?_
   clear hS
   intro w2 hS
   refine tk 0 ?_
   refine tk 1 ?_
   refine tk 2 ?_
   refine tk 3 ?_
   refine tkr 4 kr ?_
   refine mixs_one 5 (by kernel_rfl) rfl (fun K hK => ?_)
   go_simp
   ( (go_at_call 101; (with_reducible refine (cK.out _).mono ?_); rintro _ w3 ⟨rfl, hk9⟩; replace hS := hS.keepB hk9; clear hk9) )
   try clear hC
   refine cl hK (fun hC => ?_)
   clear hK K
   refine tk 6 ?_
   refine tk 7 ?_
   refine sk 8 ?_
   refine sk 9 ?_
   refine sk 10 ?_
   refine sk 11 ?_
   refine sk 12 ?_
   refine sk 13 ?_
   refine sk 14 ?_
   refine sk 15 ?_
   refine sk 16 ?_
   refine tk 17 ?_
   refine tk 18 ?_
   refine sk 19 ?_
   refine sk 20 ?_
   refine sk 21 ?_
   refine sk 22 ?_
   refine sk 23 ?_
   refine sk 24 ?_
   refine sk 25 ?_
   refine sk 26 ?_
   refine sk 27 ?_
   refine sk 28 ?_
   refine sk 29 ?_
   refine sk 30 ?_
   refine sk 31 ?_
   refine sk 32 ?_
   refine sk 33 ?_
   refine sk 34 ?_
   refine sk 35 ?_
   refine sk 36 ?_
   refine tk 37 ?_
   refine wpAnyH_done (by kernel_rfl) ?_ _
   clear kb kr kz
   go_wp2_with fail
   go_ret
   exact hnr1.out _ hS.below
  have hpos := hpos rfl
  by_cases h2 : nx ≤ ci
  · have d2 : decide (nx ≤ ci) = true := decide_eq_true h2
    have hnr1 := Lib.hid (hnr (by simp; omega))
    clear hnr hgo hpos hprev h2
    refine mixs_begin (by kernel_rfl) hS ?_
    clear hS
    intro w2 hS
    refine tk 0 ?_
    refine tk 1 ?_
    refine tk 2 ?_
    refine tk 3 ?_
    refine tkr 4 kr ?_
    refine mixs_one 5 (by kernel_rfl) rfl (fun K hK => ?_)
    go_simp
    ( (go_at_call 101; (with_reducible refine (cK.out _).mono ?_); rintro _ w3 ⟨rfl, hk9⟩; replace hS := hS.keepB hk9; clear hk9) )
    try clear hC
    refine cl hK (fun hC => ?_)
    clear hK K
    refine tk 6 ?_
    refine tk 7 ?_
    refine tk 8 ?_
    refine tk 9 ?_
    refine tk 10 ?_
    refine tk 11 ?_
    refine tk 12 ?_
    refine tk 13 ?_
    refine tk 14 ?_
    refine tk 15 ?_
    refine tk 16 ?_
    refine tk 17 ?_
    refine tk 18 ?_
    refine sk 19 ?_
    refine sk 20 ?_
    refine sk 21 ?_
    refine sk 22 ?_
    refine sk 23 ?_
    refine sk 24 ?_
    refine sk 25 ?_
    refine sk 26 ?_
    refine sk 27 ?_
    refine sk 28 ?_
    refine sk 29 ?_
    refine sk 30 ?_
    refine sk 31 ?_
    refine sk 32 ?_
    refine sk 33 ?_
    refine sk 34 ?_
    refine sk 35 ?_
    refine sk 36 ?_
    refine tk 37 ?_
    refine wpAnyH_done (by kernel_rfl) ?_ _
    clear kb kr kz
    go_wp2_with fail
    go_ret
    exact hnr1.out _ hS.below
  have d2 : decide (nx ≤ ci) = false := decide_eq_false h2
  by_cases h0 : 0 < j
  case neg =>
   have d3 : decide ((0 : Int) < (j : Int)) = false := decide_eq_false (by omega)
   have d3b : decide (0 < j) = false := decide_eq_false h0
   have hl0 : lastId (M.take j) = 0 := by rw [show j = 0 by omega]; rfl
   have hgo1 := Lib.hid (show cardsGo nx 0 (M.take (j + 1)) = true by rw [hgo, hl0]; simp; omega)
   clear hnr hgo hpos hprev h2 h0 hl0
   refine mixs_begin (by kernel_rfl) hS ?_
   clear hS
   intro w2 hS
   refine tk 0 ?_
   refine tk 1 ?_
   refine tk 2 ?_
   refine tk 3 ?_
   refine tkr 4 kr ?_
   refine mixs_one 5 (by kernel_rfl) rfl (fun K hK => ?_)
   go_simp
   ( (go_at_call 101; (with_reducible refine (cK.out _).mono ?_); rintro _ w3 ⟨rfl, hk9⟩; replace hS := hS.keepB hk9; clear hk9) )
   try clear hC
   refine cl hK (fun hC => ?_)
   clear hK K
   refine tk 6 ?_
   refine tk 7 ?_
   refine tk 8 ?_
   refine tk 9 ?_
   refine tk 10 ?_
   refine tk 11 ?_
   refine tk 12 ?_
   refine tk 13 ?_
   refine tk 14 ?_
   refine tk 15 ?_
   refine tk 16 ?_
   refine tk 17 ?_
   refine tk 18 ?_
   refine tk 19 ?_
   refine tk 20 ?_
   refine tk 21 ?_
   refine sk 22 ?_
   refine sk 23 ?_
   refine sk 24 ?_
   refine sk 25 ?_
   refine sk 26 ?_
   refine sk 27 ?_
   refine sk 28 ?_
   refine sk 29 ?_
   refine sk 30 ?_
   refine sk 31 ?_
   refine sk 32 ?_
   refine sk 33 ?_
   refine sk 34 ?_
   refine sk 35 ?_
   refine tk 36 ?_
   refine tk 37 ?_
   refine wpAnyH_done (by kernel_rfl) ?_ _
   clear kb kr kz
   go_wp2_with fail
   go_roundg (n - (j + 1))
   case measure => omega
   case rel => exact ⟨j + 1, by omega, by go_num, hgo1, hS⟩
  have d3 : decide ((0 : Int) < (j : Int)) = true := decide_eq_true (by omega)
  have d3b : decide (0 < j) = true := decide_eq_true h0
  obtain ⟨pi, hpi, zp⟩ := hprev h0
  obtain ⟨p, hp⟩ : ∃ p, j - 1 = p := ⟨_, rfl⟩
  rw [hp] at zp
  have hsub : IntKind.i64.wrap ((j : Int) - 1) = (p : Int) := by rw [IntWalk.i64_in _ (by omega)]; omega
  have hpn : p < n := by omega
  have hpn2 : (p : Int) < (n : Int) := by omega
  have kp := hS.kold0 zp
  replace hp := Lib.hid hp
  by_cases h5 : ci ≤ pi
  · have d5 : decide (ci ≤ pi) = true := decide_eq_true h5
    have hnr1 := Lib.hid (hnr (by rw [hpi]; simp; omega))
    clear hnr hgo hpos hpi h2 h0 h5
    refine mixs_begin (by kernel_rfl) hS ?_
    clear hS
    intro w2 hS
    refine tk 0 ?_
    refine tk 1 ?_
    refine tk 2 ?_
    refine tk 3 ?_
    refine tkr 4 kr ?_
    refine mixs_one 5 (by kernel_rfl) rfl (fun K hK => ?_)
    go_simp
    ( (go_at_call 101; (with_reducible refine (cK.out _).mono ?_); rintro _ w3 ⟨rfl, hk9⟩; replace hS := hS.keepB hk9; clear hk9) )
    try clear hC
    refine cl hK (fun hC => ?_)
    clear hK K
    refine tk 6 ?_
    refine tk 7 ?_
    refine tk 8 ?_
    refine tk 9 ?_
    refine tk 10 ?_
    refine tk 11 ?_
    refine tk 12 ?_
    refine tk 13 ?_
    refine tk 14 ?_
    refine tk 15 ?_
    refine tk 16 ?_
    refine tk 17 ?_
    refine tk 18 ?_
    refine tk 19 ?_
    refine tk 20 ?_
    refine tk 21 ?_
    refine tk 22 ?_
    refine tk 23 ?_
    refine tk 24 ?_
    refine tk 25 ?_
    refine tk 26 ?_
    refine tk 27 ?_
    refine tk 28 ?_
    refine tk 29 ?_
    refine tk 30 ?_
    refine tk 31 ?_
    refine tk 32 ?_
    refine tk 33 ?_
    refine tk 34 ?_
    refine tk 35 ?_
    refine tk 36 ?_
    refine tk 37 ?_
    refine wpAnyH_done (by kernel_rfl) ?_ _
    clear kb kr kz
    go_wp2_with fail
    go_ret
    exact hnr1.out _ hS.below
  · have d5 : decide (ci ≤ pi) = false := decide_eq_false h5
    have hgo1 := Lib.hid (show cardsGo nx 0 (M.take (j + 1)) = true by rw [hgo, hpi]; simp; omega)
    clear hnr hgo hpos hpi h2 h0 h5
    refine mixs_begin (by kernel_rfl) hS ?_
    clear hS
    intro w2 hS
    refine tk 0 ?_
    refine tk 1 ?_
    refine tk 2 ?_
    refine tk 3 ?_
    refine tkr 4 kr ?_
    refine mixs_one 5 (by kernel_rfl) rfl (fun K hK => ?_)
    go_simp
    ( (go_at_call 101; (with_reducible refine (cK.out _).mono ?_); rintro _ w3 ⟨rfl, hk9⟩; replace hS := hS.keepB hk9; clear hk9) )
    try clear hC
    refine cl hK (fun hC => ?_)
    clear hK K
    refine tk 6 ?_
    refine tk 7 ?_
    refine tk 8 ?_
    refine tk 9 ?_
    refine tk 10 ?_
    refine tk 11 ?_
    refine tk 12 ?_
    refine tk 13 ?_
    refine tk 14 ?_
    refine tk 15 ?_
    refine tk 16 ?_
    refine tk 17 ?_
    refine tk 18 ?_
    refine tk 19 ?_
    refine tk 20 ?_
    refine tk 21 ?_
    refine tk 22 ?_
    refine tk 23 ?_
    refine tk 24 ?_
    refine tk 25 ?_
    refine tk 26 ?_
    refine tk 27 ?_
    refine tk 28 ?_
    refine tk 29 ?_
    refine tk 30 ?_
    refine tk 31 ?_
    refine tk 32 ?_
    refine tk 33 ?_
    refine tk 34 ?_
    refine tk 35 ?_
    refine tk 36 ?_
    refine tk 37 ?_
    refine wpAnyH_done (by kernel_rfl) ?_ _
    clear kb kr kz
    go_wp2_with fail
    go_roundg (n - (j + 1))
    case measure => omega
    case rel => exact ⟨j + 1, by omega, by go_num, hgo1, hS⟩
end Go.Proofs.YtneolmnpebiifaaGreatDoor
end
