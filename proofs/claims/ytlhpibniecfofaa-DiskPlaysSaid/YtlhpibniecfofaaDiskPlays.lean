/- The law DiskPlays: the walk of it. -/
import Derived.Test.YtlhpibniecfofaaDiskPlay2
set_option linter.unusedSimpArgs false
set_option linter.unusedVariables false
namespace Go.Proofs.Ytlhpibniecfofaa
open Go.RowKit Go.Ofp
set_option linter.unusedVariables false
set_option maxRecDepth 100000
set_option maxHeartbeats 4000000

theorem plays_nodisk (size : Int) (a : Option Addr) (n c : Nat) (w : World) (hs : size < 1 ∨ 2048 < size) :
    Calls Try.prog 3 #[.int .i64 size, .slice a n c] w fun e w' => e = .returned (.bool true) ∧ Below w.heap.size w w' := by
  have cN := new_nil size w hs
  have hS := St.start w
  replace cN := Lib.hid cN
  rcases hs with hs | hs
  · go_enter Try.func3, Try.ntmps3
    go_wp2_with (first
      | (go_at_call 11; (with_reducible refine cN.out.mono ?_); rintro _ w2 ⟨rfl, rfl⟩)
      | (go_at_call 12; (with_reducible refine (awake35_any _).mono ?_); rintro _ w9 ⟨rfl, hb9⟩; have hS1 := hS.keepB hb9; clear hb9 hS; have hS := hS1; clear hS1))
    go_ret
    exact ⟨rfl, hS.below⟩
  · have h1 : 1 ≤ size := by omega
    have h8 : 8 < size := by omega
    go_enter Try.func3, Try.ntmps3
    go_wp2_with (first
      | (go_at_call 11; (with_reducible refine cN.out.mono ?_); rintro _ w2 ⟨rfl, rfl⟩)
      | (go_at_call 12; (with_reducible refine (awake35_any _).mono ?_); rintro _ w9 ⟨rfl, hb9⟩; have hS1 := hS.keepB hb9; clear hb9 hS; have hS := hS1; clear hS1))
    go_ret
    exact ⟨rfl, hS.below⟩

theorem plays_big (size : Nat) (a : Option Addr) (n c : Nat) (w : World) (h8 : 8 < size) (hm : size ≤ 2048) :
    Calls Try.prog 3 #[.int .i64 size, .slice a n c] w fun e w' => e = .returned (.bool true) ∧ Below w.heap.size w w' := by
  have cN := new_any size w (by omega) hm
  replace cN := Lib.hid cN
  have h1 : 1 ≤ size := by omega
  have d2 : decide ((size : Int) ≤ 2048) = true := decide_eq_true (by omega)
  go_enter Try.func3, Try.ntmps3
  go_wp2_with (first
    | (go_at_call 11; (with_reducible refine cN.out.mono ?_); rintro _ w2 ⟨bd, sv, wv, rfl, hS⟩)
    | (go_at_call 12; (with_reducible refine (awake35_any _).mono ?_); rintro _ w9 ⟨rfl, hb9⟩; have hS1 := hS.keepB hb9; clear hb9 hS; have hS := hS1; clear hS1))
  go_ret
  exact ⟨rfl, hS.below⟩

theorem plays_main (size : Nat) (a : Option Addr) (n c : Nat) (l : List Ac) (w : World) (h1 : Acs w a n c l) (hs1 : 1 ≤ size) (hs8 : size ≤ 8) :
    Calls Try.prog 3 #[.int .i64 size, .slice a n c] w fun e w' => e = .returned (.bool true) ∧ Below w.heap.size w w' := by
  have cN := new_any size w hs1 (by omega)
  have hlen : (Dk.new size).sec.length = size := by simp [Dk.new]
  have cM : ∀ W : World, Calls Try.prog 13 #[.int .i64 size] W fun e w' => ∃ sv, e = .returned (.agg #[sv, .slice none 0 0, .int .i64 (-1), .bool false]) ∧ St W [] [Ch.row 9 1 sv (Dk.new size).sec.length ((Dk.new size).sec.map rsc)] w' := fun W => by
    have := rnew_any size W (by omega)
    rw [hlen]
    exact this
  have hfit0 := Dk.Fit.new size (by omega)
  have hfu : (Dk.new size).fuse = -1 := rfl
  have hde : (Dk.new size).dead = false := rfl
  have hwa : (Dk.new size).wait = [] := rfl
  have ez := elem_rdk
  generalize Dk.new size = D0 at *
  clear hlen
  replace cN := Lib.hid cN
  replace cM := Lib.hid cM
  replace hfit0 := Lib.hid hfit0
  replace hfu := Lib.hid hfu
  replace hde := Lib.hid hde
  replace hwa := Lib.hid hwa
  have d2 : decide ((size : Int) ≤ 2048) = true := decide_eq_true (by omega)
  have hnm : n ≤ 9223372036854775807 := by have := h1.le; have := h1.cm; unfold maxLen at this; omega
  go_enter Try.func3, Try.ntmps3
  go_wp2_with (first
    | (go_at_call 11; (with_reducible refine cN.out.mono ?_); rintro _ w2 ⟨bd, sv, wv, rfl, hS⟩)
    | (go_at_call 13; (with_reducible refine (cM.out _).mono ?_); rintro _ w3 ⟨rsv, rfl, hk⟩; have hS1 := hS.made hk; clear hS hk; have hS := hS1; clear hS1; obtain ⟨ra, rc, rfl, -⟩ := hS.row 0 rfl)
    | (with_reducible refine wpList_box_st hS rfl rfl rfl ?_; intro g1 w1 hS1; clear hS; replace hS := hS1; clear hS1) | (with_reducible refine wpList_box1_st hS rfl rfl rfl ?_; intro g1 w1 hS1; clear hS; replace hS := hS1; clear hS1) | (with_reducible refine wpList_alloc_st hS rfl rfl (by assumption) ?_; intro g1 w1 hS1; clear hS; replace hS := hS1; clear hS1) | (with_reducible refine wpList_alloc1_st hS rfl rfl (by assumption) rfl ?_; intro g1 w1 hS1; clear hS; replace hS := hS1; clear hS1) | ((with_reducible refine wpList_load_st 0 hS rfl rfl rfl rfl ?_ rfl ?_); focus (simp [scalarB, go_sem]; done)) | ((with_reducible refine wpList_loadall_st 0 hS rfl rfl rfl rfl ?_ (by kernel_rfl) ?_); focus (simp [rowB, go_sem]; done)) | ((with_reducible refine wpList_store_st 0 hS rfl rfl rfl rfl (by kernel_rfl) rfl rfl ?_); intro w1 hS1; clear hS; replace hS := hS1; clear hS1; try simp only [List.set_cons_zero, List.set_cons_succ, List.setIfInBounds_toArray, List.take_succ_cons, List.take_zero, List.drop_succ_cons, List.drop_zero, List.nil_append, List.cons_append, List.append_nil, List.drop_nil, List.take_nil, List.length_cons, List.length_nil, Nat.zero_add, Nat.add_zero, Nat.reduceAdd] at hS) | ((with_reducible refine wpList_storerow_st 0 hS rfl rfl rfl rfl (by kernel_rfl) rfl rfl rfl rfl ?_); intro w1 hS1; clear hS; replace hS := hS1; clear hS1; try simp only [List.set_cons_zero, List.set_cons_succ, List.setIfInBounds_toArray, List.take_succ_cons, List.take_zero, List.drop_succ_cons, List.drop_zero, List.nil_append, List.cons_append, List.append_nil, List.drop_nil, List.take_nil, List.length_cons, List.length_nil, Nat.zero_add, Nat.add_zero, Nat.reduceAdd] at hS))
  have hS1 : St w [] (dks bd sv wv D0 ++ (rdk g1 (.slice ra D0.sec.length rc) (.slice none 0 0) D0 ++ [])) w1 := by
    have h2 := (hS.nilrow 141 2).rot3
    have h3 := St.rot (A := [_, _, _]) (B := dks bd sv wv D0) h2
    unfold rdk
    rw [hfu.out, hde.out, hwa.out, List.append_nil]
    exact h3
  clear hS
  have hS := hS1
  clear hS1 cN cM ez hfu hde hwa
  go_loopg [5, 7] n (fun gk vd vx wr => ∃ (j bd : Nat) (sv wv rsv rwv : Value) (D : Dk), j + gk = n ∧ j ≤ 100 ∧ vx = .int .i64 j ∧ vd = .pointer (some ⟨bd, 0, none⟩) ∧ Hid (D.Fit size j) ∧ St w [] (dks bd sv wv D ++ (rdk g1 rsv rwv D ++ [])) wr)
  case atStart => exact ⟨0, bd, sv, wv, _, _, D0, Nat.zero_add _, by omega, rfl, rfl, hfit0, hS⟩
  case round =>
    clear hS hfit0
    obtain ⟨j, bd, sv, wv, rsv, rwv, D, hj, hj100, rfl, rfl, hfit, hS⟩ := hrel
    have cB : ∀ W : World, Calls Try.prog 18 #[.int .u8 0, .int .i64 0] W fun e w' => e = .returned (.string (str (List.replicate 64 0))) ∧ Below W.heap.size W w' := fun W => sector_any 0 0 W
    have hZm : (str (List.replicate 64 0)).size ≤ maxLen := by rw [str_size, List.length_replicate]; unfold maxLen; omega
    generalize str (List.replicate 64 0) = Z at *
    replace cB := Lib.hid cB
    have hend : (j < n ∧ j < 100) ∨ ¬ (j < n ∧ j < 100) := Classical.em _
    rcases hend with ⟨hlt, hl1⟩ | hend
    · have hjl : j < l.length := by rw [h1.len]; exact hlt
      obtain ⟨b, off, rfl, hc⟩ := h1.get j hjl
      have hxm := h1.mem l[j] (List.getElem_mem hjl)
      generalize l[j] = x at *
      have p0 : w.cell? ⟨b, off + j * 5, none⟩ = some (.int .i64 x.kind) := hc 0 _ rfl
      have p1 : w.cell? ⟨b, off + j * 5 + 1, none⟩ = some (.int .i64 x.place) := hc 1 _ rfl
      have p2 : w.cell? ⟨b, off + j * 5 + 2, none⟩ = some (.int .i64 x.n) := hc 2 _ rfl
      have p3 : w.cell? ⟨b, off + j * 5 + 3, none⟩ = some (.int .u8 x.c.toNat) := hc 3 _ rfl
      have p4 : w.cell? ⟨b, off + j * 5 + 4, none⟩ = some (.slice x.a x.keep.length x.kc) := hc 4 _ rfl
      have q0 := hS.old p0 (by simp)
      have q1 := hS.old p1 (by simp)
      have q2 := hS.old p2 (by simp)
      have q3 := hS.old p3 (by simp)
      have q4 := hS.old p4 (by simp)
      have hap : 0 < x.keep.length → ∀ b o, x.a = some ⟨b, o, none⟩ → b ∉ feet (dks bd sv wv D ++ (rdk g1 rsv rwv D ++ [])) := by
        intro h0 b o e
        obtain ⟨b', o', e', hcc⟩ := hxm.sl 0 (by simpa using h0)
        rw [e] at e'
        cases e'
        exact hS.oldoff (World.block_lt_of_cell? _ _ hcc)
      have hx2 : AcMem wr x := ⟨hxm.sl.old hS (by simp), hxm.le, hxm.cm, hxm.keep, hxm.place, hxm.n⟩
      have hfit' := hfit.out.act x hxm.n
      have cDo := does_any bd sv wv g1 rsv rwv D size j x wr hS.pre0 hfit.out (by omega) (by omega) hx2 hap
      simp only [acRow] at cDo
      generalize D.act x = D1 at *
      have hq : -9223372036854775808 ≤ D1.fuse ∧ D1.fuse ≤ 9223372036854775807 := hfit'.fuse
      have cSa := fun (bd : Nat) (sv wv rsv rwv : Value) (W : World) hh => same_any bd sv wv g1 rsv rwv D1 size (j + 1) [] W w hh hfit' (by omega) (by omega)
      have cT := fun W => sector_any x.c 0 W
      have hTm : (str (List.replicate 64 x.c)).size ≤ maxLen := by rw [str_size, List.length_replicate]; unfold maxLen; omega
      have e64 : (if (0 : Int) = 7 then 63 else 64) = 64 := rfl
      rw [e64] at cT
      clear e64
      have hfw := hfit'.write 0 (str (List.replicate 64 x.c)).data.toList
      have cW := fun (bd : Nat) (sv wv : Value) (W : World) hh => write_any bd sv wv D1 0 (str (List.replicate 64 x.c)) W hh hTm (by have := hfit'.wait; omega) hq
      generalize str (List.replicate 64 x.c) = T at *
      generalize (D1.write 0 T.data.toList).1 = D2 at *
      have cY := fun (bd : Nat) (sv wv : Value) (W : World) hh => sync_any bd sv wv D2 W hh hfw.ok (by have := hfw.wait; omega) hfw.fuse
      have cC := fun (bd : Nat) (sv wv : Value) (W : World) hh => dclone_any bd sv wv D1 W hh (by have := hfit'.sec; omega) (by have := hfit'.wait; omega)
      replace cDo := Lib.hid cDo
      replace cSa := Lib.hid cSa
      replace cT := Lib.hid cT
      replace cW := Lib.hid cW
      replace cY := Lib.hid cY
      replace cC := Lib.hid cC
      replace hfit' := Lib.hid hfit'
      replace h1 := Lib.hid h1
      clear hx2 hxm hap hc hfit hq hfw hTm cB hZm p1 p2 p4
      by_cases hk3 : 3 < x.kind
      · go_wp2_with (first
          | (go_at_call 14; (with_reducible refine cDo.out.mono ?_); rintro _ w5 ⟨rfl, sv5, wv5, rsv5, rwv5, hk⟩; have hS1 := hS.call0 hk; clear hS hk q0 q1 q2 q3 q4; have hS := hS1; clear hS1; obtain ⟨a4, c4, rfl, -⟩ := hS.row 4 rfl; obtain ⟨a5, c5, rfl, -⟩ := hS.row 5 rfl; have hcl := hS.cell 3 rfl; have q0 := hS.old p0 (by simp); have q3 := hS.old p3 (by simp))
          | (go_at_call 15; (with_reducible refine (cSa.out _ _ _ _ _ _ hS).mono ?_); clear hcl hS q0 q3; rintro _ w6 ⟨rfl, hS⟩; have hcl := hS.cell 3 rfl; have q0 := hS.old p0 (by simp); have q3 := hS.old p3 (by simp))
          | (go_at_call 16; (with_reducible refine (cC.out _ _ _ _ (hS.pre _ _ rfl)).mono ?_); rintro _ w7 ⟨bd7, sv7, wv7, rfl, hk⟩; have hS1 := hS.made hk; clear hS hk q0 q3 hcl; have hS := hS1; clear hS1; have q3 := hS.old p3 (by simp))
          | (go_at_call 18; (with_reducible refine (cT.out _).mono ?_); rintro _ w8 ⟨rfl, hb8⟩; have hS1 := hS.keepB hb8; clear hb8 hS; have hS := hS1; clear hS1)
          | (go_at_call 17; (with_reducible refine (cW.out _ _ _ _ hS.preM).mono ?_); rintro _ w9 ⟨rfl, wv9, hk⟩; have hS1 := hS.callM hk; clear hS hk q3; have hS := hS1; clear hS1)
          | (go_at_call 19; (with_reducible refine (cY.out _ _ _ _ hS.preM).mono ?_); rintro _ w10 ⟨rfl, wv10, hk⟩; have hS1 := (hS.callM hk).dropM; clear hS hk; have hS := hS1; clear hS1; have hcl := hS.cell 3 rfl; have q0 := hS.old p0 (by simp); have q3 := hS.old p3 (by simp)))
        go_roundg (n - (j + 1))
        case measure => omega
        case rel => exact ⟨j + 1, _, _, _, _, _, D1, by omega, by omega, by go_num, rfl, hfit', hS⟩
      · go_wp2_with (first
          | (go_at_call 14; (with_reducible refine cDo.out.mono ?_); rintro _ w5 ⟨rfl, sv5, wv5, rsv5, rwv5, hk⟩; have hS1 := hS.call0 hk; clear hS hk q0 q1 q2 q3 q4; have hS := hS1; clear hS1; obtain ⟨a4, c4, rfl, -⟩ := hS.row 4 rfl; obtain ⟨a5, c5, rfl, -⟩ := hS.row 5 rfl; have hcl := hS.cell 3 rfl; have q0 := hS.old p0 (by simp); have q3 := hS.old p3 (by simp))
          | (go_at_call 15; (with_reducible refine (cSa.out _ _ _ _ _ _ hS).mono ?_); clear hcl hS q0 q3; rintro _ w6 ⟨rfl, hS⟩; have hcl := hS.cell 3 rfl; have q0 := hS.old p0 (by simp); have q3 := hS.old p3 (by simp)))
        go_roundg (n - (j + 1))
        case measure => omega
        case rel => exact ⟨j + 1, _, _, _, _, _, D1, by omega, by omega, by go_num, rfl, hfit', hS⟩
    · have cF := fun W => fuse_nil 1 W
      have cK := fun W => crash_nil none 0 0 W
      have cR := fun W => read_nil 0 W
      have cW := fun W => write_nil 0 Z W
      have cS := fun W => sync_nil W
      replace cF := Lib.hid cF
      replace cK := Lib.hid cK
      replace cR := Lib.hid cR
      replace cW := Lib.hid cW
      replace cS := Lib.hid cS
      replace h1 := Lib.hid h1
      have dx : (decide ((j : Int) < (n : Int)) && decide ((j : Int) < 100)) = false := by
        rw [Bool.and_eq_false_iff, decide_eq_false_iff_not, decide_eq_false_iff_not]
        omega
      by_cases hlt : j < n
      · have hl1 : 100 ≤ j := by omega
        clear dx hend
        go_wp2_with (first
          | (go_at_call 20; (with_reducible refine (cF.out _).mono ?_); rintro _ _ ⟨rfl, rfl⟩)
          | (go_at_call 21; (with_reducible refine (cK.out _).mono ?_); rintro _ _ ⟨rfl, rfl⟩)
          | (go_at_call 22; (with_reducible refine (cR.out _).mono ?_); rintro _ _ ⟨rfl, rfl⟩)
          | (go_at_call 18; (with_reducible refine (cB.out _).mono ?_); rintro _ w8 ⟨rfl, hb8⟩; have hS1 := hS.keepB hb8; clear hb8 hS; have hS := hS1; clear hS1)
          | (go_at_call 17; (with_reducible refine (cW.out _).mono ?_); rintro _ _ ⟨rfl, rfl⟩)
          | (go_at_call 19; (with_reducible refine (cS.out _).mono ?_); rintro _ _ ⟨rfl, rfl⟩)
          | (go_at_call 23; (with_reducible refine (size_nil _).mono ?_); rintro _ _ ⟨rfl, rfl⟩)
          | (go_at_call 24; (with_reducible refine (dead_nil _).mono ?_); rintro _ _ ⟨rfl, rfl⟩)
          | (go_at_call 25; (with_reducible refine (waiting_nil _).mono ?_); rintro _ _ ⟨rfl, rfl⟩)
          | (go_at_call 16; (with_reducible refine (dclone_nil _).mono ?_); rintro _ _ ⟨rfl, rfl⟩)
          | (go_at_call 12; (with_reducible refine (awake35_any _).mono ?_); rintro _ w9 ⟨rfl, hb9⟩; have hS1 := hS.keepB hb9; clear hb9 hS; have hS := hS1; clear hS1))
        go_ret
        exact ⟨rfl, hS.below⟩
      · clear dx hend
        go_wp2_with (first
          | (go_at_call 20; (with_reducible refine (cF.out _).mono ?_); rintro _ _ ⟨rfl, rfl⟩)
          | (go_at_call 21; (with_reducible refine (cK.out _).mono ?_); rintro _ _ ⟨rfl, rfl⟩)
          | (go_at_call 22; (with_reducible refine (cR.out _).mono ?_); rintro _ _ ⟨rfl, rfl⟩)
          | (go_at_call 18; (with_reducible refine (cB.out _).mono ?_); rintro _ w8 ⟨rfl, hb8⟩; have hS1 := hS.keepB hb8; clear hb8 hS; have hS := hS1; clear hS1)
          | (go_at_call 17; (with_reducible refine (cW.out _).mono ?_); rintro _ _ ⟨rfl, rfl⟩)
          | (go_at_call 19; (with_reducible refine (cS.out _).mono ?_); rintro _ _ ⟨rfl, rfl⟩)
          | (go_at_call 23; (with_reducible refine (size_nil _).mono ?_); rintro _ _ ⟨rfl, rfl⟩)
          | (go_at_call 24; (with_reducible refine (dead_nil _).mono ?_); rintro _ _ ⟨rfl, rfl⟩)
          | (go_at_call 25; (with_reducible refine (waiting_nil _).mono ?_); rintro _ _ ⟨rfl, rfl⟩)
          | (go_at_call 16; (with_reducible refine (dclone_nil _).mono ?_); rintro _ _ ⟨rfl, rfl⟩)
          | (go_at_call 12; (with_reducible refine (awake35_any _).mono ?_); rintro _ w9 ⟨rfl, hb9⟩; have hS1 := hS.keepB hb9; clear hb9 hS; have hS := hS1; clear hS1))
        go_ret
        exact ⟨rfl, hS.below⟩

theorem plays_any (size : Int) (a : Option Addr) (n c : Nat) (l : List Ac) (w : World) (h1 : Acs w a n c l) :
    Calls Try.prog 3 #[.int .i64 size, .slice a n c] w fun e w' => e = .returned (.bool true) ∧ Below w.heap.size w w' := by
  by_cases hs : size < 1 ∨ 2048 < size
  · exact plays_nodisk size a n c w hs
  · obtain ⟨k, rfl⟩ := Int.eq_ofNat_of_zero_le (show 0 ≤ size by omega)
    by_cases h8 : k ≤ 8
    · exact plays_main k a n c l w h1 (by omega) h8
    · exact plays_big k a n c w (by omega) (by omega)
end Go.Proofs.Ytlhpibniecfofaa
