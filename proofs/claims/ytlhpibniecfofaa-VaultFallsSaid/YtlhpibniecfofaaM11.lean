/- Texts laid together: Root6 Vault5 Piece3 Piece4. -/
import Derived.Test.YtlhpibniecfofaaM10
import Derived.Test.YtlhpibniecfofaaM3
import Derived.Test.YtlhpibniecfofaaM5
import Derived.Test.YtlhpibniecfofaaM6
import Derived.Test.YtlhpibniecfofaaM8
section
/- Roots: Load and Store, in the program and in the reference. -/
set_option linter.unusedSimpArgs false
set_option linter.unusedVariables false
namespace Go.Proofs.Ytlhpibniecfofaa
open Go.RowKit Go.Ofp
set_option linter.unusedVariables false
set_option maxRecDepth 100000
set_option maxHeartbeats 4000000

theorem best_next (d : Dk) (j : Nat) (s : List UInt8) (e : Int) (y : Rt) (ok : Bool) (hr : d.read j = (s, e)) (hg : Rt.getB s = (y, ok)) : d.best (j + 1) = if e = 0 ∧ ok = true ∧ (d.best j).seq < y.seq then y else d.best j := by
  rw [Dk.best, Dk.better, hr]
  simp only [hg]

theorem tload_any (bd : Nat) (sv wv : Value) (d : Dk) (n k : Nat) (w : World) (h : St w (feet (dks bd sv wv d)) (dks bd sv wv d) w) (hfit : d.Fit n k) (hn : n ≤ 100000) (hk : k ≤ 100000) :
    Calls Try.prog 39 #[.pointer (some ⟨bd, 0, none⟩)] w fun e w' => e = .returned (.tuple #[.agg #[.int .i64 d.load.1.seq, .int .i64 d.load.1.life, .int .i64 d.load.1.head], .int .i64 d.load.2]) ∧ St w (feet (dks bd sv wv d)) (dks bd sv wv d) w' := by
  have hS := h
  have hok := hfit.ok
  have hl : d.sec.length ≤ 100000 := by have := hfit.sec; omega
  have hw : d.wait.length ≤ 100000 := by have := hfit.wait; omega
  have hrl := fun i => Dk.read_len hok i
  have ez := elem_root
  have cR := fun i W hh => read_any bd sv wv d i W hh hok hw
  have cD := fun W hh => dead_any bd sv wv d W hh
  have cG := fun (s : List UInt8) W (hs : s.length ≤ 64) => tget_any (str s) W (by rw [str_size]; unfold maxLen; omega)
  simp only [str_data] at cG
  generalize feet (dks bd sv wv d) = F at hS h ⊢
  clear h hfit hok hl hw
  obtain ⟨dd, hdd⟩ : ∃ b, d.dead = b := ⟨_, rfl⟩
  rw [hdd] at cD
  replace cR := Lib.hid cR
  replace cG := Lib.hid cG
  replace cD := Lib.hid cD
  replace hrl := Lib.hid hrl
  have hS1 : St w F (dks bd sv wv d ++ []) w := by rw [List.append_nil]; exact hS
  clear hS
  have hS := hS1
  clear hS1
  cases dd with
  | true =>
    have hld : Hid (d.load = (Rt.none, 15)) := Lib.hid (by rw [Dk.load, if_pos hdd])
    replace hdd := Lib.hid hdd
    go_enter Try.func39, Try.ntmps39
    go_wp2_with (first
      | (go_at_call 24; have hP := hS.preM (A := [_]) (B := dks bd sv wv d) (R := []); (with_reducible refine (cD.out _ hP).mono ?_); rintro _ _ ⟨rfl, rfl⟩; clear hP)
      | (with_reducible refine wpList_box_st hS rfl rfl rfl ?_; intro g1 w1 hS1; clear hS; replace hS := hS1; clear hS1) | (with_reducible refine wpList_box1_st hS rfl rfl rfl ?_; intro g1 w1 hS1; clear hS; replace hS := hS1; clear hS1) | (with_reducible refine wpList_alloc_st hS rfl rfl (by assumption) ?_; intro g1 w1 hS1; clear hS; replace hS := hS1; clear hS1) | (with_reducible refine wpList_alloc1_st hS rfl rfl (by assumption) rfl ?_; intro g1 w1 hS1; clear hS; replace hS := hS1; clear hS1) | ((with_reducible refine wpList_load_st 0 hS rfl rfl rfl rfl ?_ rfl ?_); focus (simp [scalarB, go_sem]; done)) | ((with_reducible refine wpList_loadall_st 0 hS rfl rfl rfl rfl ?_ (by kernel_rfl) ?_); focus (simp [rowB, go_sem]; done)) | ((with_reducible refine wpList_store_st 0 hS rfl rfl rfl rfl (by kernel_rfl) rfl rfl ?_); intro w1 hS1; clear hS; replace hS := hS1; clear hS1; try simp only [List.set_cons_zero, List.set_cons_succ, List.setIfInBounds_toArray, List.take_succ_cons, List.take_zero, List.drop_succ_cons, List.drop_zero, List.nil_append, List.cons_append, List.append_nil, List.drop_nil, List.take_nil, List.length_cons, List.length_nil, Nat.zero_add, Nat.add_zero, Nat.reduceAdd] at hS) | ((with_reducible refine wpList_storerow_st 0 hS rfl rfl rfl rfl (by kernel_rfl) rfl rfl rfl rfl ?_); intro w1 hS1; clear hS; replace hS := hS1; clear hS1; try simp only [List.set_cons_zero, List.set_cons_succ, List.setIfInBounds_toArray, List.take_succ_cons, List.take_zero, List.drop_succ_cons, List.drop_zero, List.nil_append, List.cons_append, List.append_nil, List.drop_nil, List.take_nil, List.length_cons, List.length_nil, Nat.zero_add, Nat.add_zero, Nat.reduceAdd] at hS) | ((with_reducible refine wpList_load_st 1 hS rfl rfl rfl rfl ?_ rfl ?_); focus (simp [scalarB, go_sem]; done)) | ((with_reducible refine wpList_loadall_st 1 hS rfl rfl rfl rfl ?_ (by kernel_rfl) ?_); focus (simp [rowB, go_sem]; done)) | ((with_reducible refine wpList_store_st 1 hS rfl rfl rfl rfl (by kernel_rfl) rfl rfl ?_); intro w1 hS1; clear hS; replace hS := hS1; clear hS1; try simp only [List.set_cons_zero, List.set_cons_succ, List.setIfInBounds_toArray, List.take_succ_cons, List.take_zero, List.drop_succ_cons, List.drop_zero, List.nil_append, List.cons_append, List.append_nil, List.drop_nil, List.take_nil, List.length_cons, List.length_nil, Nat.zero_add, Nat.add_zero, Nat.reduceAdd] at hS) | ((with_reducible refine wpList_storerow_st 1 hS rfl rfl rfl rfl (by kernel_rfl) rfl rfl rfl rfl ?_); intro w1 hS1; clear hS; replace hS := hS1; clear hS1; try simp only [List.set_cons_zero, List.set_cons_succ, List.setIfInBounds_toArray, List.take_succ_cons, List.take_zero, List.drop_succ_cons, List.drop_zero, List.nil_append, List.cons_append, List.append_nil, List.drop_nil, List.take_nil, List.length_cons, List.length_nil, Nat.zero_add, Nat.add_zero, Nat.reduceAdd] at hS))
    have c := hS.cell 0 rfl
    exact bodyPost_ret (v := .tuple #[.agg #[.int .i64 0, .int .i64 0, .int .i64 0], .int .i64 15]) (by simp [results, Try.results39, go_sem, c]) rfl ⟨by first | (rw [hld.out]; done) | (rw [hld.out]; rfl), by simpa using hS.drop⟩
  | false =>
    have hld : Hid (d.load = if (d.best 2).seq = 0 then (Rt.none, 16) else (d.best 2, 0)) := Lib.hid (by rw [Dk.load, if_neg (by simp [hdd])])
    replace hdd := Lib.hid hdd
    go_enter Try.func39, Try.ntmps39
    go_wp2_with (first
      | (go_at_call 24; have hP := hS.preM (A := [_]) (B := dks bd sv wv d) (R := []); (with_reducible refine (cD.out _ hP).mono ?_); rintro _ _ ⟨rfl, rfl⟩; clear hP)
      
      | (have hX : St w F ((dks bd sv wv d ++ [])) _ := hS; (with_reducible refine wpList_alloc_st hX rfl rfl ez ?_); intro gr w1 hS1; clear hX hS; have hS := hS1; clear hS1)
      | (with_reducible refine wpList_box_st hS rfl rfl rfl ?_; intro g1 w1 hS1; clear hS; replace hS := hS1; clear hS1) | (with_reducible refine wpList_box1_st hS rfl rfl rfl ?_; intro g1 w1 hS1; clear hS; replace hS := hS1; clear hS1) | (with_reducible refine wpList_alloc_st hS rfl rfl (by assumption) ?_; intro g1 w1 hS1; clear hS; replace hS := hS1; clear hS1) | (with_reducible refine wpList_alloc1_st hS rfl rfl (by assumption) rfl ?_; intro g1 w1 hS1; clear hS; replace hS := hS1; clear hS1) | ((with_reducible refine wpList_load_st 0 hS rfl rfl rfl rfl ?_ rfl ?_); focus (simp [scalarB, go_sem]; done)) | ((with_reducible refine wpList_loadall_st 0 hS rfl rfl rfl rfl ?_ (by kernel_rfl) ?_); focus (simp [rowB, go_sem]; done)) | ((with_reducible refine wpList_store_st 0 hS rfl rfl rfl rfl (by kernel_rfl) rfl rfl ?_); intro w1 hS1; clear hS; replace hS := hS1; clear hS1; try simp only [List.set_cons_zero, List.set_cons_succ, List.setIfInBounds_toArray, List.take_succ_cons, List.take_zero, List.drop_succ_cons, List.drop_zero, List.nil_append, List.cons_append, List.append_nil, List.drop_nil, List.take_nil, List.length_cons, List.length_nil, Nat.zero_add, Nat.add_zero, Nat.reduceAdd] at hS) | ((with_reducible refine wpList_storerow_st 0 hS rfl rfl rfl rfl (by kernel_rfl) rfl rfl rfl rfl ?_); intro w1 hS1; clear hS; replace hS := hS1; clear hS1; try simp only [List.set_cons_zero, List.set_cons_succ, List.setIfInBounds_toArray, List.take_succ_cons, List.take_zero, List.drop_succ_cons, List.drop_zero, List.nil_append, List.cons_append, List.append_nil, List.drop_nil, List.take_nil, List.length_cons, List.length_nil, Nat.zero_add, Nat.add_zero, Nat.reduceAdd] at hS) | ((with_reducible refine wpList_load_st 1 hS rfl rfl rfl rfl ?_ rfl ?_); focus (simp [scalarB, go_sem]; done)) | ((with_reducible refine wpList_loadall_st 1 hS rfl rfl rfl rfl ?_ (by kernel_rfl) ?_); focus (simp [rowB, go_sem]; done)) | ((with_reducible refine wpList_store_st 1 hS rfl rfl rfl rfl (by kernel_rfl) rfl rfl ?_); intro w1 hS1; clear hS; replace hS := hS1; clear hS1; try simp only [List.set_cons_zero, List.set_cons_succ, List.setIfInBounds_toArray, List.take_succ_cons, List.take_zero, List.drop_succ_cons, List.drop_zero, List.nil_append, List.cons_append, List.append_nil, List.drop_nil, List.take_nil, List.length_cons, List.length_nil, Nat.zero_add, Nat.add_zero, Nat.reduceAdd] at hS) | ((with_reducible refine wpList_storerow_st 1 hS rfl rfl rfl rfl (by kernel_rfl) rfl rfl rfl rfl ?_); intro w1 hS1; clear hS; replace hS := hS1; clear hS1; try simp only [List.set_cons_zero, List.set_cons_succ, List.setIfInBounds_toArray, List.take_succ_cons, List.take_zero, List.drop_succ_cons, List.drop_zero, List.nil_append, List.cons_append, List.append_nil, List.drop_nil, List.take_nil, List.length_cons, List.length_nil, Nat.zero_add, Nat.add_zero, Nat.reduceAdd] at hS))
    clear ez
    go_loopg [18] 2 (fun gk vx wr => ∃ (j : Nat) (b : Rt), j + gk = 2 ∧ vx = .int .i64 j ∧ Hid (b = d.best j) ∧ St w F (Ch.blk g1 50 #[.int .i64 b.seq, .int .i64 b.life, .int .i64 b.head] :: Ch.blk gr 50 #[.int .i64 0, .int .i64 0, .int .i64 0] :: (dks bd sv wv d ++ [])) wr)
    case atStart => exact ⟨0, Rt.none, rfl, rfl, Lib.hid rfl, hS⟩
    case round =>
      clear hS
      obtain ⟨j, b, hj, rfl, hb, hS⟩ := hrel
      have ez := elem_root
      by_cases hlt : j < 2
      · obtain ⟨s, e, hr⟩ : ∃ s e, d.read j = (s, e) := ⟨_, _, rfl⟩
        have hsl := hrl.out j
        have cRj := fun W hh => cR.out j W hh
        rw [hr] at hsl cRj
        simp only at hsl cRj
        obtain ⟨y, ok, hg⟩ : ∃ y ok, Rt.getB s = (y, ok) := ⟨_, _, rfl⟩
        have cGj := fun W => cG.out s W hsl
        rw [hg] at cGj
        simp only at cGj
        have hnx := best_next d j s e y ok hr hg
        rw [← hb.out] at hnx
        clear hr hg hsl hb cR cG hrl hld
        replace cRj := Lib.hid cRj
        replace cGj := Lib.hid cGj
        by_cases he : e = 0
        · subst he
          cases ok with
          | false =>
            rw [if_neg (by simp)] at hnx
            replace hnx := Lib.hid hnx
            go_wp2_with (first
              | (go_at_call 22; have hP := hS.preM (A := [_, _]) (B := dks bd sv wv d) (R := []); (with_reducible refine (cRj.out _ hP).mono ?_); rintro _ w5 ⟨rfl, hk⟩; clear hP; have hS1 := hS.callM (A := [_, _]) (R := []) hk; clear hS hk; simp only [List.cons_append, List.nil_append] at hS1; have hS := hS1; clear hS1)
              | (go_at_call 27; (with_reducible refine (cGj.out _).mono ?_); rintro _ w6 ⟨rfl, hb6⟩; have hS1 := hS.keepB hb6; clear hb6 hS; have hS := hS1; clear hS1)
              | ((with_reducible refine wpList_alloc_st hS rfl rfl ez ?_); intro gx w1 hS1; clear hS; have hS := hS1; clear hS1)
              | ((with_reducible refine wpList_storerow_st 0 hS rfl rfl rfl rfl (by kernel_rfl) rfl rfl rfl rfl ?_); intro w1 hS1; clear hS; have hS := hS1; clear hS1; try simp only [List.set_cons_zero, List.set_cons_succ, List.setIfInBounds_toArray, List.take_succ_cons, List.take_zero, List.drop_succ_cons, List.drop_zero, List.nil_append, List.cons_append, List.append_nil, List.drop_nil, List.take_nil, List.length_cons, List.length_nil, Nat.zero_add, Nat.add_zero, Nat.reduceAdd] at hS; have hcl := hS.cell 0 rfl; have hcm := hS.cell 1 rfl)
              | (with_reducible refine wpList_box_st hS rfl rfl rfl ?_; intro g1 w1 hS1; clear hS; replace hS := hS1; clear hS1) | (with_reducible refine wpList_box1_st hS rfl rfl rfl ?_; intro g1 w1 hS1; clear hS; replace hS := hS1; clear hS1) | (with_reducible refine wpList_alloc_st hS rfl rfl (by assumption) ?_; intro g1 w1 hS1; clear hS; replace hS := hS1; clear hS1) | (with_reducible refine wpList_alloc1_st hS rfl rfl (by assumption) rfl ?_; intro g1 w1 hS1; clear hS; replace hS := hS1; clear hS1) | ((with_reducible refine wpList_load_st 0 hS rfl rfl rfl rfl ?_ rfl ?_); focus (simp [scalarB, go_sem]; done)) | ((with_reducible refine wpList_loadall_st 0 hS rfl rfl rfl rfl ?_ (by kernel_rfl) ?_); focus (simp [rowB, go_sem]; done)) | ((with_reducible refine wpList_store_st 0 hS rfl rfl rfl rfl (by kernel_rfl) rfl rfl ?_); intro w1 hS1; clear hS; replace hS := hS1; clear hS1; try simp only [List.set_cons_zero, List.set_cons_succ, List.setIfInBounds_toArray, List.take_succ_cons, List.take_zero, List.drop_succ_cons, List.drop_zero, List.nil_append, List.cons_append, List.append_nil, List.drop_nil, List.take_nil, List.length_cons, List.length_nil, Nat.zero_add, Nat.add_zero, Nat.reduceAdd] at hS) | ((with_reducible refine wpList_storerow_st 0 hS rfl rfl rfl rfl (by kernel_rfl) rfl rfl rfl rfl ?_); intro w1 hS1; clear hS; replace hS := hS1; clear hS1; try simp only [List.set_cons_zero, List.set_cons_succ, List.setIfInBounds_toArray, List.take_succ_cons, List.take_zero, List.drop_succ_cons, List.drop_zero, List.nil_append, List.cons_append, List.append_nil, List.drop_nil, List.take_nil, List.length_cons, List.length_nil, Nat.zero_add, Nat.add_zero, Nat.reduceAdd] at hS) | ((with_reducible refine wpList_load_st 1 hS rfl rfl rfl rfl ?_ rfl ?_); focus (simp [scalarB, go_sem]; done)) | ((with_reducible refine wpList_loadall_st 1 hS rfl rfl rfl rfl ?_ (by kernel_rfl) ?_); focus (simp [rowB, go_sem]; done)) | ((with_reducible refine wpList_store_st 1 hS rfl rfl rfl rfl (by kernel_rfl) rfl rfl ?_); intro w1 hS1; clear hS; replace hS := hS1; clear hS1; try simp only [List.set_cons_zero, List.set_cons_succ, List.setIfInBounds_toArray, List.take_succ_cons, List.take_zero, List.drop_succ_cons, List.drop_zero, List.nil_append, List.cons_append, List.append_nil, List.drop_nil, List.take_nil, List.length_cons, List.length_nil, Nat.zero_add, Nat.add_zero, Nat.reduceAdd] at hS) | ((with_reducible refine wpList_storerow_st 1 hS rfl rfl rfl rfl (by kernel_rfl) rfl rfl rfl rfl ?_); intro w1 hS1; clear hS; replace hS := hS1; clear hS1; try simp only [List.set_cons_zero, List.set_cons_succ, List.setIfInBounds_toArray, List.take_succ_cons, List.take_zero, List.drop_succ_cons, List.drop_zero, List.nil_append, List.cons_append, List.append_nil, List.drop_nil, List.take_nil, List.length_cons, List.length_nil, Nat.zero_add, Nat.add_zero, Nat.reduceAdd] at hS) | ((with_reducible refine wpList_load_st 2 hS rfl rfl rfl rfl ?_ rfl ?_); focus (simp [scalarB, go_sem]; done)) | ((with_reducible refine wpList_loadall_st 2 hS rfl rfl rfl rfl ?_ (by kernel_rfl) ?_); focus (simp [rowB, go_sem]; done)) | ((with_reducible refine wpList_store_st 2 hS rfl rfl rfl rfl (by kernel_rfl) rfl rfl ?_); intro w1 hS1; clear hS; replace hS := hS1; clear hS1; try simp only [List.set_cons_zero, List.set_cons_succ, List.setIfInBounds_toArray, List.take_succ_cons, List.take_zero, List.drop_succ_cons, List.drop_zero, List.nil_append, List.cons_append, List.append_nil, List.drop_nil, List.take_nil, List.length_cons, List.length_nil, Nat.zero_add, Nat.add_zero, Nat.reduceAdd] at hS) | ((with_reducible refine wpList_storerow_st 2 hS rfl rfl rfl rfl (by kernel_rfl) rfl rfl rfl rfl ?_); intro w1 hS1; clear hS; replace hS := hS1; clear hS1; try simp only [List.set_cons_zero, List.set_cons_succ, List.setIfInBounds_toArray, List.take_succ_cons, List.take_zero, List.drop_succ_cons, List.drop_zero, List.nil_append, List.cons_append, List.append_nil, List.drop_nil, List.take_nil, List.length_cons, List.length_nil, Nat.zero_add, Nat.add_zero, Nat.reduceAdd] at hS))
            go_roundg (2 - (j + 1))
            case measure => omega
            case rel => exact ⟨j + 1, b, by omega, by go_num, Lib.hid hnx.out.symm, hS.drop⟩
          | true =>
            by_cases hs : b.seq < y.seq
            · rw [if_pos ⟨rfl, rfl, hs⟩] at hnx
              replace hnx := Lib.hid hnx
              go_wp2_with (first
                | (go_at_call 22; have hP := hS.preM (A := [_, _]) (B := dks bd sv wv d) (R := []); (with_reducible refine (cRj.out _ hP).mono ?_); rintro _ w5 ⟨rfl, hk⟩; clear hP; have hS1 := hS.callM (A := [_, _]) (R := []) hk; clear hS hk; simp only [List.cons_append, List.nil_append] at hS1; have hS := hS1; clear hS1)
                | (go_at_call 27; (with_reducible refine (cGj.out _).mono ?_); rintro _ w6 ⟨rfl, hb6⟩; have hS1 := hS.keepB hb6; clear hb6 hS; have hS := hS1; clear hS1)
                | ((with_reducible refine wpList_alloc_st hS rfl rfl ez ?_); intro gx w1 hS1; clear hS; have hS := hS1; clear hS1)
                | ((with_reducible refine wpList_storerow_st 0 hS rfl rfl rfl rfl (by kernel_rfl) rfl rfl rfl rfl ?_); intro w1 hS1; clear hS; have hS := hS1; clear hS1; try simp only [List.set_cons_zero, List.set_cons_succ, List.setIfInBounds_toArray, List.take_succ_cons, List.take_zero, List.drop_succ_cons, List.drop_zero, List.nil_append, List.cons_append, List.append_nil, List.drop_nil, List.take_nil, List.length_cons, List.length_nil, Nat.zero_add, Nat.add_zero, Nat.reduceAdd] at hS; have hcl := hS.cell 0 rfl; have hcm := hS.cell 1 rfl)
                | (with_reducible refine wpList_box_st hS rfl rfl rfl ?_; intro g1 w1 hS1; clear hS; replace hS := hS1; clear hS1) | (with_reducible refine wpList_box1_st hS rfl rfl rfl ?_; intro g1 w1 hS1; clear hS; replace hS := hS1; clear hS1) | (with_reducible refine wpList_alloc_st hS rfl rfl (by assumption) ?_; intro g1 w1 hS1; clear hS; replace hS := hS1; clear hS1) | (with_reducible refine wpList_alloc1_st hS rfl rfl (by assumption) rfl ?_; intro g1 w1 hS1; clear hS; replace hS := hS1; clear hS1) | ((with_reducible refine wpList_load_st 0 hS rfl rfl rfl rfl ?_ rfl ?_); focus (simp [scalarB, go_sem]; done)) | ((with_reducible refine wpList_loadall_st 0 hS rfl rfl rfl rfl ?_ (by kernel_rfl) ?_); focus (simp [rowB, go_sem]; done)) | ((with_reducible refine wpList_store_st 0 hS rfl rfl rfl rfl (by kernel_rfl) rfl rfl ?_); intro w1 hS1; clear hS; replace hS := hS1; clear hS1; try simp only [List.set_cons_zero, List.set_cons_succ, List.setIfInBounds_toArray, List.take_succ_cons, List.take_zero, List.drop_succ_cons, List.drop_zero, List.nil_append, List.cons_append, List.append_nil, List.drop_nil, List.take_nil, List.length_cons, List.length_nil, Nat.zero_add, Nat.add_zero, Nat.reduceAdd] at hS) | ((with_reducible refine wpList_storerow_st 0 hS rfl rfl rfl rfl (by kernel_rfl) rfl rfl rfl rfl ?_); intro w1 hS1; clear hS; replace hS := hS1; clear hS1; try simp only [List.set_cons_zero, List.set_cons_succ, List.setIfInBounds_toArray, List.take_succ_cons, List.take_zero, List.drop_succ_cons, List.drop_zero, List.nil_append, List.cons_append, List.append_nil, List.drop_nil, List.take_nil, List.length_cons, List.length_nil, Nat.zero_add, Nat.add_zero, Nat.reduceAdd] at hS) | ((with_reducible refine wpList_load_st 1 hS rfl rfl rfl rfl ?_ rfl ?_); focus (simp [scalarB, go_sem]; done)) | ((with_reducible refine wpList_loadall_st 1 hS rfl rfl rfl rfl ?_ (by kernel_rfl) ?_); focus (simp [rowB, go_sem]; done)) | ((with_reducible refine wpList_store_st 1 hS rfl rfl rfl rfl (by kernel_rfl) rfl rfl ?_); intro w1 hS1; clear hS; replace hS := hS1; clear hS1; try simp only [List.set_cons_zero, List.set_cons_succ, List.setIfInBounds_toArray, List.take_succ_cons, List.take_zero, List.drop_succ_cons, List.drop_zero, List.nil_append, List.cons_append, List.append_nil, List.drop_nil, List.take_nil, List.length_cons, List.length_nil, Nat.zero_add, Nat.add_zero, Nat.reduceAdd] at hS) | ((with_reducible refine wpList_storerow_st 1 hS rfl rfl rfl rfl (by kernel_rfl) rfl rfl rfl rfl ?_); intro w1 hS1; clear hS; replace hS := hS1; clear hS1; try simp only [List.set_cons_zero, List.set_cons_succ, List.setIfInBounds_toArray, List.take_succ_cons, List.take_zero, List.drop_succ_cons, List.drop_zero, List.nil_append, List.cons_append, List.append_nil, List.drop_nil, List.take_nil, List.length_cons, List.length_nil, Nat.zero_add, Nat.add_zero, Nat.reduceAdd] at hS) | ((with_reducible refine wpList_load_st 2 hS rfl rfl rfl rfl ?_ rfl ?_); focus (simp [scalarB, go_sem]; done)) | ((with_reducible refine wpList_loadall_st 2 hS rfl rfl rfl rfl ?_ (by kernel_rfl) ?_); focus (simp [rowB, go_sem]; done)) | ((with_reducible refine wpList_store_st 2 hS rfl rfl rfl rfl (by kernel_rfl) rfl rfl ?_); intro w1 hS1; clear hS; replace hS := hS1; clear hS1; try simp only [List.set_cons_zero, List.set_cons_succ, List.setIfInBounds_toArray, List.take_succ_cons, List.take_zero, List.drop_succ_cons, List.drop_zero, List.nil_append, List.cons_append, List.append_nil, List.drop_nil, List.take_nil, List.length_cons, List.length_nil, Nat.zero_add, Nat.add_zero, Nat.reduceAdd] at hS) | ((with_reducible refine wpList_storerow_st 2 hS rfl rfl rfl rfl (by kernel_rfl) rfl rfl rfl rfl ?_); intro w1 hS1; clear hS; replace hS := hS1; clear hS1; try simp only [List.set_cons_zero, List.set_cons_succ, List.setIfInBounds_toArray, List.take_succ_cons, List.take_zero, List.drop_succ_cons, List.drop_zero, List.nil_append, List.cons_append, List.append_nil, List.drop_nil, List.take_nil, List.length_cons, List.length_nil, Nat.zero_add, Nat.add_zero, Nat.reduceAdd] at hS))
              go_roundg (2 - (j + 1))
              case measure => omega
              case rel => exact ⟨j + 1, y, by omega, by go_num, Lib.hid hnx.out.symm, hS.drop⟩
            · rw [if_neg (by simp [hs])] at hnx
              replace hnx := Lib.hid hnx
              replace hs : y.seq ≤ b.seq := by omega
              go_wp2_with (first
                | (go_at_call 22; have hP := hS.preM (A := [_, _]) (B := dks bd sv wv d) (R := []); (with_reducible refine (cRj.out _ hP).mono ?_); rintro _ w5 ⟨rfl, hk⟩; clear hP; have hS1 := hS.callM (A := [_, _]) (R := []) hk; clear hS hk; simp only [List.cons_append, List.nil_append] at hS1; have hS := hS1; clear hS1)
                | (go_at_call 27; (with_reducible refine (cGj.out _).mono ?_); rintro _ w6 ⟨rfl, hb6⟩; have hS1 := hS.keepB hb6; clear hb6 hS; have hS := hS1; clear hS1)
                | ((with_reducible refine wpList_alloc_st hS rfl rfl ez ?_); intro gx w1 hS1; clear hS; have hS := hS1; clear hS1)
                | ((with_reducible refine wpList_storerow_st 0 hS rfl rfl rfl rfl (by kernel_rfl) rfl rfl rfl rfl ?_); intro w1 hS1; clear hS; have hS := hS1; clear hS1; try simp only [List.set_cons_zero, List.set_cons_succ, List.setIfInBounds_toArray, List.take_succ_cons, List.take_zero, List.drop_succ_cons, List.drop_zero, List.nil_append, List.cons_append, List.append_nil, List.drop_nil, List.take_nil, List.length_cons, List.length_nil, Nat.zero_add, Nat.add_zero, Nat.reduceAdd] at hS; have hcl := hS.cell 0 rfl; have hcm := hS.cell 1 rfl)
                | (with_reducible refine wpList_box_st hS rfl rfl rfl ?_; intro g1 w1 hS1; clear hS; replace hS := hS1; clear hS1) | (with_reducible refine wpList_box1_st hS rfl rfl rfl ?_; intro g1 w1 hS1; clear hS; replace hS := hS1; clear hS1) | (with_reducible refine wpList_alloc_st hS rfl rfl (by assumption) ?_; intro g1 w1 hS1; clear hS; replace hS := hS1; clear hS1) | (with_reducible refine wpList_alloc1_st hS rfl rfl (by assumption) rfl ?_; intro g1 w1 hS1; clear hS; replace hS := hS1; clear hS1) | ((with_reducible refine wpList_load_st 0 hS rfl rfl rfl rfl ?_ rfl ?_); focus (simp [scalarB, go_sem]; done)) | ((with_reducible refine wpList_loadall_st 0 hS rfl rfl rfl rfl ?_ (by kernel_rfl) ?_); focus (simp [rowB, go_sem]; done)) | ((with_reducible refine wpList_store_st 0 hS rfl rfl rfl rfl (by kernel_rfl) rfl rfl ?_); intro w1 hS1; clear hS; replace hS := hS1; clear hS1; try simp only [List.set_cons_zero, List.set_cons_succ, List.setIfInBounds_toArray, List.take_succ_cons, List.take_zero, List.drop_succ_cons, List.drop_zero, List.nil_append, List.cons_append, List.append_nil, List.drop_nil, List.take_nil, List.length_cons, List.length_nil, Nat.zero_add, Nat.add_zero, Nat.reduceAdd] at hS) | ((with_reducible refine wpList_storerow_st 0 hS rfl rfl rfl rfl (by kernel_rfl) rfl rfl rfl rfl ?_); intro w1 hS1; clear hS; replace hS := hS1; clear hS1; try simp only [List.set_cons_zero, List.set_cons_succ, List.setIfInBounds_toArray, List.take_succ_cons, List.take_zero, List.drop_succ_cons, List.drop_zero, List.nil_append, List.cons_append, List.append_nil, List.drop_nil, List.take_nil, List.length_cons, List.length_nil, Nat.zero_add, Nat.add_zero, Nat.reduceAdd] at hS) | ((with_reducible refine wpList_load_st 1 hS rfl rfl rfl rfl ?_ rfl ?_); focus (simp [scalarB, go_sem]; done)) | ((with_reducible refine wpList_loadall_st 1 hS rfl rfl rfl rfl ?_ (by kernel_rfl) ?_); focus (simp [rowB, go_sem]; done)) | ((with_reducible refine wpList_store_st 1 hS rfl rfl rfl rfl (by kernel_rfl) rfl rfl ?_); intro w1 hS1; clear hS; replace hS := hS1; clear hS1; try simp only [List.set_cons_zero, List.set_cons_succ, List.setIfInBounds_toArray, List.take_succ_cons, List.take_zero, List.drop_succ_cons, List.drop_zero, List.nil_append, List.cons_append, List.append_nil, List.drop_nil, List.take_nil, List.length_cons, List.length_nil, Nat.zero_add, Nat.add_zero, Nat.reduceAdd] at hS) | ((with_reducible refine wpList_storerow_st 1 hS rfl rfl rfl rfl (by kernel_rfl) rfl rfl rfl rfl ?_); intro w1 hS1; clear hS; replace hS := hS1; clear hS1; try simp only [List.set_cons_zero, List.set_cons_succ, List.setIfInBounds_toArray, List.take_succ_cons, List.take_zero, List.drop_succ_cons, List.drop_zero, List.nil_append, List.cons_append, List.append_nil, List.drop_nil, List.take_nil, List.length_cons, List.length_nil, Nat.zero_add, Nat.add_zero, Nat.reduceAdd] at hS) | ((with_reducible refine wpList_load_st 2 hS rfl rfl rfl rfl ?_ rfl ?_); focus (simp [scalarB, go_sem]; done)) | ((with_reducible refine wpList_loadall_st 2 hS rfl rfl rfl rfl ?_ (by kernel_rfl) ?_); focus (simp [rowB, go_sem]; done)) | ((with_reducible refine wpList_store_st 2 hS rfl rfl rfl rfl (by kernel_rfl) rfl rfl ?_); intro w1 hS1; clear hS; replace hS := hS1; clear hS1; try simp only [List.set_cons_zero, List.set_cons_succ, List.setIfInBounds_toArray, List.take_succ_cons, List.take_zero, List.drop_succ_cons, List.drop_zero, List.nil_append, List.cons_append, List.append_nil, List.drop_nil, List.take_nil, List.length_cons, List.length_nil, Nat.zero_add, Nat.add_zero, Nat.reduceAdd] at hS) | ((with_reducible refine wpList_storerow_st 2 hS rfl rfl rfl rfl (by kernel_rfl) rfl rfl rfl rfl ?_); intro w1 hS1; clear hS; replace hS := hS1; clear hS1; try simp only [List.set_cons_zero, List.set_cons_succ, List.setIfInBounds_toArray, List.take_succ_cons, List.take_zero, List.drop_succ_cons, List.drop_zero, List.nil_append, List.cons_append, List.append_nil, List.drop_nil, List.take_nil, List.length_cons, List.length_nil, Nat.zero_add, Nat.add_zero, Nat.reduceAdd] at hS))
              go_roundg (2 - (j + 1))
              case measure => omega
              case rel => exact ⟨j + 1, b, by omega, by go_num, Lib.hid hnx.out.symm, hS.drop⟩
        · rw [if_neg (by simp [he])] at hnx
          have heb : (e == 0) = false := by rw [beq_eq_false_iff_ne]; exact he
          have heb2 : (e != 0) = true := by simp [he]
          replace hnx := Lib.hid hnx
          clear he
          go_wp2_with (first
            | (go_at_call 22; have hP := hS.preM (A := [_, _]) (B := dks bd sv wv d) (R := []); (with_reducible refine (cRj.out _ hP).mono ?_); rintro _ w5 ⟨rfl, hk⟩; clear hP; have hS1 := hS.callM (A := [_, _]) (R := []) hk; clear hS hk; simp only [List.cons_append, List.nil_append] at hS1; have hS := hS1; clear hS1)
            | (go_at_call 27; (with_reducible refine (cGj.out _).mono ?_); rintro _ w6 ⟨rfl, hb6⟩; have hS1 := hS.keepB hb6; clear hb6 hS; have hS := hS1; clear hS1)
            | ((with_reducible refine wpList_alloc_st hS rfl rfl ez ?_); intro gx w1 hS1; clear hS; have hS := hS1; clear hS1)
            | ((with_reducible refine wpList_storerow_st 0 hS rfl rfl rfl rfl (by kernel_rfl) rfl rfl rfl rfl ?_); intro w1 hS1; clear hS; have hS := hS1; clear hS1; try simp only [List.set_cons_zero, List.set_cons_succ, List.setIfInBounds_toArray, List.take_succ_cons, List.take_zero, List.drop_succ_cons, List.drop_zero, List.nil_append, List.cons_append, List.append_nil, List.drop_nil, List.take_nil, List.length_cons, List.length_nil, Nat.zero_add, Nat.add_zero, Nat.reduceAdd] at hS; have hcl := hS.cell 0 rfl; have hcm := hS.cell 1 rfl)
            | (with_reducible refine wpList_box_st hS rfl rfl rfl ?_; intro g1 w1 hS1; clear hS; replace hS := hS1; clear hS1) | (with_reducible refine wpList_box1_st hS rfl rfl rfl ?_; intro g1 w1 hS1; clear hS; replace hS := hS1; clear hS1) | (with_reducible refine wpList_alloc_st hS rfl rfl (by assumption) ?_; intro g1 w1 hS1; clear hS; replace hS := hS1; clear hS1) | (with_reducible refine wpList_alloc1_st hS rfl rfl (by assumption) rfl ?_; intro g1 w1 hS1; clear hS; replace hS := hS1; clear hS1) | ((with_reducible refine wpList_load_st 0 hS rfl rfl rfl rfl ?_ rfl ?_); focus (simp [scalarB, go_sem]; done)) | ((with_reducible refine wpList_loadall_st 0 hS rfl rfl rfl rfl ?_ (by kernel_rfl) ?_); focus (simp [rowB, go_sem]; done)) | ((with_reducible refine wpList_store_st 0 hS rfl rfl rfl rfl (by kernel_rfl) rfl rfl ?_); intro w1 hS1; clear hS; replace hS := hS1; clear hS1; try simp only [List.set_cons_zero, List.set_cons_succ, List.setIfInBounds_toArray, List.take_succ_cons, List.take_zero, List.drop_succ_cons, List.drop_zero, List.nil_append, List.cons_append, List.append_nil, List.drop_nil, List.take_nil, List.length_cons, List.length_nil, Nat.zero_add, Nat.add_zero, Nat.reduceAdd] at hS) | ((with_reducible refine wpList_storerow_st 0 hS rfl rfl rfl rfl (by kernel_rfl) rfl rfl rfl rfl ?_); intro w1 hS1; clear hS; replace hS := hS1; clear hS1; try simp only [List.set_cons_zero, List.set_cons_succ, List.setIfInBounds_toArray, List.take_succ_cons, List.take_zero, List.drop_succ_cons, List.drop_zero, List.nil_append, List.cons_append, List.append_nil, List.drop_nil, List.take_nil, List.length_cons, List.length_nil, Nat.zero_add, Nat.add_zero, Nat.reduceAdd] at hS) | ((with_reducible refine wpList_load_st 1 hS rfl rfl rfl rfl ?_ rfl ?_); focus (simp [scalarB, go_sem]; done)) | ((with_reducible refine wpList_loadall_st 1 hS rfl rfl rfl rfl ?_ (by kernel_rfl) ?_); focus (simp [rowB, go_sem]; done)) | ((with_reducible refine wpList_store_st 1 hS rfl rfl rfl rfl (by kernel_rfl) rfl rfl ?_); intro w1 hS1; clear hS; replace hS := hS1; clear hS1; try simp only [List.set_cons_zero, List.set_cons_succ, List.setIfInBounds_toArray, List.take_succ_cons, List.take_zero, List.drop_succ_cons, List.drop_zero, List.nil_append, List.cons_append, List.append_nil, List.drop_nil, List.take_nil, List.length_cons, List.length_nil, Nat.zero_add, Nat.add_zero, Nat.reduceAdd] at hS) | ((with_reducible refine wpList_storerow_st 1 hS rfl rfl rfl rfl (by kernel_rfl) rfl rfl rfl rfl ?_); intro w1 hS1; clear hS; replace hS := hS1; clear hS1; try simp only [List.set_cons_zero, List.set_cons_succ, List.setIfInBounds_toArray, List.take_succ_cons, List.take_zero, List.drop_succ_cons, List.drop_zero, List.nil_append, List.cons_append, List.append_nil, List.drop_nil, List.take_nil, List.length_cons, List.length_nil, Nat.zero_add, Nat.add_zero, Nat.reduceAdd] at hS) | ((with_reducible refine wpList_load_st 2 hS rfl rfl rfl rfl ?_ rfl ?_); focus (simp [scalarB, go_sem]; done)) | ((with_reducible refine wpList_loadall_st 2 hS rfl rfl rfl rfl ?_ (by kernel_rfl) ?_); focus (simp [rowB, go_sem]; done)) | ((with_reducible refine wpList_store_st 2 hS rfl rfl rfl rfl (by kernel_rfl) rfl rfl ?_); intro w1 hS1; clear hS; replace hS := hS1; clear hS1; try simp only [List.set_cons_zero, List.set_cons_succ, List.setIfInBounds_toArray, List.take_succ_cons, List.take_zero, List.drop_succ_cons, List.drop_zero, List.nil_append, List.cons_append, List.append_nil, List.drop_nil, List.take_nil, List.length_cons, List.length_nil, Nat.zero_add, Nat.add_zero, Nat.reduceAdd] at hS) | ((with_reducible refine wpList_storerow_st 2 hS rfl rfl rfl rfl (by kernel_rfl) rfl rfl rfl rfl ?_); intro w1 hS1; clear hS; replace hS := hS1; clear hS1; try simp only [List.set_cons_zero, List.set_cons_succ, List.setIfInBounds_toArray, List.take_succ_cons, List.take_zero, List.drop_succ_cons, List.drop_zero, List.nil_append, List.cons_append, List.append_nil, List.drop_nil, List.take_nil, List.length_cons, List.length_nil, Nat.zero_add, Nat.add_zero, Nat.reduceAdd] at hS))
          go_roundg (2 - (j + 1))
          case measure => omega
          case rel => exact ⟨j + 1, b, by omega, by go_num, Lib.hid hnx.out.symm, hS⟩
      · have hj2 : j = 2 := by omega
        subst hj2
        rw [← hb.out] at hld
        clear hb cR cG hrl
        by_cases h0 : b.seq = 0
        · have hl2 : d.load = (Rt.none, 16) := hld.out.trans (if_pos h0)
          have hbz : (b.seq == 0) = true := by simp [h0]
          clear hld h0
          have hld := Lib.hid hl2
          clear hl2
          go_wp2_with (first | (with_reducible refine wpList_box_st hS rfl rfl rfl ?_; intro g1 w1 hS1; clear hS; replace hS := hS1; clear hS1) | (with_reducible refine wpList_box1_st hS rfl rfl rfl ?_; intro g1 w1 hS1; clear hS; replace hS := hS1; clear hS1) | (with_reducible refine wpList_alloc_st hS rfl rfl (by assumption) ?_; intro g1 w1 hS1; clear hS; replace hS := hS1; clear hS1) | (with_reducible refine wpList_alloc1_st hS rfl rfl (by assumption) rfl ?_; intro g1 w1 hS1; clear hS; replace hS := hS1; clear hS1) | ((with_reducible refine wpList_load_st 0 hS rfl rfl rfl rfl ?_ rfl ?_); focus (simp [scalarB, go_sem]; done)) | ((with_reducible refine wpList_loadall_st 0 hS rfl rfl rfl rfl ?_ (by kernel_rfl) ?_); focus (simp [rowB, go_sem]; done)) | ((with_reducible refine wpList_store_st 0 hS rfl rfl rfl rfl (by kernel_rfl) rfl rfl ?_); intro w1 hS1; clear hS; replace hS := hS1; clear hS1; try simp only [List.set_cons_zero, List.set_cons_succ, List.setIfInBounds_toArray, List.take_succ_cons, List.take_zero, List.drop_succ_cons, List.drop_zero, List.nil_append, List.cons_append, List.append_nil, List.drop_nil, List.take_nil, List.length_cons, List.length_nil, Nat.zero_add, Nat.add_zero, Nat.reduceAdd] at hS) | ((with_reducible refine wpList_storerow_st 0 hS rfl rfl rfl rfl (by kernel_rfl) rfl rfl rfl rfl ?_); intro w1 hS1; clear hS; replace hS := hS1; clear hS1; try simp only [List.set_cons_zero, List.set_cons_succ, List.setIfInBounds_toArray, List.take_succ_cons, List.take_zero, List.drop_succ_cons, List.drop_zero, List.nil_append, List.cons_append, List.append_nil, List.drop_nil, List.take_nil, List.length_cons, List.length_nil, Nat.zero_add, Nat.add_zero, Nat.reduceAdd] at hS) | ((with_reducible refine wpList_load_st 1 hS rfl rfl rfl rfl ?_ rfl ?_); focus (simp [scalarB, go_sem]; done)) | ((with_reducible refine wpList_loadall_st 1 hS rfl rfl rfl rfl ?_ (by kernel_rfl) ?_); focus (simp [rowB, go_sem]; done)) | ((with_reducible refine wpList_store_st 1 hS rfl rfl rfl rfl (by kernel_rfl) rfl rfl ?_); intro w1 hS1; clear hS; replace hS := hS1; clear hS1; try simp only [List.set_cons_zero, List.set_cons_succ, List.setIfInBounds_toArray, List.take_succ_cons, List.take_zero, List.drop_succ_cons, List.drop_zero, List.nil_append, List.cons_append, List.append_nil, List.drop_nil, List.take_nil, List.length_cons, List.length_nil, Nat.zero_add, Nat.add_zero, Nat.reduceAdd] at hS) | ((with_reducible refine wpList_storerow_st 1 hS rfl rfl rfl rfl (by kernel_rfl) rfl rfl rfl rfl ?_); intro w1 hS1; clear hS; replace hS := hS1; clear hS1; try simp only [List.set_cons_zero, List.set_cons_succ, List.setIfInBounds_toArray, List.take_succ_cons, List.take_zero, List.drop_succ_cons, List.drop_zero, List.nil_append, List.cons_append, List.append_nil, List.drop_nil, List.take_nil, List.length_cons, List.length_nil, Nat.zero_add, Nat.add_zero, Nat.reduceAdd] at hS))
          have c := hS.cell 1 rfl
          exact bodyPost_ret (v := .tuple #[.agg #[.int .i64 0, .int .i64 0, .int .i64 0], .int .i64 16]) (by simp [results, Try.results39, go_sem, c]) rfl ⟨by first | (rw [hld.out]; done) | (rw [hld.out]; rfl), by simpa using hS.drop.drop⟩
        · have hl2 : d.load = (b, 0) := hld.out.trans (if_neg h0)
          have hbz : (b.seq == 0) = false := by simp [h0]
          clear hld h0
          have hld := Lib.hid hl2
          clear hl2
          go_wp2_with (first | (with_reducible refine wpList_box_st hS rfl rfl rfl ?_; intro g1 w1 hS1; clear hS; replace hS := hS1; clear hS1) | (with_reducible refine wpList_box1_st hS rfl rfl rfl ?_; intro g1 w1 hS1; clear hS; replace hS := hS1; clear hS1) | (with_reducible refine wpList_alloc_st hS rfl rfl (by assumption) ?_; intro g1 w1 hS1; clear hS; replace hS := hS1; clear hS1) | (with_reducible refine wpList_alloc1_st hS rfl rfl (by assumption) rfl ?_; intro g1 w1 hS1; clear hS; replace hS := hS1; clear hS1) | ((with_reducible refine wpList_load_st 0 hS rfl rfl rfl rfl ?_ rfl ?_); focus (simp [scalarB, go_sem]; done)) | ((with_reducible refine wpList_loadall_st 0 hS rfl rfl rfl rfl ?_ (by kernel_rfl) ?_); focus (simp [rowB, go_sem]; done)) | ((with_reducible refine wpList_store_st 0 hS rfl rfl rfl rfl (by kernel_rfl) rfl rfl ?_); intro w1 hS1; clear hS; replace hS := hS1; clear hS1; try simp only [List.set_cons_zero, List.set_cons_succ, List.setIfInBounds_toArray, List.take_succ_cons, List.take_zero, List.drop_succ_cons, List.drop_zero, List.nil_append, List.cons_append, List.append_nil, List.drop_nil, List.take_nil, List.length_cons, List.length_nil, Nat.zero_add, Nat.add_zero, Nat.reduceAdd] at hS) | ((with_reducible refine wpList_storerow_st 0 hS rfl rfl rfl rfl (by kernel_rfl) rfl rfl rfl rfl ?_); intro w1 hS1; clear hS; replace hS := hS1; clear hS1; try simp only [List.set_cons_zero, List.set_cons_succ, List.setIfInBounds_toArray, List.take_succ_cons, List.take_zero, List.drop_succ_cons, List.drop_zero, List.nil_append, List.cons_append, List.append_nil, List.drop_nil, List.take_nil, List.length_cons, List.length_nil, Nat.zero_add, Nat.add_zero, Nat.reduceAdd] at hS) | ((with_reducible refine wpList_load_st 1 hS rfl rfl rfl rfl ?_ rfl ?_); focus (simp [scalarB, go_sem]; done)) | ((with_reducible refine wpList_loadall_st 1 hS rfl rfl rfl rfl ?_ (by kernel_rfl) ?_); focus (simp [rowB, go_sem]; done)) | ((with_reducible refine wpList_store_st 1 hS rfl rfl rfl rfl (by kernel_rfl) rfl rfl ?_); intro w1 hS1; clear hS; replace hS := hS1; clear hS1; try simp only [List.set_cons_zero, List.set_cons_succ, List.setIfInBounds_toArray, List.take_succ_cons, List.take_zero, List.drop_succ_cons, List.drop_zero, List.nil_append, List.cons_append, List.append_nil, List.drop_nil, List.take_nil, List.length_cons, List.length_nil, Nat.zero_add, Nat.add_zero, Nat.reduceAdd] at hS) | ((with_reducible refine wpList_storerow_st 1 hS rfl rfl rfl rfl (by kernel_rfl) rfl rfl rfl rfl ?_); intro w1 hS1; clear hS; replace hS := hS1; clear hS1; try simp only [List.set_cons_zero, List.set_cons_succ, List.setIfInBounds_toArray, List.take_succ_cons, List.take_zero, List.drop_succ_cons, List.drop_zero, List.nil_append, List.cons_append, List.append_nil, List.drop_nil, List.take_nil, List.length_cons, List.length_nil, Nat.zero_add, Nat.add_zero, Nat.reduceAdd] at hS))
          have c := hS.cell 1 rfl
          exact bodyPost_ret (v := .tuple #[.agg #[.int .i64 b.seq, .int .i64 b.life, .int .i64 b.head], .int .i64 0]) (by simp [results, Try.results39, go_sem, c]) rfl ⟨by first | (rw [hld.out]; done) | (rw [hld.out]; rfl), by simpa using hS.drop.drop⟩
end Go.Proofs.Ytlhpibniecfofaa
end

section
/- Vaults: found, where there is no root. -/
set_option linter.unusedSimpArgs false
set_option linter.unusedVariables false
namespace Go.Proofs.Ytlhpibniecfofaa
open Go.RowKit Go.Ofp
set_option linter.unusedVariables false
set_option maxRecDepth 100000
set_option maxHeartbeats 4000000

theorem build_root0 (w : World) : (Instr.build 50 #[]).run Try.prog w = .ok (.agg #[.int .i64 0, .int .i64 0, .int .i64 0]) w := by kernel_rfl
theorem vlfound_small (bd : Nat) (sv wv : Value) (d : Dk) (w : World) (h : St w (feet (dks bd sv wv d)) (dks bd sv wv d) w) (hs : d.sec.length ≤ 100000) (h3 : d.sec.length < 3) :
    Calls Try.prog 94 #[.pointer (some ⟨bd, 0, none⟩)] w fun e w' => e = .returned (.tuple #[.agg #[.int .i64 0, .int .i64 0, .int .i64 0], .pointer none, .string ⟨#[]⟩, .slice none 0 0, .int .i64 1]) ∧ St w (feet (dks bd sv wv d)) (dks bd sv wv d) w' := by
  have cM := fun W hh => vmay_any bd sv wv d W hh hs
  rw [if_pos h3] at cM
  have hS : St w (feet (dks bd sv wv d)) (dks bd sv wv d ++ []) w := by rw [List.append_nil]; exact h
  have ez := elem_root
  have hbr := build_root0
  replace cM := Lib.hid cM
  generalize feet (dks bd sv wv d) = F at hS ⊢
  clear h
  go_enter Try.func94, Try.ntmps94
  go_wp2_with (first
    | ((with_reducible refine wpList_alloc_st hS rfl rfl ez ?_); intro g4 w1 hS1; clear hS; have hS := hS1; clear hS1)
    | (go_at_call 93; (with_reducible refine (cM.out _ (hS.preM (A := [_]) (B := dks bd sv wv d) (R := []))).mono ?_); rintro _ _ ⟨rfl, rfl⟩)
    | (with_reducible refine wpList_box_st hS rfl rfl rfl ?_; intro g1 w1 hS1; clear hS; replace hS := hS1; clear hS1) | (with_reducible refine wpList_box1_st hS rfl rfl rfl ?_; intro g1 w1 hS1; clear hS; replace hS := hS1; clear hS1) | (with_reducible refine wpList_alloc_st hS rfl rfl (by assumption) ?_; intro g1 w1 hS1; clear hS; replace hS := hS1; clear hS1) | (with_reducible refine wpList_alloc1_st hS rfl rfl (by assumption) rfl ?_; intro g1 w1 hS1; clear hS; replace hS := hS1; clear hS1) | ((with_reducible refine wpList_load_st 0 hS rfl rfl rfl rfl ?_ rfl ?_); focus (simp [scalarB, go_sem]; done)) | ((with_reducible refine wpList_loadall_st 0 hS rfl rfl rfl rfl ?_ (by kernel_rfl) ?_); focus (simp [rowB, go_sem]; done)) | ((with_reducible refine wpList_store_st 0 hS rfl rfl rfl rfl (by kernel_rfl) rfl rfl ?_); intro w1 hS1; clear hS; replace hS := hS1; clear hS1; try simp only [List.set_cons_zero, List.set_cons_succ, List.setIfInBounds_toArray, List.take_succ_cons, List.take_zero, List.drop_succ_cons, List.drop_zero, List.nil_append, List.cons_append, List.append_nil, List.drop_nil, List.take_nil, List.length_cons, List.length_nil, Nat.zero_add, Nat.add_zero, Nat.reduceAdd] at hS) | ((with_reducible refine wpList_storerow_st 0 hS rfl rfl rfl rfl (by kernel_rfl) rfl rfl rfl rfl ?_); intro w1 hS1; clear hS; replace hS := hS1; clear hS1; try simp only [List.set_cons_zero, List.set_cons_succ, List.setIfInBounds_toArray, List.take_succ_cons, List.take_zero, List.drop_succ_cons, List.drop_zero, List.nil_append, List.cons_append, List.append_nil, List.drop_nil, List.take_nil, List.length_cons, List.length_nil, Nat.zero_add, Nat.add_zero, Nat.reduceAdd] at hS))
  have c := hS.cell 0 rfl
  exact bodyPost_ret (v := .tuple #[.agg #[.int .i64 0, .int .i64 0, .int .i64 0], .pointer none, .string ⟨#[]⟩, .slice none 0 0, .int .i64 1]) (by simp [results, Try.results94, go_sem, c]) rfl ⟨rfl, by simpa using hS.drop⟩
theorem vlfound_noroot (bd : Nat) (sv wv : Value) (d : Dk) (size k : Nat) (w : World) (h : St w (feet (dks bd sv wv d)) (dks bd sv wv d) w) (hfit : d.Fit size k) (hs : size ≤ 100000) (hk : k ≤ 90000) (h3 : 3 ≤ size) (he : d.load.2 ≠ 0) :
    Calls Try.prog 94 #[.pointer (some ⟨bd, 0, none⟩)] w fun e w' => e = .returned (.tuple #[.agg #[.int .i64 0, .int .i64 0, .int .i64 0], .pointer none, .string ⟨#[]⟩, .slice none 0 0, .int .i64 d.load.2]) ∧ St w (feet (dks bd sv wv d)) (dks bd sv wv d) w' := by
  have hsz := hfit.sec
  have cM := fun W hh => vmay_any bd sv wv d W hh (by omega)
  rw [if_neg (by omega)] at cM
  have cL := fun W hh => tload_any bd sv wv d size k W hh hfit hs (by omega)
  obtain ⟨⟨x, e⟩, hl⟩ : ∃ z, d.load = z := ⟨_, rfl⟩
  rw [hl] at cL he ⊢
  simp only at cL he ⊢
  have heb : (e != 0) = true := by rw [bne_iff_ne]; exact he
  have hS : St w (feet (dks bd sv wv d)) (dks bd sv wv d ++ []) w := by rw [List.append_nil]; exact h
  have ez := elem_root
  have hbr := build_root0
  replace cM := Lib.hid cM
  replace cL := Lib.hid cL
  generalize feet (dks bd sv wv d) = F at hS ⊢
  clear h hl hfit he
  go_enter Try.func94, Try.ntmps94
  go_wp2_with (first
    | ((with_reducible refine wpList_alloc_st hS rfl rfl ez ?_); intro g4 w1 hS1; clear hS; have hS := hS1; clear hS1)
    | (go_at_call 93; (with_reducible refine (cM.out _ (hS.preM (A := [_]) (B := dks bd sv wv d) (R := []))).mono ?_); rintro _ _ ⟨rfl, rfl⟩)
    | (go_at_call 39; (with_reducible refine (cL.out _ (hS.preM (A := [_]) (B := dks bd sv wv d) (R := []))).mono ?_); rintro _ w5 ⟨rfl, hk5⟩; have hS1 := hS.callM (A := [_]) (B := dks bd sv wv d) (R := []) hk5; clear hS hk5; have hS := hS1; clear hS1; simp only [List.cons_append, List.nil_append] at hS)
    | (with_reducible refine wpList_box_st hS rfl rfl rfl ?_; intro g1 w1 hS1; clear hS; replace hS := hS1; clear hS1) | (with_reducible refine wpList_box1_st hS rfl rfl rfl ?_; intro g1 w1 hS1; clear hS; replace hS := hS1; clear hS1) | (with_reducible refine wpList_alloc_st hS rfl rfl (by assumption) ?_; intro g1 w1 hS1; clear hS; replace hS := hS1; clear hS1) | (with_reducible refine wpList_alloc1_st hS rfl rfl (by assumption) rfl ?_; intro g1 w1 hS1; clear hS; replace hS := hS1; clear hS1) | ((with_reducible refine wpList_load_st 0 hS rfl rfl rfl rfl ?_ rfl ?_); focus (simp [scalarB, go_sem]; done)) | ((with_reducible refine wpList_loadall_st 0 hS rfl rfl rfl rfl ?_ (by kernel_rfl) ?_); focus (simp [rowB, go_sem]; done)) | ((with_reducible refine wpList_store_st 0 hS rfl rfl rfl rfl (by kernel_rfl) rfl rfl ?_); intro w1 hS1; clear hS; replace hS := hS1; clear hS1; try simp only [List.set_cons_zero, List.set_cons_succ, List.setIfInBounds_toArray, List.take_succ_cons, List.take_zero, List.drop_succ_cons, List.drop_zero, List.nil_append, List.cons_append, List.append_nil, List.drop_nil, List.take_nil, List.length_cons, List.length_nil, Nat.zero_add, Nat.add_zero, Nat.reduceAdd] at hS) | ((with_reducible refine wpList_storerow_st 0 hS rfl rfl rfl rfl (by kernel_rfl) rfl rfl rfl rfl ?_); intro w1 hS1; clear hS; replace hS := hS1; clear hS1; try simp only [List.set_cons_zero, List.set_cons_succ, List.setIfInBounds_toArray, List.take_succ_cons, List.take_zero, List.drop_succ_cons, List.drop_zero, List.nil_append, List.cons_append, List.append_nil, List.drop_nil, List.take_nil, List.length_cons, List.length_nil, Nat.zero_add, Nat.add_zero, Nat.reduceAdd] at hS) | ((with_reducible refine wpList_load_st 1 hS rfl rfl rfl rfl ?_ rfl ?_); focus (simp [scalarB, go_sem]; done)) | ((with_reducible refine wpList_loadall_st 1 hS rfl rfl rfl rfl ?_ (by kernel_rfl) ?_); focus (simp [rowB, go_sem]; done)) | ((with_reducible refine wpList_store_st 1 hS rfl rfl rfl rfl (by kernel_rfl) rfl rfl ?_); intro w1 hS1; clear hS; replace hS := hS1; clear hS1; try simp only [List.set_cons_zero, List.set_cons_succ, List.setIfInBounds_toArray, List.take_succ_cons, List.take_zero, List.drop_succ_cons, List.drop_zero, List.nil_append, List.cons_append, List.append_nil, List.drop_nil, List.take_nil, List.length_cons, List.length_nil, Nat.zero_add, Nat.add_zero, Nat.reduceAdd] at hS) | ((with_reducible refine wpList_storerow_st 1 hS rfl rfl rfl rfl (by kernel_rfl) rfl rfl rfl rfl ?_); intro w1 hS1; clear hS; replace hS := hS1; clear hS1; try simp only [List.set_cons_zero, List.set_cons_succ, List.setIfInBounds_toArray, List.take_succ_cons, List.take_zero, List.drop_succ_cons, List.drop_zero, List.nil_append, List.cons_append, List.append_nil, List.drop_nil, List.take_nil, List.length_cons, List.length_nil, Nat.zero_add, Nat.add_zero, Nat.reduceAdd] at hS))
  have c := hS.cell 1 rfl
  exact bodyPost_ret (v := .tuple #[.agg #[.int .i64 0, .int .i64 0, .int .i64 0], .pointer none, .string ⟨#[]⟩, .slice none 0 0, .int .i64 e]) (by simp [results, Try.results94, go_sem, c]) rfl ⟨rfl, by simpa using hS.drop.drop⟩
end Go.Proofs.Ytlhpibniecfofaa
end

section
/- The walks of pieces: the reference's cut. -/
set_option linter.unusedSimpArgs false
set_option linter.unusedVariables false
namespace Go.Proofs.Ytlhpibniecfofaa
open Go.RowKit Go.Ofp
set_option linter.unusedVariables false
set_option maxRecDepth 100000
set_option maxHeartbeats 4000000

end Go.Proofs.Ytlhpibniecfofaa
end

section
/- The walks of pieces: joined. -/
set_option linter.unusedSimpArgs false
set_option linter.unusedVariables false
namespace Go.Proofs.Ytlhpibniecfofaa
open Go.RowKit Go.Ofp
set_option linter.unusedVariables false
set_option maxRecDepth 100000
set_option maxHeartbeats 4000000

/-- A world's cells of a piece that was copied into a new block. -/
theorem cat_next (ps : List Pc) (j : Nat) (p : Pc) (hp : ps[j]? = some p) : str (catB (ps.take j)) ++ p.body = str (catB (ps.take (j + 1))) := by
  apply ba_ext
  rw [List.take_add_one, hp]
  simp [catB, ByteArray.data_append]

theorem joinB_no (ps : List Pc) (l0 : Pc) (h0 : ps[0]? = some l0) (j : Nat) (p : Pc) (hp : ps[j]? = some p) (h : ¬ joinAt l0 ps.length j p = true) : joinB ps = (str [], false) := by
  rw [joinB, if_neg]
  intro hj
  exact h ((joinOk_iff _ _ h0).1 hj j p hp)

theorem isEmpty_size (s : ByteArray) : s.toList.isEmpty = (s.size == 0) := by
  rw [ByteArray.toList_eq, ba_size]
  cases s.data.toList <;> rfl

section
variable (l0 : Pc) (n j : Nat) (p : Pc)
theorem int_z : ((j : Int) == 0) = (j == 0) := by rw [Bool.eq_iff_iff]; simp
theorem int_l (h : 0 < n) : ((j : Int) == (n : Int) - 1) = (j == n - 1) := by rw [Bool.eq_iff_iff]; simp; omega
theorem join_bad1 (h : ¬ p.first = ((j : Int) == 0)) : ¬ joinAt l0 n j p = true := by
  rw [joinAt_iff]
  rintro ⟨-, -, -, q4, -⟩
  exact h (by rw [q4, int_z])
theorem join_bad2 (hj : j < n) (h : (!p.last == ((j : Int) == (n : Int) - 1)) = true) : ¬ joinAt l0 n j p = true := by
  rw [joinAt_iff]
  rintro ⟨-, -, -, -, q5, -⟩
  rw [q5, int_l n j (by omega)] at h
  simp at h
theorem join_bad3 (h : (j : Int) = (n : Int) - 1) (h1 : 1 < (n : Int)) (h2 : p.body.toList.isEmpty = true) : ¬ joinAt l0 n j p = true := by
  rw [joinAt_iff]
  rw [isEmpty_size, beq_iff_eq] at h2
  omega
theorem join_bad4 (h : ¬ (j : Int) = (n : Int) - 1) (h0 : 52 ≤ (p.body.size : Int)) (h1 : 0 < j) (h2 : (!((j : Int) == (n : Int) - 1)) = true ∧ (p.body.size : Int) < 52 ∨ p.body.toList.isEmpty = true) : ¬ joinAt l0 n j p = true := by
  rw [joinAt_iff]
  rcases h2 with ⟨_, h2⟩ | h2
  · omega
  · rw [isEmpty_size, beq_iff_eq] at h2
    omega
theorem join_bad5 (hj : j < n) (h : ¬ (j : Int) = (n : Int) - 1) (h0 : (p.body.size : Int) < 52) : ¬ joinAt l0 n j p = true := by
  rw [joinAt_iff]
  omega
theorem join_good1 (hj : j < n) (a : p.ok = true) (b : p.life = l0.life) (c : p.place = l0.place + j) (h1 : p.first = ((j : Int) == 0)) (h2 : (!p.last == ((j : Int) == (n : Int) - 1)) = false) (h3 : (j : Int) = (n : Int) - 1) (h5 : p.body.toList.isEmpty = false) : joinAt l0 n j p = true := by
  rw [joinAt_iff]
  rw [isEmpty_size, beq_eq_false_iff_ne] at h5
  refine ⟨a, b, c, by rw [h1, int_z], ?_, by omega, by omega⟩
  have e := int_l n j (by omega)
  rw [e] at h2
  simpa using h2
theorem join_good2 (hj : j < n) (a : p.ok = true) (b : p.life = l0.life) (c : p.place = l0.place + j) (h1 : p.first = ((j : Int) == 0)) (h2 : (!p.last == ((j : Int) == (n : Int) - 1)) = false) (h3 : (j : Int) = (n : Int) - 1) (h5 : (n : Int) ≤ 1) : joinAt l0 n j p = true := by
  rw [joinAt_iff]
  refine ⟨a, b, c, by rw [h1, int_z], ?_, by omega, by omega⟩
  have e := int_l n j (by omega)
  rw [e] at h2
  simpa using h2
theorem join_good3 (hj : j < n) (a : p.ok = true) (b : p.life = l0.life) (c : p.place = l0.place + j) (h1 : p.first = ((j : Int) == 0)) (h2 : (!p.last == ((j : Int) == (n : Int) - 1)) = false) (h4 : 52 ≤ (p.body.size : Int)) (h5 : ((!((j : Int) == (n : Int) - 1)) = false ∨ 52 ≤ (p.body.size : Int)) ∧ p.body.toList.isEmpty = false) : joinAt l0 n j p = true := by
  rw [joinAt_iff]
  refine ⟨a, b, c, by rw [h1, int_z], ?_, by omega, by omega⟩
  have e := int_l n j (by omega)
  rw [e] at h2
  simpa using h2
theorem join_good4 (hj : j < n) (a : p.ok = true) (b : p.life = l0.life) (c : p.place = l0.place + j) (h1 : p.first = ((j : Int) == 0)) (h2 : (!p.last == ((j : Int) == (n : Int) - 1)) = false) (h4 : 52 ≤ (p.body.size : Int)) (h5 : ¬ 0 < j) : joinAt l0 n j p = true := by
  rw [joinAt_iff]
  refine ⟨a, b, c, by rw [h1, int_z], ?_, by omega, by omega⟩
  have e := int_l n j (by omega)
  rw [e] at h2
  simpa using h2
end

theorem pjoin_any (a : Option Addr) (ps : List Pc) (n cap : Nat) (w : World) (ha : Ps w a ps) (hn : n = ps.length) (hn1 : n ≤ 100000) :
    Calls Try.prog 88 #[.slice a n cap] w fun e w' => e = .returned (.tuple #[.string (joinB ps).1, .bool (joinB ps).2]) ∧ Below w.heap.size w w' := by
  replace ha := Lib.hid ha
  replace hn := Lib.hid hn
  go_enter Try.func88, Try.ntmps88
  go_wp2_with fail
  go_loopg [4, 10] n (fun gk vr vi wr => ∃ j : Nat, j + gk = n ∧ vi = .int .i64 j ∧ vr = .string (str (catB (ps.take j))) ∧ (str (catB (ps.take j))).size ≤ j * 52 ∧ Below w.heap.size w wr ∧ ∀ l0, ps[0]? = some l0 → ∀ i p, i < j → ps[i]? = some p → joinAt l0 n i p = true)
  case atStart => exact ⟨0, by omega, rfl, rfl, by simp [catB], Below.refl _ _, fun l0 _ i p h => absurd h (by omega)⟩
  case round =>
    obtain ⟨j, hjk, rfl, rfl, hsz, hb, hall⟩ := hrel
    by_cases hj : j < n
    · obtain ⟨p, hp⟩ : ∃ p, ps[j]? = some p := ⟨_, List.getElem?_eq_getElem (by have := hn.out; omega)⟩
      obtain ⟨l0, h0⟩ : ∃ p, ps[0]? = some p := ⟨_, List.getElem?_eq_getElem (by have := hn.out; omega)⟩
      obtain ⟨b, off, hab, c0, c1, c2, c3, c4⟩ := (ha.out.below hb).get j p hp
      subst hab
      obtain ⟨b', off', hab', z0, z1, -, -, -⟩ := (ha.out.below hb).get 0 l0 h0
      cases hab'
      simp only [Nat.zero_mul, Nat.add_zero] at z0 z1
      have hl0 : 0 < j → l0.ok = true := fun h => ((joinAt_iff _ _ _ _).1 (hall l0 h0 0 l0 h h0)).1
      have hl1 : j = 0 → p = l0 := fun h => by subst h; rw [hp] at h0; cases h0; rfl
      have hno : ¬ joinAt l0 n j p = true → joinB ps = (str [], false) := fun h => joinB_no ps l0 h0 j p hp (by rw [← hn.out]; exact h)
      have hat := joinAt_iff l0 n j p
      obtain ⟨okb, hok⟩ : ∃ b, p.ok = b := ⟨_, rfl⟩
      have hcat := cat_next ps j p hp
      replace hall := Lib.hid hall
      replace hp := Lib.hid hp
      replace h0 := Lib.hid h0
      replace hl0 := Lib.hid hl0
      replace hl1 := Lib.hid hl1
      replace hno := Lib.hid hno
      replace hat := Lib.hid hat
      generalize hS : str (catB (ps.take j)) = S at hcat hsz
      replace hS := Lib.hid hS
      replace hcat := Lib.hid hcat
      have hW := Whole.new wr 148 #[.int .i64 p.life, .int .i64 p.place, .bool p.first, .bool p.last, .string p.body]
      have hWb : Below wr.heap.size wr (wr.alloc (.cells #[.int .i64 p.life, .int .i64 p.place, .bool p.first, .bool p.last, .string p.body] 148)) := (Below.refl _ _).alloc (Nat.le_refl _) _
      replace hW := Lib.hid hW
      replace hWb := Lib.hid hWb
      have cK : ∀ W : World, Calls Try.prog 101 #[.agg #[.int .i64 p.life, .int .i64 p.place, .bool p.first, .bool p.last, .string p.body]] W fun e w' => e = .returned (.bool okb) ∧ Below W.heap.size W w' := by
        intro W
        have := check_any p W
        rw [hok] at this
        exact this
      replace cK := Lib.hid cK
      cases okb with
      | false =>
        replace hok := Lib.hid hok
        go_wp2_with fail
        generalize (wr.alloc (Obj.cells #[.int .i64 p.life, .int .i64 p.place, .bool p.first, .bool p.last, .string p.body] 148)) = W1 at hW hWb ⊢
        have k0 : ∀ s : Past W1, s.1.cell? ⟨wr.heap.size, 0, none⟩ = some (.int .i64 p.life) := fun s => s.cell (hW.out.cell 0)
        have k1 : ∀ s : Past W1, s.1.cell? ⟨wr.heap.size, 1, none⟩ = some (.int .i64 p.place) := fun s => s.cell (hW.out.cell 1)
        have k2 : ∀ s : Past W1, s.1.cell? ⟨wr.heap.size, 2, none⟩ = some (.bool p.first) := fun s => s.cell (hW.out.cell 2)
        have k3 : ∀ s : Past W1, s.1.cell? ⟨wr.heap.size, 3, none⟩ = some (.bool p.last) := fun s => s.cell (hW.out.cell 3)
        have k4 : ∀ s : Past W1, s.1.cell? ⟨wr.heap.size, 4, none⟩ = some (.string p.body) := fun s => s.cell (hW.out.cell 4)
        have y0 : ∀ s : Past W1, s.1.cell? ⟨b, off, none⟩ = some (.int .i64 l0.life) := fun s => s.cell ((hWb.out.cell (World.block_lt_of_cell? _ _ z0)).trans z0)
        have y1 : ∀ s : Past W1, s.1.cell? ⟨b, off + 1, none⟩ = some (.int .i64 l0.place) := fun s => s.cell ((hWb.out.cell (World.block_lt_of_cell? _ _ z1)).trans z1)
        refine wp_region_past_lit (by kernel_rfl) (by kernel_rfl) ?_
        repeat (go_big_quiet_step ((go_at_call 101; refine Calls.past (cK.out _))))
        refine wpQuiet_nil ?_
        rintro w5 ⟨⟨_, hb5⟩, rfl⟩
        replace hb5 : Below wr.heap.size wr w5 := hWb.out.trans (hb5.mono hWb.out.size)
        go_wp2_with fail
        go_ret2
        have hbad : ¬ joinAt l0 n j p = true := by
          rw [hat.out]
          rintro ⟨q1, q2, q3, q4, q5, q6, q7⟩
          first | exact absurd q2 hlf.out | exact absurd q3 hpl.out | exact absurd (hok.out.symm.trans q1) (by simp)
        rw [hno.out hbad]
        exact ⟨rfl, hb.trans (hb5.mono hb.size)⟩
      | true =>
        have hl0k : l0.ok = true := by
          by_cases h : 0 < j
          · exact hl0.out h
          · rw [← hl1.out (by omega)]; exact hok
        rw [Pc.ok_iff] at hl0k
        have hpk := (Pc.ok_iff _).1 hok
        replace hok := Lib.hid hok
        by_cases hlf : p.life = l0.life
        · have e1 : (p.life == l0.life) = true := by rw [beq_iff_eq]; exact hlf
          have e2 : (p.life != l0.life) = false := by rw [bne, e1]; rfl
          replace hlf := Lib.hid hlf
          by_cases hpl : p.place = l0.place + j
          · have e3 : (p.place == l0.place + (j : Int)) = true := by rw [beq_iff_eq]; exact hpl
            have e4 : (p.place != l0.place + (j : Int)) = false := by rw [bne, e3]; rfl
            replace hpl := Lib.hid hpl
            go_wp2_with fail
            generalize (wr.alloc (Obj.cells #[.int .i64 p.life, .int .i64 p.place, .bool p.first, .bool p.last, .string p.body] 148)) = W1 at hW hWb ⊢
            have k0 : ∀ s : Past W1, s.1.cell? ⟨wr.heap.size, 0, none⟩ = some (.int .i64 p.life) := fun s => s.cell (hW.out.cell 0)
            have k1 : ∀ s : Past W1, s.1.cell? ⟨wr.heap.size, 1, none⟩ = some (.int .i64 p.place) := fun s => s.cell (hW.out.cell 1)
            have k2 : ∀ s : Past W1, s.1.cell? ⟨wr.heap.size, 2, none⟩ = some (.bool p.first) := fun s => s.cell (hW.out.cell 2)
            have k3 : ∀ s : Past W1, s.1.cell? ⟨wr.heap.size, 3, none⟩ = some (.bool p.last) := fun s => s.cell (hW.out.cell 3)
            have k4 : ∀ s : Past W1, s.1.cell? ⟨wr.heap.size, 4, none⟩ = some (.string p.body) := fun s => s.cell (hW.out.cell 4)
            have y0 : ∀ s : Past W1, s.1.cell? ⟨b, off, none⟩ = some (.int .i64 l0.life) := fun s => s.cell ((hWb.out.cell (World.block_lt_of_cell? _ _ z0)).trans z0)
            have y1 : ∀ s : Past W1, s.1.cell? ⟨b, off + 1, none⟩ = some (.int .i64 l0.place) := fun s => s.cell ((hWb.out.cell (World.block_lt_of_cell? _ _ z1)).trans z1)
            refine wp_region_past_lit (by kernel_rfl) (by kernel_rfl) ?_
            repeat (go_big_quiet_step ((go_at_call 101; refine Calls.past (cK.out _))))
            refine wpQuiet_nil ?_
            rintro w5 ⟨⟨_, hb5⟩, rfl⟩
            have d2 : w5.cell? ⟨wr.heap.size, 2, none⟩ = some (.bool p.first) := k2 ⟨w5, hb5⟩
            have d3 : w5.cell? ⟨wr.heap.size, 3, none⟩ = some (.bool p.last) := k3 ⟨w5, hb5⟩
            have d4 : w5.cell? ⟨wr.heap.size, 4, none⟩ = some (.string p.body) := k4 ⟨w5, hb5⟩
            clear k0 k1 k2 k3 k4 y0 y1
            replace hb5 : Below wr.heap.size wr w5 := hWb.out.trans (hb5.mono hWb.out.size)
            have hov : ¬ 9223372036854775807 < S.size + p.body.size := by omega
            go_wp2_with fail
            all_goals first
              | (go_ret2
                 have hbad : ¬ joinAt l0 n j p = true := by
                   first
                     | exact join_bad1 l0 n j p (by assumption)
                     | exact join_bad2 l0 n j p hj (by assumption)
                     | exact join_bad3 l0 n j p (by assumption) (by assumption) (by assumption)
                     | exact join_bad4 l0 n j p (by assumption) (by assumption) (by assumption) (by assumption)
                     | exact join_bad5 l0 n j p hj (by assumption) (by assumption)
                 rw [hno.out hbad]
                 exact ⟨rfl, hb.trans (hb5.mono hb.size)⟩)
              | (go_roundg (n - (j + 1))
                 case measure => omega
                 case rel =>
                   have hgood : joinAt l0 n j p = true := by
                     first
                       | exact join_good1 l0 n j p hj hok.out hlf.out hpl.out (by assumption) (by assumption) (by assumption) (by assumption)
                       | exact join_good2 l0 n j p hj hok.out hlf.out hpl.out (by assumption) (by assumption) (by assumption) (by assumption)
                       | exact join_good3 l0 n j p hj hok.out hlf.out hpl.out (by assumption) (by assumption) (by assumption) (by assumption)
                       | exact join_good4 l0 n j p hj hok.out hlf.out hpl.out (by assumption) (by assumption) (by assumption) (by assumption)
                   refine ⟨j + 1, by omega, (congrArg (Value.int .i64) (by omega)), congrArg Value.string hcat.out, ?_, hb.trans (hb5.mono hb.size), ?_⟩
                   · rw [← hcat.out, ByteArray.size_append]
                     omega
                   · intro l0' h0' i q hi hq
                     by_cases hij : i < j
                     · exact hall.out l0' h0' i q hij hq
                     · have : i = j := by omega
                       subst this
                       rw [hp.out] at hq
                       rw [h0.out] at h0'
                       cases hq
                       cases h0'
                       exact hgood)
          · have e3 : (p.place == l0.place + (j : Int)) = false := by rw [beq_eq_false_iff_ne]; exact hpl
            have e4 : (p.place != l0.place + (j : Int)) = true := by rw [bne, e3]; rfl
            replace hpl := Lib.hid hpl
            go_wp2_with fail
            generalize (wr.alloc (Obj.cells #[.int .i64 p.life, .int .i64 p.place, .bool p.first, .bool p.last, .string p.body] 148)) = W1 at hW hWb ⊢
            have k0 : ∀ s : Past W1, s.1.cell? ⟨wr.heap.size, 0, none⟩ = some (.int .i64 p.life) := fun s => s.cell (hW.out.cell 0)
            have k1 : ∀ s : Past W1, s.1.cell? ⟨wr.heap.size, 1, none⟩ = some (.int .i64 p.place) := fun s => s.cell (hW.out.cell 1)
            have k2 : ∀ s : Past W1, s.1.cell? ⟨wr.heap.size, 2, none⟩ = some (.bool p.first) := fun s => s.cell (hW.out.cell 2)
            have k3 : ∀ s : Past W1, s.1.cell? ⟨wr.heap.size, 3, none⟩ = some (.bool p.last) := fun s => s.cell (hW.out.cell 3)
            have k4 : ∀ s : Past W1, s.1.cell? ⟨wr.heap.size, 4, none⟩ = some (.string p.body) := fun s => s.cell (hW.out.cell 4)
            have y0 : ∀ s : Past W1, s.1.cell? ⟨b, off, none⟩ = some (.int .i64 l0.life) := fun s => s.cell ((hWb.out.cell (World.block_lt_of_cell? _ _ z0)).trans z0)
            have y1 : ∀ s : Past W1, s.1.cell? ⟨b, off + 1, none⟩ = some (.int .i64 l0.place) := fun s => s.cell ((hWb.out.cell (World.block_lt_of_cell? _ _ z1)).trans z1)
            refine wp_region_past_lit (by kernel_rfl) (by kernel_rfl) ?_
            repeat (go_big_quiet_step ((go_at_call 101; refine Calls.past (cK.out _))))
            refine wpQuiet_nil ?_
            rintro w5 ⟨⟨_, hb5⟩, rfl⟩
            replace hb5 : Below wr.heap.size wr w5 := hWb.out.trans (hb5.mono hWb.out.size)
            go_wp2_with fail
            go_ret2
            have hbad : ¬ joinAt l0 n j p = true := by
              rw [hat.out]
              rintro ⟨q1, q2, q3, q4, q5, q6, q7⟩
              first | exact absurd q2 hlf.out | exact absurd q3 hpl.out | exact absurd (hok.out.symm.trans q1) (by simp)
            rw [hno.out hbad]
            exact ⟨rfl, hb.trans (hb5.mono hb.size)⟩
        · have e3 : (p.life == l0.life) = false := by rw [beq_eq_false_iff_ne]; exact hlf
          have e4 : (p.life != l0.life) = true := by rw [bne, e3]; rfl
          replace hlf := Lib.hid hlf
          go_wp2_with fail
          generalize (wr.alloc (Obj.cells #[.int .i64 p.life, .int .i64 p.place, .bool p.first, .bool p.last, .string p.body] 148)) = W1 at hW hWb ⊢
          have k0 : ∀ s : Past W1, s.1.cell? ⟨wr.heap.size, 0, none⟩ = some (.int .i64 p.life) := fun s => s.cell (hW.out.cell 0)
          have k1 : ∀ s : Past W1, s.1.cell? ⟨wr.heap.size, 1, none⟩ = some (.int .i64 p.place) := fun s => s.cell (hW.out.cell 1)
          have k2 : ∀ s : Past W1, s.1.cell? ⟨wr.heap.size, 2, none⟩ = some (.bool p.first) := fun s => s.cell (hW.out.cell 2)
          have k3 : ∀ s : Past W1, s.1.cell? ⟨wr.heap.size, 3, none⟩ = some (.bool p.last) := fun s => s.cell (hW.out.cell 3)
          have k4 : ∀ s : Past W1, s.1.cell? ⟨wr.heap.size, 4, none⟩ = some (.string p.body) := fun s => s.cell (hW.out.cell 4)
          have y0 : ∀ s : Past W1, s.1.cell? ⟨b, off, none⟩ = some (.int .i64 l0.life) := fun s => s.cell ((hWb.out.cell (World.block_lt_of_cell? _ _ z0)).trans z0)
          have y1 : ∀ s : Past W1, s.1.cell? ⟨b, off + 1, none⟩ = some (.int .i64 l0.place) := fun s => s.cell ((hWb.out.cell (World.block_lt_of_cell? _ _ z1)).trans z1)
          refine wp_region_past_lit (by kernel_rfl) (by kernel_rfl) ?_
          repeat (go_big_quiet_step ((go_at_call 101; refine Calls.past (cK.out _))))
          refine wpQuiet_nil ?_
          rintro w5 ⟨⟨_, hb5⟩, rfl⟩
          replace hb5 : Below wr.heap.size wr w5 := hWb.out.trans (hb5.mono hWb.out.size)
          go_wp2_with fail
          go_ret2
          have hbad : ¬ joinAt l0 n j p = true := by
            rw [hat.out]
            rintro ⟨q1, q2, q3, q4, q5, q6, q7⟩
            first | exact absurd q2 hlf.out | exact absurd q3 hpl.out | exact absurd (hok.out.symm.trans q1) (by simp)
          rw [hno.out hbad]
          exact ⟨rfl, hb.trans (hb5.mono hb.size)⟩
    · have e : j = n := by omega
      subst e
      go_wp2_with fail
      go_ret2
      have hx : joinB ps = (str (catB (ps.take j)), decide (0 < j)) := by
        have h1 := hn.out
        by_cases h : 0 < j
        · obtain ⟨l0, h0⟩ : ∃ p, ps[0]? = some p := ⟨_, List.getElem?_eq_getElem (by omega)⟩
          rw [joinB, if_pos, List.take_of_length_le (by omega)]
          · simp [h]
          · rw [joinOk_iff _ _ h0]
            intro i p hp
            rw [← h1]
            exact hall l0 h0 i p (by rw [h1]; exact (List.getElem?_eq_some_iff.1 hp).1) hp
        · have : ps = [] := List.eq_nil_of_length_eq_zero (by omega)
          subst this
          have : j = 0 := by omega
          subst this
          rfl
      rw [hx]
      exact ⟨rfl, hb⟩

end Go.Proofs.Ytlhpibniecfofaa
end
