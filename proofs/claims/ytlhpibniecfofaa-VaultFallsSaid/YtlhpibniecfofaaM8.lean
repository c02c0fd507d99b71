/- Texts laid together: Root3 Root7 Vault1 Vault2 Vault3 Vault4 ArrEq Reader. -/
import Derived.ChangeKeysEq
import Derived.Test.YtlhpibniecfofaaM1
import Derived.Test.YtlhpibniecfofaaM3
import Derived.Test.YtlhpibniecfofaaM4
import Derived.Test.YtlhpibniecfofaaM7
section
/- Roots: Put, in the program and in the reference. -/
set_option linter.unusedSimpArgs false
set_option linter.unusedVariables false
namespace Go.Proofs.Ytlhpibniecfofaa
open Go.RowKit Go.Ofp
set_option linter.unusedVariables false
set_option maxRecDepth 100000
set_option maxHeartbeats 4000000

theorem tput_any (x : Rt) (w : World) : Calls Try.prog 32 #[.agg #[.int .i64 x.seq, .int .i64 x.life, .int .i64 x.head]] w fun e w' => e = .returned (.string (str x.putB)) ∧ Below w.heap.size w w' := by
  have hS := St.start w
  have cK := fun W => tcheck_any x W
  have cO := fun W => of_root x W
  have hsl := x.secB_length
  unfold Rt.putB
  have es := elem_sector
  generalize hz : ((zeros 64).map vb).toArray = z64 at es
  have hall : ((z64.toList.take 0 ++ x.secB.map vb ++ z64.toList.drop (0 + 64)).toArray : Array Value) = (x.secB.map vb).toArray := by
    rw [← hz]
    simp [zeros]
  have hsz64 : z64.size = 64 := by rw [← hz]; simp [zeros]
  generalize x.secB = SB at *
  have hone' : (SB.map vb).all Value.oneCell' = true := List.all_eq_true.2 (vb_one SB)
  have hsl2 : (SB.map vb).length = 64 := by rw [List.length_map, hsl]
  have hble : Nat.ble (0 + 64) z64.size = true := by rw [hsz64]; rfl
  obtain ⟨b, hb⟩ : ∃ b, x.ok = b := ⟨_, rfl⟩
  rw [hb] at cK ⊢
  clear hz hsz64 hb
  replace cK := Lib.hid cK
  replace cO := Lib.hid cO
  replace hall := Lib.hid hall
  replace hone' := Lib.hid hone'
  replace hsl := Lib.hid hsl
  replace hsl2 := Lib.hid hsl2
  replace hble := Lib.hid hble
  cases b with
  | false =>
    simp only [Bool.false_eq_true, if_false]
    go_enter Try.func32, Try.ntmps32
    go_wp2_with (first
      | (with_reducible refine wpList_box_st hS rfl rfl rfl ?_; intro g1 w1 hS1; clear hS; replace hS := hS1; clear hS1) | (with_reducible refine wpList_box1_st hS rfl rfl rfl ?_; intro g1 w1 hS1; clear hS; replace hS := hS1; clear hS1) | (with_reducible refine wpList_alloc_st hS rfl rfl (by assumption) ?_; intro g1 w1 hS1; clear hS; replace hS := hS1; clear hS1) | (with_reducible refine wpList_alloc1_st hS rfl rfl (by assumption) rfl ?_; intro g1 w1 hS1; clear hS; replace hS := hS1; clear hS1) | ((with_reducible refine wpList_load_st 0 hS rfl rfl rfl rfl ?_ rfl ?_); focus (simp [scalarB, go_sem]; done)) | ((with_reducible refine wpList_loadall_st 0 hS rfl rfl rfl rfl ?_ (by kernel_rfl) ?_); focus (simp [rowB, go_sem]; done)) | ((with_reducible refine wpList_store_st 0 hS rfl rfl rfl rfl (by kernel_rfl) rfl rfl ?_); intro w1 hS1; clear hS; replace hS := hS1; clear hS1; try simp only [List.set_cons_zero, List.set_cons_succ, List.setIfInBounds_toArray, List.take_succ_cons, List.take_zero, List.drop_succ_cons, List.drop_zero, List.nil_append, List.cons_append, List.append_nil, List.drop_nil, List.take_nil, List.length_cons, List.length_nil, Nat.zero_add, Nat.add_zero, Nat.reduceAdd] at hS) | ((with_reducible refine wpList_storerow_st 0 hS rfl rfl rfl rfl (by kernel_rfl) rfl rfl rfl rfl ?_); intro w1 hS1; clear hS; replace hS := hS1; clear hS1; try simp only [List.set_cons_zero, List.set_cons_succ, List.setIfInBounds_toArray, List.take_succ_cons, List.take_zero, List.drop_succ_cons, List.drop_zero, List.nil_append, List.cons_append, List.append_nil, List.drop_nil, List.take_nil, List.length_cons, List.length_nil, Nat.zero_add, Nat.add_zero, Nat.reduceAdd] at hS)
      | (go_at_call 29; (with_reducible refine (cK.out _).mono ?_); rintro _ w3 ⟨rfl, hb3⟩; have hS1 := hS.keepB hb3; clear hb3 hS; have hS := hS1; clear hS1))
    go_ret
    exact ⟨rfl, hS.below⟩
  | true =>
    simp only [if_true]
    go_enter Try.func32, Try.ntmps32
    go_wp2_with (first
      | (go_at_call 29; (with_reducible refine (cK.out _).mono ?_); rintro _ w3 ⟨rfl, hb3⟩; have hS1 := hS.keepB hb3; clear hb3 hS; have hS := hS1; clear hS1)
      | (go_at_call 76; (with_reducible refine (cO.out _).mono ?_); rintro _ w4 ⟨rfl, hb4⟩; have hS1 := hS.keepB hb4; clear hb4 hS; have hS := hS1; clear hS1)
      | ((with_reducible refine wpList_storerow_st 0 (vs := SB.map vb) (n := 64) hS rfl rfl rfl rfl (by kernel_rfl) rfl hsl2.out hone'.out hble.out ?_); intro w10 hS1; clear hS; simp only [List.set_cons_succ, List.set_cons_zero] at hS1; rw [hall.out] at hS1; have hS := hS1; clear hS1)
      | (with_reducible refine wpList_bts (l := SB) rfl rfl Try.underlying127 Try.underlying5 Try.underlying9 rfl (hS.blksl2 0 rfl) hsl.out.symm ?_)
      | (with_reducible refine wpList_box_st hS rfl rfl rfl ?_; intro g1 w1 hS1; clear hS; replace hS := hS1; clear hS1) | (with_reducible refine wpList_box1_st hS rfl rfl rfl ?_; intro g1 w1 hS1; clear hS; replace hS := hS1; clear hS1) | (with_reducible refine wpList_alloc_st hS rfl rfl (by assumption) ?_; intro g1 w1 hS1; clear hS; replace hS := hS1; clear hS1) | (with_reducible refine wpList_alloc1_st hS rfl rfl (by assumption) rfl ?_; intro g1 w1 hS1; clear hS; replace hS := hS1; clear hS1) | ((with_reducible refine wpList_load_st 0 hS rfl rfl rfl rfl ?_ rfl ?_); focus (simp [scalarB, go_sem]; done)) | ((with_reducible refine wpList_loadall_st 0 hS rfl rfl rfl rfl ?_ (by kernel_rfl) ?_); focus (simp [rowB, go_sem]; done)) | ((with_reducible refine wpList_store_st 0 hS rfl rfl rfl rfl (by kernel_rfl) rfl rfl ?_); intro w1 hS1; clear hS; replace hS := hS1; clear hS1; try simp only [List.set_cons_zero, List.set_cons_succ, List.setIfInBounds_toArray, List.take_succ_cons, List.take_zero, List.drop_succ_cons, List.drop_zero, List.nil_append, List.cons_append, List.append_nil, List.drop_nil, List.take_nil, List.length_cons, List.length_nil, Nat.zero_add, Nat.add_zero, Nat.reduceAdd] at hS) | ((with_reducible refine wpList_storerow_st 0 hS rfl rfl rfl rfl (by kernel_rfl) rfl rfl rfl rfl ?_); intro w1 hS1; clear hS; replace hS := hS1; clear hS1; try simp only [List.set_cons_zero, List.set_cons_succ, List.setIfInBounds_toArray, List.take_succ_cons, List.take_zero, List.drop_succ_cons, List.drop_zero, List.nil_append, List.cons_append, List.append_nil, List.drop_nil, List.take_nil, List.length_cons, List.length_nil, Nat.zero_add, Nat.add_zero, Nat.reduceAdd] at hS))
    go_ret
    exact ⟨rfl, hS.below⟩

end Go.Proofs.Ytlhpibniecfofaa
end

section
/- Roots: Store, in the program and in the reference. -/
set_option linter.unusedSimpArgs false
set_option linter.unusedVariables false
namespace Go.Proofs.Ytlhpibniecfofaa
open Go.RowKit Go.Ofp
set_option linter.unusedVariables false
set_option maxRecDepth 100000
set_option maxHeartbeats 4000000

theorem and_one (z : Int) (h : 1 ≤ z) (h2 : z < 4294967296) : bits .and .i64 z 1 = z % 2 := by
  obtain ⟨n, rfl⟩ := Int.eq_ofNat_of_zero_le (show 0 ≤ z by omega)
  have e := i64_and_nat n 1 (by omega) (by decide)
  rw [Nat.and_one_is_mod] at e
  exact e

theorem tstore_any (bd : Nat) (sv wv : Value) (d : Dk) (n k : Nat) (x : Rt) (w : World) (h : St w (feet (dks bd sv wv d)) (dks bd sv wv d) w) (hfit : d.Fit n k) (hn : n ≤ 100000) (hk : k ≤ 99999) :
    Calls Try.prog 35 #[.pointer (some ⟨bd, 0, none⟩), .agg #[.int .i64 x.seq, .int .i64 x.life, .int .i64 x.head]] w fun e w' => e = .returned (.int .i64 (d.store x).2) ∧ ∃ wv', St w (feet (dks bd sv wv d)) (dks bd sv wv' (d.store x).1) w' := by
  have hS := h
  have hok := hfit.ok
  have hl : d.sec.length ≤ 100000 := by have := hfit.sec; omega
  have hw : d.wait.length ≤ 100000 := by have := hfit.wait; omega
  have cK := fun W => tcheck_any x W
  have cP := fun W => tput_any x W
  have cZ := fun W hh => size_any bd sv wv d W hh
  generalize feet (dks bd sv wv d) = F at hS h ⊢
  clear h
  have hS1 : St w F (dks bd sv wv d ++ []) w := by rw [List.append_nil]; exact hS
  clear hS
  have hS := hS1
  clear hS1
  replace cP := Lib.hid cP
  by_cases hxo : x.ok = true
  · rw [hxo] at cK
    replace cK := Lib.hid cK
    by_cases hs2 : d.sec.length < 2
    · have hd : d.store x = (d, 1) := by rw [Dk.store, if_pos (.inr hs2)]
      have ds2 : decide ((d.sec.length : Int) < 2) = true := decide_eq_true (by omega)
      clear hs2 hfit hok hl hw hxo
      replace hd := Lib.hid hd
      replace cZ := Lib.hid cZ
      go_enter Try.func35, Try.ntmps35
      go_wp2_with (first
        | (go_at_call 29; (with_reducible refine (cK.out _).mono ?_); rintro _ w3 ⟨rfl, hb3⟩; have hS1 := hS.keepB hb3; clear hb3 hS; have hS := hS1; clear hS1)
        | (go_at_call 23; (with_reducible refine (cZ.out _ hS.pre1).mono ?_); rintro _ _ ⟨rfl, rfl⟩)
        | (with_reducible refine wpList_box_st hS rfl rfl rfl ?_; intro g1 w1 hS1; clear hS; replace hS := hS1; clear hS1) | (with_reducible refine wpList_box1_st hS rfl rfl rfl ?_; intro g1 w1 hS1; clear hS; replace hS := hS1; clear hS1) | (with_reducible refine wpList_alloc_st hS rfl rfl (by assumption) ?_; intro g1 w1 hS1; clear hS; replace hS := hS1; clear hS1) | (with_reducible refine wpList_alloc1_st hS rfl rfl (by assumption) rfl ?_; intro g1 w1 hS1; clear hS; replace hS := hS1; clear hS1) | ((with_reducible refine wpList_load_st 0 hS rfl rfl rfl rfl ?_ rfl ?_); focus (simp [scalarB, go_sem]; done)) | ((with_reducible refine wpList_loadall_st 0 hS rfl rfl rfl rfl ?_ (by kernel_rfl) ?_); focus (simp [rowB, go_sem]; done)) | ((with_reducible refine wpList_store_st 0 hS rfl rfl rfl rfl (by kernel_rfl) rfl rfl ?_); intro w1 hS1; clear hS; replace hS := hS1; clear hS1; try simp only [List.set_cons_zero, List.set_cons_succ, List.setIfInBounds_toArray, List.take_succ_cons, List.take_zero, List.drop_succ_cons, List.drop_zero, List.nil_append, List.cons_append, List.append_nil, List.drop_nil, List.take_nil, List.length_cons, List.length_nil, Nat.zero_add, Nat.add_zero, Nat.reduceAdd] at hS) | ((with_reducible refine wpList_storerow_st 0 hS rfl rfl rfl rfl (by kernel_rfl) rfl rfl rfl rfl ?_); intro w1 hS1; clear hS; replace hS := hS1; clear hS1; try simp only [List.set_cons_zero, List.set_cons_succ, List.setIfInBounds_toArray, List.take_succ_cons, List.take_zero, List.drop_succ_cons, List.drop_zero, List.nil_append, List.cons_append, List.append_nil, List.drop_nil, List.take_nil, List.length_cons, List.length_nil, Nat.zero_add, Nat.add_zero, Nat.reduceAdd] at hS))
      go_ret
      exact ⟨by first | (rw [hd.out]; done) | (rw [hd.out]; rfl), _, by rw [hd.out]; simpa using hS.drop⟩
    · obtain ⟨q1, q2, -⟩ := (Rt.ok_iff x).1 hxo
      have hseq := and_one x.seq q1 q2
      have ds2 : decide ((d.sec.length : Int) < 2) = false := decide_eq_false (by omega)
      have hpl : (str x.putB).size ≤ maxLen := by rw [str_size, Rt.putB, if_pos hxo, Rt.secB_length]; unfold maxLen; omega
      have cW := fun W hh => write_any bd sv wv d (x.seq % 2) (str x.putB) W hh hpl hw hfit.fuse
      rw [str_data] at cW
      have hfw := hfit.write (x.seq % 2) x.putB
      have hd : d.store x = if (d.write (x.seq % 2) x.putB).2 = 0 then (d.write (x.seq % 2) x.putB).1.sync else ((d.write (x.seq % 2) x.putB).1, (d.write (x.seq % 2) x.putB).2) := by
        rw [Dk.store, if_neg]
        intro hh
        rcases hh with hh | hh
        · rw [hxo] at hh; cases hh
        · exact hs2 hh
      obtain ⟨d1, e1, hde⟩ : ∃ d1 e1, d.write (x.seq % 2) x.putB = (d1, e1) := ⟨_, _, rfl⟩
      rw [hde] at cW hfw hd
      simp only at cW hfw hd
      have cS := fun (wv' : Value) W hh => sync_any bd sv wv' d1 W hh hfw.ok (by have := hfw.wait; omega) hfw.fuse
      clear hfit hok hl hw hxo hs2 hfw hde hpl q1 q2
      replace cW := Lib.hid cW
      replace cS := Lib.hid cS
      replace cZ := Lib.hid cZ
      go_enter Try.func35, Try.ntmps35
      go_wp2_with (first
        | (go_at_call 29; (with_reducible refine (cK.out _).mono ?_); rintro _ w3 ⟨rfl, hb3⟩; have hS1 := hS.keepB hb3; clear hb3 hS; have hS := hS1; clear hS1)
        | (go_at_call 23; (with_reducible refine (cZ.out _ hS.pre1).mono ?_); rintro _ _ ⟨rfl, rfl⟩)
        | (with_reducible refine wpList_box_st hS rfl rfl rfl ?_; intro g1 w1 hS1; clear hS; replace hS := hS1; clear hS1) | (with_reducible refine wpList_box1_st hS rfl rfl rfl ?_; intro g1 w1 hS1; clear hS; replace hS := hS1; clear hS1) | (with_reducible refine wpList_alloc_st hS rfl rfl (by assumption) ?_; intro g1 w1 hS1; clear hS; replace hS := hS1; clear hS1) | (with_reducible refine wpList_alloc1_st hS rfl rfl (by assumption) rfl ?_; intro g1 w1 hS1; clear hS; replace hS := hS1; clear hS1) | ((with_reducible refine wpList_load_st 0 hS rfl rfl rfl rfl ?_ rfl ?_); focus (simp [scalarB, go_sem]; done)) | ((with_reducible refine wpList_loadall_st 0 hS rfl rfl rfl rfl ?_ (by kernel_rfl) ?_); focus (simp [rowB, go_sem]; done)) | ((with_reducible refine wpList_store_st 0 hS rfl rfl rfl rfl (by kernel_rfl) rfl rfl ?_); intro w1 hS1; clear hS; replace hS := hS1; clear hS1; try simp only [List.set_cons_zero, List.set_cons_succ, List.setIfInBounds_toArray, List.take_succ_cons, List.take_zero, List.drop_succ_cons, List.drop_zero, List.nil_append, List.cons_append, List.append_nil, List.drop_nil, List.take_nil, List.length_cons, List.length_nil, Nat.zero_add, Nat.add_zero, Nat.reduceAdd] at hS) | ((with_reducible refine wpList_storerow_st 0 hS rfl rfl rfl rfl (by kernel_rfl) rfl rfl rfl rfl ?_); intro w1 hS1; clear hS; replace hS := hS1; clear hS1; try simp only [List.set_cons_zero, List.set_cons_succ, List.setIfInBounds_toArray, List.take_succ_cons, List.take_zero, List.drop_succ_cons, List.drop_zero, List.nil_append, List.cons_append, List.append_nil, List.drop_nil, List.take_nil, List.length_cons, List.length_nil, Nat.zero_add, Nat.add_zero, Nat.reduceAdd] at hS))
      refine mixs_beginC 0 (by kernel_rfl) hS rfl ?_
      clear hS
      intro w2 hS hC
      have kC := hC.kblk 0 rfl
      refine mixs_take 0 (v := ?_) rfl (by kernel_rfl) (fun _ _ _ h => h) (by kernel_rfl) (by assumption) (fun s => ?hy) ?_; case hy => (go_simp <;> with_reducible rfl)
      try simp only [List.getElem_toArray, List.getElem_cons_succ, List.getElem_cons_zero, Act.put, List.setIfInBounds_toArray, List.set_cons_zero, List.set_cons_succ]
      refine mixs_take 1 (v := ?_) rfl (by kernel_rfl) (fun _ _ _ h => h) (by kernel_rfl) (by assumption) (fun s => ?hy) ?_; case hy => (go_simp <;> with_reducible rfl)
      try simp only [List.getElem_toArray, List.getElem_cons_succ, List.getElem_cons_zero, Act.put, List.setIfInBounds_toArray, List.set_cons_zero, List.set_cons_succ]
      refine mixs_take 2 (v := ?_) rfl (by kernel_rfl) (fun _ _ _ h => h) (by kernel_rfl) (by assumption) (fun s => ?hy) ?_; case hy => (go_simp <;> with_reducible rfl)
      try simp only [List.getElem_toArray, List.getElem_cons_succ, List.getElem_cons_zero, Act.put, List.setIfInBounds_toArray, List.set_cons_zero, List.set_cons_succ]
      refine mixs_take 3 (v := ?_) rfl (by kernel_rfl) (fun _ _ _ h => h) (by kernel_rfl) (by assumption) (fun s => ?hy) ?_; case hy => (go_simp <;> with_reducible rfl)
      try simp only [List.getElem_toArray, List.getElem_cons_succ, List.getElem_cons_zero, Act.put, List.setIfInBounds_toArray, List.set_cons_zero, List.set_cons_succ]
      refine mixs_take 4 (v := ?_) rfl (by kernel_rfl) (fun _ _ _ h => h) (by kernel_rfl) (by assumption) (fun s => ?hy) ?_; case hy => (go_simp <;> with_reducible rfl)
      try simp only [List.getElem_toArray, List.getElem_cons_succ, List.getElem_cons_zero, Act.put, List.setIfInBounds_toArray, List.set_cons_zero, List.set_cons_succ]
      refine mixs_one 5 (by kernel_rfl) rfl (fun K hK => ?_)
      go_simp
      ( first | (go_at_call 32; (with_reducible refine (cP.out _).mono ?_); rintro _ w4 ⟨rfl, hb4⟩; have hS1 := hS.keepB hb4; clear hb4 hS; have hS := hS1; clear hS1) | (go_at_call 17; (with_reducible refine (cW.out _ hS.pre1).mono ?_); rintro _ w5 ⟨rfl, wv5, hk⟩; have hS1 := hS.call1 hk; clear hS hk; have hS := hS1; clear hS1) )
      try clear hC
      refine hK.out _ _ _ (fun _ h => h) (by first | exact hS | exact hS.drop | exact hS.drop.drop | exact hS.drop.drop.drop | exact hS.drop.drop.drop.drop | exact hS.empty | exact hS.one 0 rfl | exact hS.one 1 rfl | exact hS.one 2 rfl | exact hS.one 3 rfl | exact hS.one 4 rfl | exact hS.one 5 rfl | exact hS.one 6 rfl | exact hS.one 7 rfl | exact hS.one 8 rfl | exact hS.one 9 rfl | exact hS.one 10 rfl | exact hS.one 11 rfl) (fun hC => ?_)
      clear hK K
      try simp only [List.getElem_toArray, List.getElem_cons_succ, List.getElem_cons_zero, Act.put, List.setIfInBounds_toArray, List.set_cons_zero, List.set_cons_succ]
      refine mixs_one 6 (by kernel_rfl) rfl (fun K hK => ?_)
      go_simp
      ( first | (go_at_call 32; (with_reducible refine (cP.out _).mono ?_); rintro _ w4 ⟨rfl, hb4⟩; have hS1 := hS.keepB hb4; clear hb4 hS; have hS := hS1; clear hS1) | (go_at_call 17; (with_reducible refine (cW.out _ hS.pre1).mono ?_); rintro _ w5 ⟨rfl, wv5, hk⟩; have hS1 := hS.call1 hk; clear hS hk; have hS := hS1; clear hS1) )
      try clear hC
      refine hK.out _ _ _ (fun _ h => h) (by first | exact hS | exact hS.drop | exact hS.drop.drop | exact hS.drop.drop.drop | exact hS.drop.drop.drop.drop | exact hS.empty | exact hS.one 0 rfl | exact hS.one 1 rfl | exact hS.one 2 rfl | exact hS.one 3 rfl | exact hS.one 4 rfl | exact hS.one 5 rfl | exact hS.one 6 rfl | exact hS.one 7 rfl | exact hS.one 8 rfl | exact hS.one 9 rfl | exact hS.one 10 rfl | exact hS.one 11 rfl) (fun hC => ?_)
      clear hK K
      try simp only [List.getElem_toArray, List.getElem_cons_succ, List.getElem_cons_zero, Act.put, List.setIfInBounds_toArray, List.set_cons_zero, List.set_cons_succ]
      refine mixs_take 7 (v := ?_) rfl (by kernel_rfl) (fun _ _ _ h => h) (by kernel_rfl) (by assumption) (fun s => ?hy) ?_; case hy => (go_simp <;> with_reducible rfl)
      try simp only [List.getElem_toArray, List.getElem_cons_succ, List.getElem_cons_zero, Act.put, List.setIfInBounds_toArray, List.set_cons_zero, List.set_cons_succ]
      refine wpAnyH_done (by kernel_rfl) ?_ _
      try clear hC
      try clear kC
      by_cases he : e1 = 0
      · have hd2 : d.store x = d1.sync := hd.trans (if_pos he)
        subst he
        replace hd2 := Lib.hid hd2
        clear hd
        go_wp2_with (first
          | (go_at_call 19; (with_reducible refine (cS.out _ _ hS.pre1).mono ?_); rintro _ w6 ⟨rfl, wv6, hk⟩; have hS1 := hS.call1 hk; clear hS hk; have hS := hS1; clear hS1))
        go_ret
        exact ⟨by first | (rw [hd2.out]; done) | (rw [hd2.out]; rfl), _, by rw [hd2.out]; simpa using hS.drop⟩
      · have hd2 : d.store x = (d1, e1) := hd.trans (if_neg he)
        have hen : (e1 != 0) = true := by simp [he]
        clear he
        replace hd2 := Lib.hid hd2
        clear hd
        go_wp2_with fail
        go_ret
        exact ⟨by first | (rw [hd2.out]; done) | (rw [hd2.out]; rfl), _, by rw [hd2.out]; simpa using hS.drop⟩
  · have hxf : x.ok = false := by simpa using hxo
    have hd : d.store x = (d, 1) := by rw [Dk.store, if_pos (.inl hxf)]
    rw [hxf] at cK
    clear hfit hok hl hw hxo hxf
    replace cK := Lib.hid cK
    replace hd := Lib.hid hd
    replace cZ := Lib.hid cZ
    go_enter Try.func35, Try.ntmps35
    go_wp2_with (first
      | (go_at_call 29; (with_reducible refine (cK.out _).mono ?_); rintro _ w3 ⟨rfl, hb3⟩; have hS1 := hS.keepB hb3; clear hb3 hS; have hS := hS1; clear hS1)
      | (with_reducible refine wpList_box_st hS rfl rfl rfl ?_; intro g1 w1 hS1; clear hS; replace hS := hS1; clear hS1) | (with_reducible refine wpList_box1_st hS rfl rfl rfl ?_; intro g1 w1 hS1; clear hS; replace hS := hS1; clear hS1) | (with_reducible refine wpList_alloc_st hS rfl rfl (by assumption) ?_; intro g1 w1 hS1; clear hS; replace hS := hS1; clear hS1) | (with_reducible refine wpList_alloc1_st hS rfl rfl (by assumption) rfl ?_; intro g1 w1 hS1; clear hS; replace hS := hS1; clear hS1) | ((with_reducible refine wpList_load_st 0 hS rfl rfl rfl rfl ?_ rfl ?_); focus (simp [scalarB, go_sem]; done)) | ((with_reducible refine wpList_loadall_st 0 hS rfl rfl rfl rfl ?_ (by kernel_rfl) ?_); focus (simp [rowB, go_sem]; done)) | ((with_reducible refine wpList_store_st 0 hS rfl rfl rfl rfl (by kernel_rfl) rfl rfl ?_); intro w1 hS1; clear hS; replace hS := hS1; clear hS1; try simp only [List.set_cons_zero, List.set_cons_succ, List.setIfInBounds_toArray, List.take_succ_cons, List.take_zero, List.drop_succ_cons, List.drop_zero, List.nil_append, List.cons_append, List.append_nil, List.drop_nil, List.take_nil, List.length_cons, List.length_nil, Nat.zero_add, Nat.add_zero, Nat.reduceAdd] at hS) | ((with_reducible refine wpList_storerow_st 0 hS rfl rfl rfl rfl (by kernel_rfl) rfl rfl rfl rfl ?_); intro w1 hS1; clear hS; replace hS := hS1; clear hS1; try simp only [List.set_cons_zero, List.set_cons_succ, List.setIfInBounds_toArray, List.take_succ_cons, List.take_zero, List.drop_succ_cons, List.drop_zero, List.nil_append, List.cons_append, List.append_nil, List.drop_nil, List.take_nil, List.length_cons, List.length_nil, Nat.zero_add, Nat.add_zero, Nat.reduceAdd] at hS))
    go_ret
    exact ⟨by first | (rw [hd.out]; done) | (rw [hd.out]; rfl), _, by rw [hd.out]; simpa using hS.drop⟩
end Go.Proofs.Ytlhpibniecfofaa
end

section
/- Vaults: may, Many, Format. -/
set_option linter.unusedSimpArgs false
set_option linter.unusedVariables false
namespace Go.Proofs.Ytlhpibniecfofaa
open Go.RowKit Go.Ofp
set_option linter.unusedVariables false
set_option maxRecDepth 100000
set_option maxHeartbeats 4000000

theorem vmay_any (bd : Nat) (sv wv : Value) (d : Dk) (w : World) (h : St w (feet (dks bd sv wv d)) (dks bd sv wv d) w) (hs : d.sec.length ≤ 100000) :
    Calls Try.prog 93 #[.pointer (some ⟨bd, 0, none⟩)] w fun e w' => e = .returned (.int .i64 (if d.sec.length < 3 then 1 else 0)) ∧ w = w' := by
  have cZ := size_any bd sv wv d w h
  generalize d.sec.length = n at *
  replace cZ := Lib.hid cZ
  clear h
  by_cases h3 : n < 3
  · rw [if_pos h3]
    have h3I : (n : Int) < 3 := by omega
    go_enter Try.func93, Try.ntmps93
    go_wp2_with (first
      | (go_at_call 23; (with_reducible refine cZ.out.mono ?_); rintro _ _ ⟨rfl, rfl⟩))
    go_ret
    exact ⟨rfl, rfl⟩
  · rw [if_neg h3]
    have h3I : ¬ (n : Int) < 3 := by omega
    go_enter Try.func93, Try.ntmps93
    go_wp2_with (first
      | (go_at_call 23; (with_reducible refine cZ.out.mono ?_); rintro _ _ ⟨rfl, rfl⟩))
    go_ret
    exact ⟨rfl, rfl⟩

theorem build_root2 (w : World) : (Instr.build 50 #[(0, .int .i64 1), (1, .int .i64 1)]).run Try.prog w = .ok (.agg #[.int .i64 1, .int .i64 1, .int .i64 0]) w := by kernel_rfl

theorem vformat_any (bd : Nat) (sv wv : Value) (d : Dk) (text : ByteArray) (size k : Nat) (w : World) (h : St w (feet (dks bd sv wv d)) (dks bd sv wv d) w) (hfit : d.Fit size k) (hs : size ≤ 100000) (hk : k + manyB (text.size + 1) ≤ 90000) (ht : text.size ≤ 900000) :
    Calls Try.prog 58 #[.pointer (some ⟨bd, 0, none⟩), .string text] w fun e w' => e = .returned (.int .i64 (d.vformat text).2) ∧ ∃ wv', St w (feet (dks bd sv wv d)) (dks bd sv wv' (d.vformat text).1) w' := by
  have hsz := hfit.sec
  have cM := fun W hh => vmay_any bd sv wv d W hh (by omega)
  have cZ := fun W hh => size_any bd sv wv d W hh
  rw [hsz] at cM cZ
  have hws := whole_size text
  have hS : St w (feet (dks bd sv wv d)) (dks bd sv wv d ++ []) w := by rw [List.append_nil]; exact h
  obtain ⟨res, hres⟩ : ∃ z, d.vformat text = z := ⟨_, rfl⟩
  rw [hres]
  unfold Dk.vformat at hres
  by_cases h3 : size < 3
  · rw [if_pos (by omega)] at hres
    rw [if_pos h3] at cM
    subst hres
    generalize feet _ = F at hS ⊢
    replace cM := Lib.hid cM
    clear h hfit
    go_enter Try.func58, Try.ntmps58
    go_wp2_with (first
      | (go_at_call 93; (with_reducible refine (cM.out _ (hS.preM (A := []) (B := dks bd sv wv d) (R := []))).mono ?_); rintro _ _ ⟨rfl, rfl⟩))
    go_ret
    exact ⟨rfl, wv, by simpa using hS⟩
  · rw [if_neg (by omega)] at hres
    rw [if_neg h3] at cM
    have hvr : d.vring ⟨1, 1, 0⟩ = ⟨2, size - 2, 0, 0, 1⟩ := by unfold Dk.vring; rw [hsz]; rfl
    rw [hvr] at hres
    have hrO : (⟨2, size - 2, 0, 0, 1⟩ : Rg).Ok size := ⟨by simp only; omega, by simp only; omega, by simp only; omega, by simp only; omega, by simp⟩
    have w2 : IntKind.i64.wrap ((size : Int) - 2) = ((size - 2 : Nat) : Int) := by rw [IntWalk.i64_in _ (by omega)]; omega
    have cG : ∀ W, St W (feet (dks bd sv wv d)) (dks bd sv wv d) W → Calls Try.prog 42 #[.pointer (some ⟨bd, 0, none⟩), .int .i64 2, .int .i64 ((size - 2 : Nat) : Int), .int .i64 0, .int .i64 1] W fun e w' => ∃ g, e = .returned (.pointer (some ⟨g, 0, none⟩)) ∧ St W [] [rng g bd ⟨2, size - 2, 0, 0, 1⟩] w' := fun W hh =>
      (rgnew_any bd sv wv d 2 ((size - 2 : Nat) : Int) 0 1 W hh (by omega)).mono fun e w' hk => hk.2 (by rw [hsz, ringOk_iff]; omega)
    have cA := fun (g : Nat) W hh => rgadd_any g bd sv wv d ⟨2, size - 2, 0, 0, 1⟩ size k (wholeB text) W hh hrO hfit hs (by rw [hws]; omega) (by omega)
    have hF1 := hfit.add ⟨2, size - 2, 0, 0, 1⟩ (wholeB text)
    rw [hws] at hF1
    unfold Dk.vput at hres
    obtain ⟨⟨r1, d1, e1⟩, hadd⟩ : ∃ z, Rg.add ⟨2, size - 2, 0, 0, 1⟩ d (wholeB text) = z := ⟨_, rfl⟩
    rw [hadd] at hres cA hF1
    simp only at hres cA hF1
    have hbr := build_root2
    have hcat : (⟨#[0]⟩ ++ text : ByteArray) = wholeB text := rfl
    generalize wholeB text = rec at *
    generalize hFe : feet (dks bd sv wv d) = F at hS ⊢
    replace cM := Lib.hid cM
    replace cZ := Lib.hid cZ
    replace cG := Lib.hid cG
    replace cA := Lib.hid cA
    clear h hadd hvr hrO hws hFe
    by_cases he1 : e1 = 0
    · subst he1
      rw [if_pos rfl] at hres
      have cY := fun wv1 W hh => sync_any bd sv wv1 d1 W hh hF1.ok (by have := hF1.wait; omega) hF1.fuse
      have hF2 := hF1.sync
      obtain ⟨⟨d2, e2⟩, hsy⟩ : ∃ z, d1.sync = z := ⟨_, rfl⟩
      rw [hsy] at hres cY hF2
      simp only at hres cY hF2
      replace cY := Lib.hid cY
      clear hsy
      by_cases he2 : e2 = 0
      · subst he2
        rw [if_pos rfl] at hres
        have cS : ∀ (wv1 : Value) W, St W (feet (dks bd sv wv1 d2)) (dks bd sv wv1 d2) W → Calls Try.prog 35 #[.pointer (some ⟨bd, 0, none⟩), .agg #[.int .i64 1, .int .i64 1, .int .i64 0]] W fun e w' => e = .returned (.int .i64 (d2.store ⟨1, 1, 0⟩).2) ∧ ∃ wv', St W (feet (dks bd sv wv1 d2)) (dks bd sv wv' (d2.store ⟨1, 1, 0⟩).1) w' := fun wv1 W hh => tstore_any bd sv wv1 d2 size (k + manyB (text.size + 1)) ⟨1, 1, 0⟩ W hh hF2 hs (by omega)
        rw [hres] at cS
        replace cS := Lib.hid cS
        clear hres hF1 hF2 hfit
        go_enter Try.func58, Try.ntmps58
        go_wp2_with (first
          | (go_at_call 93; (with_reducible refine (cM.out _ (hS.preM (A := []) (B := dks bd sv wv d) (R := []))).mono ?_); rintro _ _ ⟨rfl, rfl⟩)
          | (go_at_call 23; (with_reducible refine (cZ.out _ (hS.preM (A := []) (B := dks bd sv wv d) (R := []))).mono ?_); rintro _ _ ⟨rfl, rfl⟩)
          | (go_at_call 42; (with_reducible refine (cG.out _ (hS.preM (A := []) (B := dks bd sv wv d) (R := []))).mono ?_); rintro _ w5 ⟨g, rfl, hk5⟩; have hS1 := hS.made hk5; clear hS hk5; have hS : St w F ((rng g bd ⟨2, size - 2, 0, 0, 1⟩ :: dks bd sv wv d) ++ []) w5 := hS1; clear hS1)
          | (go_at_call 44; (with_reducible refine (cA.out _ _ (hS.preM (A := []) (B := rng g bd _ :: dks bd sv wv d) (R := []))).mono ?_); rintro _ w6 ⟨rfl, wv6, hk6⟩; have hS1 := hS.callM (A := []) (B := rng g bd _ :: dks bd sv wv d) (R := []) hk6; clear hS hk6; have hS : St w F (rng g bd r1 :: (dks bd sv wv6 d1 ++ [])) w6 := hS1; clear hS1)
          | (go_at_call 19; (with_reducible refine (cY.out _ _ (hS.preM (A := [_]) (B := dks bd sv _ d1) (R := []))).mono ?_); rintro _ w7 ⟨rfl, wv7, hk7⟩; have hS1 := hS.callM (A := [_]) (B := dks bd sv _ d1) (R := []) hk7; clear hS hk7; have hS := hS1; clear hS1)
          | (go_at_call 35; (with_reducible refine (cS.out _ _ (hS.preM (A := [_]) (B := dks bd sv _ d2) (R := []))).mono ?_); rintro _ w8 ⟨rfl, wv8, hk8⟩; have hS1 := hS.callM (A := [_]) (B := dks bd sv _ d2) (R := []) hk8; clear hS hk8; have hS := hS1; clear hS1))
        go_ret
        exact ⟨rfl, wv8, by simpa using hS.drop⟩
      · rw [if_neg he2] at hres
        subst hres
        have he2b : (e2 != 0) = true := by simp [he2]
        clear hF1 hF2 hfit he2
        go_enter Try.func58, Try.ntmps58
        go_wp2_with (first
          | (go_at_call 93; (with_reducible refine (cM.out _ (hS.preM (A := []) (B := dks bd sv wv d) (R := []))).mono ?_); rintro _ _ ⟨rfl, rfl⟩)
          | (go_at_call 23; (with_reducible refine (cZ.out _ (hS.preM (A := []) (B := dks bd sv wv d) (R := []))).mono ?_); rintro _ _ ⟨rfl, rfl⟩)
          | (go_at_call 42; (with_reducible refine (cG.out _ (hS.preM (A := []) (B := dks bd sv wv d) (R := []))).mono ?_); rintro _ w5 ⟨g, rfl, hk5⟩; have hS1 := hS.made hk5; clear hS hk5; have hS : St w F ((rng g bd ⟨2, size - 2, 0, 0, 1⟩ :: dks bd sv wv d) ++ []) w5 := hS1; clear hS1)
          | (go_at_call 44; (with_reducible refine (cA.out _ _ (hS.preM (A := []) (B := rng g bd _ :: dks bd sv wv d) (R := []))).mono ?_); rintro _ w6 ⟨rfl, wv6, hk6⟩; have hS1 := hS.callM (A := []) (B := rng g bd _ :: dks bd sv wv d) (R := []) hk6; clear hS hk6; have hS : St w F (rng g bd r1 :: (dks bd sv wv6 d1 ++ [])) w6 := hS1; clear hS1)
          | (go_at_call 19; (with_reducible refine (cY.out _ _ (hS.preM (A := [_]) (B := dks bd sv _ d1) (R := []))).mono ?_); rintro _ w7 ⟨rfl, wv7, hk7⟩; have hS1 := hS.callM (A := [_]) (B := dks bd sv _ d1) (R := []) hk7; clear hS hk7; have hS := hS1; clear hS1))
        go_ret
        exact ⟨rfl, wv7, by simpa using hS.drop⟩
    · rw [if_neg he1] at hres
      simp only at hres
      rw [if_neg he1] at hres
      subst hres
      have he1b : (e1 != 0) = true := by simp [he1]
      clear hF1 hfit he1
      go_enter Try.func58, Try.ntmps58
      go_wp2_with (first
        | (go_at_call 93; (with_reducible refine (cM.out _ (hS.preM (A := []) (B := dks bd sv wv d) (R := []))).mono ?_); rintro _ _ ⟨rfl, rfl⟩)
        | (go_at_call 23; (with_reducible refine (cZ.out _ (hS.preM (A := []) (B := dks bd sv wv d) (R := []))).mono ?_); rintro _ _ ⟨rfl, rfl⟩)
        | (go_at_call 42; (with_reducible refine (cG.out _ (hS.preM (A := []) (B := dks bd sv wv d) (R := []))).mono ?_); rintro _ w5 ⟨g, rfl, hk5⟩; have hS1 := hS.made hk5; clear hS hk5; have hS : St w F ((rng g bd ⟨2, size - 2, 0, 0, 1⟩ :: dks bd sv wv d) ++ []) w5 := hS1; clear hS1)
        | (go_at_call 44; (with_reducible refine (cA.out _ _ (hS.preM (A := []) (B := rng g bd _ :: dks bd sv wv d) (R := []))).mono ?_); rintro _ w6 ⟨rfl, wv6, hk6⟩; have hS1 := hS.callM (A := []) (B := rng g bd _ :: dks bd sv wv d) (R := []) hk6; clear hS hk6; have hS : St w F (rng g bd r1 :: (dks bd sv wv6 d1 ++ [])) w6 := hS1; clear hS1))
      go_ret
      exact ⟨rfl, wv6, by simpa using hS.drop⟩
end Go.Proofs.Ytlhpibniecfofaa
end

section
/- Vaults: add. -/
set_option linter.unusedSimpArgs false
set_option linter.unusedVariables false
namespace Go.Proofs.Ytlhpibniecfofaa
open Go.RowKit Go.Ofp
set_option linter.unusedVariables false
set_option maxRecDepth 100000
set_option maxHeartbeats 4000000

/-- A vault in memory. -/
@[reducible] def vlt (g gr bd : Nat) (x : Rt) (gone : Bool) : Ch := Ch.blk g 161 #[.pointer (some ⟨gr, 0, none⟩), .pointer (some ⟨bd, 0, none⟩), .int .i64 x.seq, .int .i64 x.life, .int .i64 x.head, .bool gone]
/-- A vault, its ring, and its disk. -/
def vts (g gr bd : Nat) (sv wv : Value) (d : Dk) (r : Rg) (x : Rt) (gone : Bool) : List Ch := vlt g gr bd x gone :: rng gr bd r :: dks bd sv wv d

theorem vladd_any (g gr bd : Nat) (sv wv : Value) (d : Dk) (r : Rg) (x : Rt) (gone : Bool) (size k : Nat) (s : ByteArray) (w : World) (h : St w (feet (vts g gr bd sv wv d r x gone)) (vts g gr bd sv wv d r x gone) w) (hr : r.Ok size) (hfit : d.Fit size k) (hs : size ≤ 100000) (hk : k + manyB s.size ≤ 90000) (hsz : s.size ≤ 1000000) :
    Calls Try.prog 95 #[.pointer (some ⟨g, 0, none⟩), .string s] w fun e w' => e = .returned (.int .i64 (d.vadd r gone s).2.2.2) ∧ ∃ wv', St w (feet (vts g gr bd sv wv d r x gone)) (vts g gr bd sv wv' (d.vadd r gone s).2.1 (d.vadd r gone s).1 x (d.vadd r gone s).2.2.1) w' := by
  have hS : St w (feet (vts g gr bd sv wv d r x gone)) (vlt g gr bd x gone :: rng gr bd r :: (dks bd sv wv d ++ [])) w := by rw [List.append_nil]; exact h
  have cA := fun W hh => rgadd_any gr bd sv wv d r size k s W hh hr hfit hs (by omega) hsz
  have hF1 := hfit.add r s
  obtain ⟨res, hres⟩ : ∃ z, d.vadd r gone s = z := ⟨_, rfl⟩
  rw [hres]
  unfold Dk.vadd at hres
  obtain ⟨⟨r1, d1, e1⟩, hadd⟩ : ∃ z, r.add d s = z := ⟨_, rfl⟩
  rw [hadd] at hres cA hF1
  simp only at hres cA hF1
  generalize hFe : feet (vts g gr bd sv wv d r x gone) = F at hS ⊢
  replace cA := Lib.hid cA
  clear h hadd hFe hfit hr
  by_cases he8 : e1 = 8
  · subst he8
    rw [if_pos rfl] at hres
    subst hres
    have hcl := hS.cell 0 rfl
    go_enter Try.func95, Try.ntmps95
    go_wp2_with (first
      | (go_at_call 44; (with_reducible refine (cA.out _ (hS.preM (A := [_]) (B := rng gr bd _ :: dks bd sv wv d) (R := []))).mono ?_); rintro _ w6 ⟨rfl, wv6, hk6⟩; have hS1 := hS.callM (A := [_]) (B := rng gr bd _ :: dks bd sv wv d) (R := []) hk6; clear hS hk6 hcl; have hS := hS1; clear hS1; simp only [List.cons_append, List.nil_append] at hS))
    go_ret
    exact ⟨rfl, wv6, by simpa [vts, dks] using hS⟩
  · rw [if_neg he8] at hres
    have b8 : (e1 == 8) = false := by rw [beq_eq_false_iff_ne]; exact he8
    by_cases he0 : e1 = 0
    · subst he0
      rw [if_pos rfl] at hres
      have cY := fun wv1 W hh => sync_any bd sv wv1 d1 W hh hF1.ok (by have := hF1.wait; omega) hF1.fuse
      obtain ⟨⟨d2, e2⟩, hsy⟩ : ∃ z, d1.sync = z := ⟨_, rfl⟩
      rw [hsy] at hres cY
      simp only at hres cY
      subst hres
      replace cY := Lib.hid cY
      clear hsy hF1 he8
      have hcl := hS.cell 0 rfl
      go_enter Try.func95, Try.ntmps95
      go_wp2_with (first
        | (go_at_call 44; (with_reducible refine (cA.out _ (hS.preM (A := [_]) (B := rng gr bd _ :: dks bd sv wv d) (R := []))).mono ?_); rintro _ w6 ⟨rfl, wv6, hk6⟩; have hS1 := hS.callM (A := [_]) (B := rng gr bd _ :: dks bd sv wv d) (R := []) hk6; clear hS hk6 hcl; have hS : St w F (vlt g gr bd x gone :: rng gr bd r1 :: (dks bd sv wv6 d1 ++ [])) w6 := hS1; clear hS1; have hcl := hS.cell 0 rfl)
        | (go_at_call 19; (with_reducible refine (cY.out _ _ (hS.preM (A := [_, _]) (B := dks bd sv _ d1) (R := []))).mono ?_); rintro _ w7 ⟨rfl, wv7, hk7⟩; have hS1 := hS.callM (A := [_, _]) (B := dks bd sv _ d1) (R := []) hk7; clear hS hk7 hcl; have hS : St w F (vlt g gr bd x gone :: rng gr bd r1 :: (dks bd sv wv7 d2 ++ [])) w7 := hS1; clear hS1)
        | (with_reducible refine wpList_box_st hS rfl rfl rfl ?_; intro g1 w1 hS1; clear hS; replace hS := hS1; clear hS1) | (with_reducible refine wpList_box1_st hS rfl rfl rfl ?_; intro g1 w1 hS1; clear hS; replace hS := hS1; clear hS1) | (with_reducible refine wpList_alloc_st hS rfl rfl (by assumption) ?_; intro g1 w1 hS1; clear hS; replace hS := hS1; clear hS1) | (with_reducible refine wpList_alloc1_st hS rfl rfl (by assumption) rfl ?_; intro g1 w1 hS1; clear hS; replace hS := hS1; clear hS1) | ((with_reducible refine wpList_load_st 0 hS rfl rfl rfl rfl ?_ rfl ?_); focus (simp [scalarB, go_sem]; done)) | ((with_reducible refine wpList_loadall_st 0 hS rfl rfl rfl rfl ?_ (by kernel_rfl) ?_); focus (simp [rowB, go_sem]; done)) | ((with_reducible refine wpList_store_st 0 hS rfl rfl rfl rfl (by kernel_rfl) rfl rfl ?_); intro w1 hS1; clear hS; replace hS := hS1; clear hS1; try simp only [List.set_cons_zero, List.set_cons_succ, List.setIfInBounds_toArray, List.take_succ_cons, List.take_zero, List.drop_succ_cons, List.drop_zero, List.nil_append, List.cons_append, List.append_nil, List.drop_nil, List.take_nil, List.length_cons, List.length_nil, Nat.zero_add, Nat.add_zero, Nat.reduceAdd] at hS) | ((with_reducible refine wpList_storerow_st 0 hS rfl rfl rfl rfl (by kernel_rfl) rfl rfl rfl rfl ?_); intro w1 hS1; clear hS; replace hS := hS1; clear hS1; try simp only [List.set_cons_zero, List.set_cons_succ, List.setIfInBounds_toArray, List.take_succ_cons, List.take_zero, List.drop_succ_cons, List.drop_zero, List.nil_append, List.cons_append, List.append_nil, List.drop_nil, List.take_nil, List.length_cons, List.length_nil, Nat.zero_add, Nat.add_zero, Nat.reduceAdd] at hS))
      go_ret
      exact ⟨rfl, wv7, by simpa [vts, dks] using hS⟩
    · rw [if_neg he0] at hres
      subst hres
      have b0 : (e1 == 0) = false := by rw [beq_eq_false_iff_ne]; exact he0
      have b0' : (e1 != 0) = true := by rw [bne_iff_ne]; exact he0
      clear hF1 he8 he0
      have hcl := hS.cell 0 rfl
      go_enter Try.func95, Try.ntmps95
      go_wp2_with (first
        | (go_at_call 44; (with_reducible refine (cA.out _ (hS.preM (A := [_]) (B := rng gr bd _ :: dks bd sv wv d) (R := []))).mono ?_); rintro _ w6 ⟨rfl, wv6, hk6⟩; have hS1 := hS.callM (A := [_]) (B := rng gr bd _ :: dks bd sv wv d) (R := []) hk6; clear hS hk6 hcl; have hS : St w F (vlt g gr bd x gone :: rng gr bd r1 :: (dks bd sv wv6 d1 ++ [])) w6 := hS1; clear hS1)
        | (with_reducible refine wpList_box_st hS rfl rfl rfl ?_; intro g1 w1 hS1; clear hS; replace hS := hS1; clear hS1) | (with_reducible refine wpList_box1_st hS rfl rfl rfl ?_; intro g1 w1 hS1; clear hS; replace hS := hS1; clear hS1) | (with_reducible refine wpList_alloc_st hS rfl rfl (by assumption) ?_; intro g1 w1 hS1; clear hS; replace hS := hS1; clear hS1) | (with_reducible refine wpList_alloc1_st hS rfl rfl (by assumption) rfl ?_; intro g1 w1 hS1; clear hS; replace hS := hS1; clear hS1) | ((with_reducible refine wpList_load_st 0 hS rfl rfl rfl rfl ?_ rfl ?_); focus (simp [scalarB, go_sem]; done)) | ((with_reducible refine wpList_loadall_st 0 hS rfl rfl rfl rfl ?_ (by kernel_rfl) ?_); focus (simp [rowB, go_sem]; done)) | ((with_reducible refine wpList_store_st 0 hS rfl rfl rfl rfl (by kernel_rfl) rfl rfl ?_); intro w1 hS1; clear hS; replace hS := hS1; clear hS1; try simp only [List.set_cons_zero, List.set_cons_succ, List.setIfInBounds_toArray, List.take_succ_cons, List.take_zero, List.drop_succ_cons, List.drop_zero, List.nil_append, List.cons_append, List.append_nil, List.drop_nil, List.take_nil, List.length_cons, List.length_nil, Nat.zero_add, Nat.add_zero, Nat.reduceAdd] at hS) | ((with_reducible refine wpList_storerow_st 0 hS rfl rfl rfl rfl (by kernel_rfl) rfl rfl rfl rfl ?_); intro w1 hS1; clear hS; replace hS := hS1; clear hS1; try simp only [List.set_cons_zero, List.set_cons_succ, List.setIfInBounds_toArray, List.take_succ_cons, List.take_zero, List.drop_succ_cons, List.drop_zero, List.nil_append, List.cons_append, List.append_nil, List.drop_nil, List.take_nil, List.length_cons, List.length_nil, Nat.zero_add, Nat.add_zero, Nat.reduceAdd] at hS))
      go_ret
      exact ⟨rfl, wv6, by simpa [vts, dks] using hS⟩
end Go.Proofs.Ytlhpibniecfofaa
end

section
/- Vaults: Add, Free. -/
set_option linter.unusedSimpArgs false
set_option linter.unusedVariables false
namespace Go.Proofs.Ytlhpibniecfofaa
open Go.RowKit Go.Ofp
set_option linter.unusedVariables false
set_option maxRecDepth 100000
set_option maxHeartbeats 4000000

theorem vlmore_any (g gr bd : Nat) (sv wv : Value) (d : Dk) (r : Rg) (x : Rt) (gone : Bool) (size k : Nat) (s : ByteArray) (w : World) (h : St w (feet (vts g gr bd sv wv d r x gone)) (vts g gr bd sv wv d r x gone) w) (hr : r.Ok size) (hfit : d.Fit size k) (hs : size ≤ 100000) (hk : k + manyB (s.size + 1) ≤ 90000) (hsz : s.size ≤ 900000) :
    Calls Try.prog 60 #[.pointer (some ⟨g, 0, none⟩), .string s] w fun e w' => e = .returned (.int .i64 (d.vmore r gone s).2.2.2) ∧ ∃ wv', St w (feet (vts g gr bd sv wv d r x gone)) (vts g gr bd sv wv' (d.vmore r gone s).2.1 (d.vmore r gone s).1 x (d.vmore r gone s).2.2.1) w' := by
  have hcl := h.cell 0 rfl
  cases gone with
  | true =>
    have e : d.vmore r true s = (r, d, true, 14) := by rw [Dk.vmore, if_pos rfl]
    rw [e]
    replace h := Lib.hid h
    clear hr hfit
    go_enter Try.func60, Try.ntmps60
    go_wp2_with fail
    go_ret
    exact ⟨rfl, wv, h.out⟩
  | false =>
    have e : d.vmore r false s = d.vadd r false (stepB s) := by rw [Dk.vmore, if_neg (by simp)]
    rw [e]
    have hws := step_size s
    have cA := vladd_any g gr bd sv wv d r x false size k (stepB s) w h hr hfit hs (by rw [hws]; omega) (by omega)
    have hcat : (⟨#[1]⟩ ++ s : ByteArray) = stepB s := rfl
    generalize stepB s = rec at *
    generalize d.vadd r false rec = z at *
    replace cA := Lib.hid cA
    clear h hr hfit e hws
    go_enter Try.func60, Try.ntmps60
    go_wp2_with (first
      | (go_at_call 95; (with_reducible refine cA.out.mono ?_); rintro _ w3 ⟨rfl, hk3⟩))
    go_ret
    exact ⟨rfl, hk3⟩
end Go.Proofs.Ytlhpibniecfofaa
end

section
/- Vaults: Renew. -/
set_option linter.unusedSimpArgs false
set_option linter.unusedVariables false
namespace Go.Proofs.Ytlhpibniecfofaa
open Go.RowKit Go.Ofp
set_option linter.unusedVariables false
set_option maxRecDepth 100000
set_option maxHeartbeats 4000000

theorem vlrenew_any (g gr bd : Nat) (sv wv : Value) (d : Dk) (r : Rg) (x : Rt) (gone : Bool) (size k : Nat) (s : ByteArray) (w : World) (h : St w (feet (vts g gr bd sv wv d r x gone)) (vts g gr bd sv wv d r x gone) w) (hr : r.Ok size) (hfit : d.Fit size k) (hs : size ≤ 100000) (hk : k + manyB (s.size + 1) ≤ 90000) (hsz : s.size ≤ 900000) (hx : 0 ≤ x.seq ∧ x.seq < 4294967296) :
    Calls Try.prog 62 #[.pointer (some ⟨g, 0, none⟩), .string s] w fun e w' => e = .returned (.int .i64 (d.vrenew r x gone s).2.2.2.2) ∧ ∃ wv', St w (feet (vts g gr bd sv wv d r x gone)) (vts g gr bd sv wv' (d.vrenew r x gone s).2.1 (d.vrenew r x gone s).1 (d.vrenew r x gone s).2.2.1 (d.vrenew r x gone s).2.2.2.1) w' := by
  have hcl := h.cell 0 rfl
  cases gone with
  | true =>
    have e : d.vrenew r x true s = (r, d, x, true, 14) := by rw [Dk.vrenew, if_pos rfl]
    rw [e]
    replace h := Lib.hid h
    clear hr hfit
    go_enter Try.func62, Try.ntmps62
    go_wp2_with fail
    go_ret
    exact ⟨rfl, wv, h.out⟩
  | false =>
    by_cases hq : x.seq = 4294967295
    · have e : d.vrenew r x false s = (r, d, x, false, 8) := by rw [Dk.vrenew, if_neg (by simp), if_pos hq]
      rw [e]
      have hqb : (x.seq == 4294967295) = true := by rw [hq]; rfl
      replace h := Lib.hid h
      replace hq := Lib.hid hq
      clear hr hfit e
      go_enter Try.func62, Try.ntmps62
      go_wp2_with fail
      go_ret
      exact ⟨rfl, wv, h.out⟩
    · have hqb : (x.seq == 4294967295) = false := by rw [beq_eq_false_iff_ne]; exact hq
      have hS : St w (feet (vts g gr bd sv wv d r x false)) ([] ++ (vts g gr bd sv wv d r x false ++ [])) w := by rw [List.append_nil]; exact h
      have cT := fun W hh => rgtail_any gr bd r W hh
      have hws := whole_size s
      have cA := fun W hh => vladd_any g gr bd sv wv d r x false size k (wholeB s) W hh hr hfit hs (by rw [hws]; omega) (by omega)
      have hF1 := hfit.vadd r false (wholeB s)
      rw [hws] at hF1
      obtain ⟨res, hres⟩ : ∃ z, d.vrenew r x false s = z := ⟨_, rfl⟩
      rw [hres]
      rw [Dk.vrenew, if_neg (by simp), if_neg hq] at hres
      have hcat : (⟨#[0]⟩ ++ s : ByteArray) = wholeB s := rfl
      generalize wholeB s = rec at *
      obtain ⟨⟨r1, d1, g1, e1⟩, hz⟩ : ∃ z, d.vadd r false rec = z := ⟨_, rfl⟩
      rw [hz] at cA hres hF1
      simp only at cA hres hF1
      have wq : IntKind.i64.wrap (x.seq + 1) = x.seq + 1 := IntWalk.i64_in _ (by omega)
      generalize hFe : feet (vts g gr bd sv wv d r x false) = F at hS ⊢
      unfold vts at hS
      simp only [List.nil_append, List.cons_append] at hS
      replace cT := Lib.hid cT
      replace cA := Lib.hid cA
      have hq2 := Lib.hid hq
      clear h hFe hz hws hq hfit
      by_cases he1 : e1 = 0
      · subst he1
        rw [if_pos rfl] at hres
        have cS : ∀ (wv1 : Value) W, St W (feet (dks bd sv wv1 d1)) (dks bd sv wv1 d1) W → Calls Try.prog 35 #[.pointer (some ⟨bd, 0, none⟩), .agg #[.int .i64 (x.seq + 1), .int .i64 x.life, .int .i64 r.tail]] W fun e w' => e = .returned (.int .i64 (d1.store ⟨x.seq + 1, x.life, r.tail⟩).2) ∧ ∃ wv', St W (feet (dks bd sv wv1 d1)) (dks bd sv wv' (d1.store ⟨x.seq + 1, x.life, r.tail⟩).1) w' := fun wv1 W hh => tstore_any bd sv wv1 d1 size (k + manyB (s.size + 1)) ⟨x.seq + 1, x.life, r.tail⟩ W hh hF1 hs (by omega)
        obtain ⟨⟨d2, e2⟩, hst⟩ : ∃ z, d1.store ⟨x.seq + 1, x.life, r.tail⟩ = z := ⟨_, rfl⟩
        rw [hst] at hres cS
        simp only at hres cS
        replace cS := Lib.hid cS
        have cMv := fun W hh => rgmove_any gr bd r1 r.tail W hh
        replace cMv := Lib.hid cMv
        have hcl := hS.cell 0 rfl
        replace hres := Lib.hid hres
        clear hst hF1
        go_enter Try.func62, Try.ntmps62
        go_wp2_with (first
          | (go_at_call 53; (with_reducible refine (cT.out _ (hS.preM (A := [_]) (B := [_]) (R := _))).mono ?_); rintro _ _ ⟨rfl, rfl⟩)
          | (go_at_call 95; have hP : St w F ([] ++ (vts g gr bd sv wv d r x false ++ [])) _ := hS; (with_reducible refine (cA.out _ (St.preM hP)).mono ?_); rintro _ w6 ⟨rfl, wv6, hk6⟩; have hS1 := St.callM hP hk6; clear hS hk6 hP hcl; have hS : St w F (vlt g gr bd x g1 :: rng gr bd r1 :: (dks bd sv wv6 d1 ++ [])) w6 := hS1; clear hS1; have hcl := hS.cell 0 rfl)
          | ((with_reducible refine wpList_store_st 0 hS rfl rfl rfl rfl (by kernel_rfl) rfl rfl ?_); intro w1 hS1; clear hS hcl; have hS := hS1; clear hS1; try simp only [List.set_cons_zero, List.set_cons_succ, List.setIfInBounds_toArray, List.take_succ_cons, List.take_zero, List.drop_succ_cons, List.drop_zero, List.nil_append, List.cons_append, List.append_nil, List.drop_nil, List.take_nil, List.length_cons, List.length_nil, Nat.zero_add, Nat.add_zero, Nat.reduceAdd] at hS; have hcl := hS.cell 0 rfl))
        clear hcl
        have hS1 : St w F (vlt g gr bd ⟨x.seq + 1, x.life, r.tail⟩ g1 :: rng gr bd r1 :: (dks bd sv wv6 d1 ++ [])) w1 := by simpa [dks] using hS
        clear hS
        have hS := hS1
        clear hS1
        revert hS
        apply wp_cutv
        · intro hS
          refine mixs_beginC 0 (by kernel_rfl) hS rfl ?_
          clear hS
          intro w6 hS hC
          have kC := hC.kblk 0 rfl
          refine mixs_take 0 (v := ?_) rfl (by kernel_rfl) (fun _ _ _ h => h) (by kernel_rfl) (by assumption) (fun s => ?hy) ?_; case hy => (go_simp <;> with_reducible rfl)
          try simp only [List.getElem_toArray, List.getElem_cons_succ, List.getElem_cons_zero, Act.put, List.setIfInBounds_toArray, List.set_cons_zero, List.set_cons_succ]
          refine mixs_take 1 (v := ?_) rfl (by kernel_rfl) (fun _ _ _ h => h) (by kernel_rfl) (by assumption) (fun s => ?hy) ?_; case hy => (go_simp <;> with_reducible rfl)
          try simp only [List.getElem_toArray, List.getElem_cons_succ, List.getElem_cons_zero, Act.put, List.setIfInBounds_toArray, List.set_cons_zero, List.set_cons_succ]
          refine mixs_take 2 (v := ?_) rfl (by kernel_rfl) (fun _ _ _ h => h) (by kernel_rfl) (by assumption) (fun s => ?hy) ?_; case hy => (go_simp <;> with_reducible rfl)
          try simp only [List.getElem_toArray, List.getElem_cons_succ, List.getElem_cons_zero, Act.put, List.setIfInBounds_toArray, List.set_cons_zero, List.set_cons_succ]
          refine mixs_take 3 (v := ?_) rfl (by kernel_rfl) (fun _ _ _ h => h) (by kernel_rfl) (by assumption) (fun s => ?hy) ?_; case hy => (go_simp <;> with_reducible rfl)
          try simp only [List.getElem_toArray, List.getElem_cons_succ, List.getElem_cons_zero, Act.put, List.setIfInBounds_toArray, List.set_cons_zero, List.set_cons_succ]
          refine mixs_take 4 (v := ?_) rfl (by kernel_rfl) (fun _ _ _ h => h) (by kernel_rfl) (by assumption) (fun s => ?hy) ?_; case hy => (go_simp <;> with_reducible rfl)
          try simp only [List.getElem_toArray, List.getElem_cons_succ, List.getElem_cons_zero, Act.put, List.setIfInBounds_toArray, List.set_cons_zero, List.set_cons_succ]
          refine mixs_take 5 (v := ?_) rfl (by kernel_rfl) (fun _ _ _ h => h) (by kernel_rfl) (by assumption) (fun s => ?hy) ?_; case hy => (go_simp <;> with_reducible rfl)
          try simp only [List.getElem_toArray, List.getElem_cons_succ, List.getElem_cons_zero, Act.put, List.setIfInBounds_toArray, List.set_cons_zero, List.set_cons_succ]
          refine mixs_take 6 (v := ?_) rfl (by kernel_rfl) (fun _ _ _ h => h) (by kernel_rfl) (by assumption) (fun s => ?hy) ?_; case hy => (go_simp <;> with_reducible rfl)
          try simp only [List.getElem_toArray, List.getElem_cons_succ, List.getElem_cons_zero, Act.put, List.setIfInBounds_toArray, List.set_cons_zero, List.set_cons_succ]
          refine mixs_take 7 (v := ?_) rfl (by kernel_rfl) (fun _ _ _ h => h) (by kernel_rfl) (by assumption) (fun s => ?hy) ?_; case hy => (go_simp <;> with_reducible rfl)
          try simp only [List.getElem_toArray, List.getElem_cons_succ, List.getElem_cons_zero, Act.put, List.setIfInBounds_toArray, List.set_cons_zero, List.set_cons_succ]
          refine mixs_one 8 (by kernel_rfl) rfl (fun K hK => ?_)
          go_simp
          ( (go_at_call 35; (with_reducible refine (cS.out _ _ (hS.preM (A := [_, _]) (B := dks bd sv _ d1) (R := []))).mono ?_); rintro _ w8 ⟨rfl, wv8, hk8⟩; have hS1 := hS.callM (A := [_, _]) (B := dks bd sv _ d1) (R := []) hk8; clear hS hk8; have hS := hS1; clear hS1; simp only [List.cons_append, List.nil_append] at hS) )
          try clear hC
          refine hK.out _ _ _ (fun _ h => h) (by first | exact hS | exact hS.drop | exact hS.drop.drop | exact hS.drop.drop.drop | exact hS.drop.drop.drop.drop | exact hS.empty | exact hS.one 0 rfl | exact hS.one 1 rfl | exact hS.one 2 rfl | exact hS.one 3 rfl | exact hS.one 4 rfl | exact hS.one 5 rfl | exact hS.one 6 rfl | exact hS.one 7 rfl | exact hS.one 8 rfl | exact hS.one 9 rfl | exact hS.one 10 rfl | exact hS.one 11 rfl) (fun hC => ?_)
          clear hK K
          try simp only [List.getElem_toArray, List.getElem_cons_succ, List.getElem_cons_zero, Act.put, List.setIfInBounds_toArray, List.set_cons_zero, List.set_cons_succ]
          refine mixs_take 9 (v := ?_) rfl (by kernel_rfl) (fun _ _ _ h => h) (by kernel_rfl) (by assumption) (fun s => ?hy) ?_; case hy => (go_simp <;> with_reducible rfl)
          try simp only [List.getElem_toArray, List.getElem_cons_succ, List.getElem_cons_zero, Act.put, List.setIfInBounds_toArray, List.set_cons_zero, List.set_cons_succ]
          refine wpAnyH_done (by kernel_rfl) ?_ _
          exact ⟨wv8, rfl, hS⟩
        intro wv9 w9 hS
        by_cases he2 : e2 = 0
        · subst he2
          have hR := hres.out
          rw [if_pos rfl] at hR
          subst hR
          clear hres
          have hcl := hS.cell 0 rfl
          go_wp2_with (first
            | (go_at_call 55; (with_reducible refine (cMv.out _ (hS.preM (A := [_]) (B := [_]) (R := _))).mono ?_); rintro _ w8 ⟨rfl, hk8⟩; have hS1 := hS.callM (A := [_]) (B := [_]) (R := _) hk8; clear hS hk8 hcl; have hS := hS1; clear hS1; simp only [List.cons_append, List.nil_append] at hS))
          go_ret
          exact ⟨rfl, wv9, by simpa [vts, dks] using hS⟩
        · have hR := hres.out
          rw [if_neg he2] at hR
          subst hR
          have he2b : (e2 != 0) = true := by rw [bne_iff_ne]; exact he2
          clear hres he2
          have hcl := hS.cell 0 rfl
          go_wp2_with (first | (with_reducible refine wpList_box_st hS rfl rfl rfl ?_; intro g1 w1 hS1; clear hS; replace hS := hS1; clear hS1) | (with_reducible refine wpList_box1_st hS rfl rfl rfl ?_; intro g1 w1 hS1; clear hS; replace hS := hS1; clear hS1) | (with_reducible refine wpList_alloc_st hS rfl rfl (by assumption) ?_; intro g1 w1 hS1; clear hS; replace hS := hS1; clear hS1) | (with_reducible refine wpList_alloc1_st hS rfl rfl (by assumption) rfl ?_; intro g1 w1 hS1; clear hS; replace hS := hS1; clear hS1) | ((with_reducible refine wpList_load_st 0 hS rfl rfl rfl rfl ?_ rfl ?_); focus (simp [scalarB, go_sem]; done)) | ((with_reducible refine wpList_loadall_st 0 hS rfl rfl rfl rfl ?_ (by kernel_rfl) ?_); focus (simp [rowB, go_sem]; done)) | ((with_reducible refine wpList_store_st 0 hS rfl rfl rfl rfl (by kernel_rfl) rfl rfl ?_); intro w1 hS1; clear hS; replace hS := hS1; clear hS1; try simp only [List.set_cons_zero, List.set_cons_succ, List.setIfInBounds_toArray, List.take_succ_cons, List.take_zero, List.drop_succ_cons, List.drop_zero, List.nil_append, List.cons_append, List.append_nil, List.drop_nil, List.take_nil, List.length_cons, List.length_nil, Nat.zero_add, Nat.add_zero, Nat.reduceAdd] at hS) | ((with_reducible refine wpList_storerow_st 0 hS rfl rfl rfl rfl (by kernel_rfl) rfl rfl rfl rfl ?_); intro w1 hS1; clear hS; replace hS := hS1; clear hS1; try simp only [List.set_cons_zero, List.set_cons_succ, List.setIfInBounds_toArray, List.take_succ_cons, List.take_zero, List.drop_succ_cons, List.drop_zero, List.nil_append, List.cons_append, List.append_nil, List.drop_nil, List.take_nil, List.length_cons, List.length_nil, Nat.zero_add, Nat.add_zero, Nat.reduceAdd] at hS))
          go_ret
          exact ⟨rfl, wv9, by simpa [vts, dks] using hS⟩
      · rw [if_neg he1] at hres
        subst hres
        have he1b : (e1 != 0) = true := by rw [bne_iff_ne]; exact he1
        clear he1 hF1
        have hcl := hS.cell 0 rfl
        go_enter Try.func62, Try.ntmps62
        go_wp2_with (first
          | (go_at_call 53; (with_reducible refine (cT.out _ (hS.preM (A := [_]) (B := [_]) (R := _))).mono ?_); rintro _ _ ⟨rfl, rfl⟩)
          | (go_at_call 95; have hP : St w F ([] ++ (vts g gr bd sv wv d r x false ++ [])) _ := hS; (with_reducible refine (cA.out _ (St.preM hP)).mono ?_); rintro _ w6 ⟨rfl, wv6, hk6⟩; have hS1 := St.callM hP hk6; clear hS hk6 hP hcl; have hS : St w F (vlt g gr bd x g1 :: rng gr bd r1 :: (dks bd sv wv6 d1 ++ [])) w6 := hS1; clear hS1))
        go_ret
        exact ⟨rfl, wv6, by simpa [vts, dks] using hS⟩
end Go.Proofs.Ytlhpibniecfofaa
end

section
/- Arrays of bytes compared. -/
set_option linter.unusedSimpArgs false
set_option linter.unusedVariables false
namespace Go.Ofp
open Go.RowKit
section
variable {P : Program}
theorem run_eqItems_bytes (w : World) (d : Nat) (e : TypeId) (he : P.plainKey e = true) (hu : P.underlying e = some (.int .u8)) (hc : P.cellsOf e = 1) (A B : List UInt8) (hl : A.length = B.length) :
    ∀ m k, k + m = A.length → (Op.eqItems (d + 1) e (P.cellsOf e) (A.map vb).toArray (B.map vb).toArray (List.range' k m)).run P w = .ok (A.drop k == B.drop k) w := by
  intro m
  induction m with
  | zero =>
    intro k hk
    rw [List.drop_of_length_le (by omega), List.drop_of_length_le (by omega)]
    simp [Op.eqItems]
  | succ m ih =>
    intro k hk
    rw [List.range'_succ]
    have ha : k < A.length := by omega
    have hb : k < B.length := by omega
    have p1 := run_part_plain (w := w) he (xs := (A.map vb).toArray) (off := k * P.cellsOf e) (v := vb A[k]) (by rw [hc, Nat.mul_one]; simp [ha])
    have p2 := run_part_plain (w := w) he (xs := (B.map vb).toArray) (off := k * P.cellsOf e) (v := vb B[k]) (by rw [hc, Nat.mul_one]; simp [hb])
    have p3 : (Op.equalIn (d + 1) e (vb A[k]) (vb B[k])).run P w = .ok (A[k] == B[k]) w := by
      have := run_equalIn_int (P := P) w d e .u8 .u8 (A[k].toNat : Int) (B[k].toNat : Int) hu
      refine this.trans ?_
      congr 1
      rw [Bool.eq_iff_iff]
      simp [← UInt8.toNat_inj]
      omega
    simp only [Op.eqItems, Sem.run_bind, p1, p2, p3, Result.andThen_ok]
    have hi := ih (k + 1) (by omega)
    rw [List.drop_eq_getElem_cons ha, List.drop_eq_getElem_cons hb, List.cons_beq_cons]
    cases A[k] == B[k]
    · rfl
    · simp only [Bool.true_and]
      exact hi
theorem run_neq_bytes (w : World) (t e : TypeId) (n : Nat) {i : TypeInfo} (ht : P.underlying t = some (.array n e)) (hi : P.info? e = some i) (he : P.plainKey e = true) (hu : P.underlying e = some (.int .u8)) (hc : P.cellsOf e = 1) (A B : List UInt8) (hA : A.length = n) (hB : B.length = n) :
    (binOp .neq t (.agg (A.map vb).toArray) (.agg (B.map vb).toArray)).run P w = .ok (.bool (!(A == B))) w := by
  rw [run_neq_struct, run_equalIn_array w 9999 _ _ ht hi]
  have := run_eqItems_bytes w 9998 e he hu hc A B (by omega) n 0 (by omega)
  rw [← List.range_eq_range', List.drop_zero, List.drop_zero] at this
  rw [this]
  rfl
end
end Go.Ofp
end

section
/- The walks of octet's Reader: the next number ('peek'). Written by our gen_reader.py. -/
set_option linter.unusedSimpArgs false
set_option linter.unusedVariables false
namespace Go.Proofs.Ytlhpibniecfofaa
open Go.RowKit Go.Ofp

/-- A reader in memory: its bytes, how many were taken, its error. -/
def Rd (w : World) (g : Nat) (l : List UInt8) (k : Nat) (e : Int) : Prop :=
  ∃ a cap, Whole w g 163 #[.slice a l.length cap, .int .i64 k, .int .i64 e] ∧ Sl w a (l.map vb) ∧ Off a g ∧ l.length ≤ cap ∧ cap ≤ maxLen ∧ k ≤ l.length

theorem Rd.keep {w w' : World} {g : Nat} {l : List UInt8} {k : Nat} {e : Int} (h : Rd w g l k e) (hb : Below w.heap.size w w') : Rd w' g l k e := by
  obtain ⟨a, cap, h1, h2, h3⟩ := h
  exact ⟨a, cap, h1.below hb h1.lt, h2.below hb, h3⟩

theorem Rd.drewN {w : World} {g : Nat} {l : List UInt8} {k : Nat} {e : Int} (h : Rd w g l k e) (n : Nat) : Rd (w.drewN n) g l k e := by
  obtain ⟨a, cap, h1, h2, h3⟩ := h
  exact ⟨a, cap, h1, h2.drewN n, h3⟩

theorem Rd.err {w : World} {g : Nat} {l : List UInt8} {k : Nat} {e : Int} (h : Rd w g l k e) (e' : Int) : Rd (w.setCell ⟨g, 2, none⟩ (.int .i64 e')) g l k e' := by
  obtain ⟨a, cap, h1, h2, h3, h4⟩ := h
  exact ⟨a, cap, by simpa using h1.set 2 (.int .i64 e'), h2.grown h3 (grown_set _ _ _ _), h3, h4⟩

theorem Rd.place {w : World} {g : Nat} {l : List UInt8} {k : Nat} {e : Int} (h : Rd w g l k e) (k' : Nat) (hk : k' ≤ l.length) : Rd (w.setCell ⟨g, 1, none⟩ (.int .i64 k')) g l k' e := by
  obtain ⟨a, cap, h1, h2, h3, h4, h5, h6⟩ := h
  exact ⟨a, cap, by simpa using h1.set 1 (.int .i64 k'), h2.grown h3 (grown_set _ _ _ _), h3, h4, h5, hk⟩

set_option maxRecDepth 100000 in
set_option maxHeartbeats 8000000 in
/-- What peek leaves behind: its answer, and the error noted. -/
theorem peek_any (g : Nat) (l : List UInt8) (k : Nat) (most : Int) (w : World) (h : Rd w g l k 0) :
    Calls Try.prog 96 #[.pointer (some ⟨g, 0, none⟩), .int .i64 most] w fun e w' =>
      e = .returned (.tuple #[.int .i64 (nextB (l.drop k) most).1, .int .i64 ((k + (nextB (l.drop k) most).2.1 : Nat) : Int)]) ∧ Rd w' g l k (nextB (l.drop k) most).2.2 ∧ w.grownBy w' (some g) := by
  have hR := h
  obtain ⟨a, cap, hw, hs, hoff, hlc, hcm, hk⟩ := h
  unfold maxLen at hcm
  have c0 := hw.cell 0
  have c1 := hw.cell 1
  have c2 := hw.cell 2
  have f2 := hw.frozen 2
  simp at c0 c1 c2
  replace hs := Lib.hid hs
  replace hR := Lib.hid hR
  clear hw
  go_enter Try.func96, Try.ntmps96
  go_wp2_with fail
  go_loopg [6, 9] 6 (fun gk v i wr => ∃ j n : Nat, j + gk = 6 ∧ wr = w.drewN n ∧ i = .int .i64 j ∧ v = .int .i64 (val7 ((l.drop k).take j) : Int) ∧ k + j ≤ l.length ∧ ∀ i, i < j → 128 ≤ ((l.drop k).getD i 0).toNat)
  case atStart => exact ⟨0, 0, rfl, rfl, rfl, rfl, by omega, fun i h => by omega⟩
  case round =>
    obtain ⟨j, n, hj, rfl, rfl, rfl, hkj, hall⟩ := hrel
    replace hall := Lib.hid hall
    obtain ⟨v, hv⟩ : ∃ v, v = val7 ((l.drop k).take j) := ⟨_, rfl⟩
    have hvl := val7_lt ((l.drop k).take j)
    rw [← hv] at hvl ⊢
    rw [List.length_take, List.length_drop, Nat.min_eq_left (by omega)] at hvl
    replace hv := Lib.hid hv
    rcases (by omega : j = 0 ∨ j = 1 ∨ j = 2 ∨ j = 3 ∨ j = 4 ∨ j = 5 ∨ j = 6) with rfl | rfl | rfl | rfl | rfl | rfl | rfl
    · simp only [Nat.reducePow] at hvl
      have w2 : (0 : Int) ≤ (k : Int) := by omega
      by_cases hend : k = l.length
      · have hnb := nextB_short (l.drop k) most 0 (by decide) (by rw [List.length_drop]; omega) hall.out
        have w3 : ((l.length : Nat) : Int) ≤ (k : Int) := by omega
        clear hend
        replace hnb := Lib.hid hnb
        go_wp2_with fail
        go_quiet (fail)
        go_wp2_with fail
        go_quiet (fail)
        go_wp2_with fail
        go_ret2
        rw [hnb.out]
        exact ⟨rfl, ((hR.out.drewN _).err 2).drewN _, grown_trans (grown_trans (grown_drewN _ _ _) (grown_set _ _ _ _)) (grown_drewN _ _ _)⟩
      · have w3 : (k : Int) < (l.length : Int) := by omega
        have hlt : k < l.length := by omega
        obtain ⟨b, off, rfl, hc⟩ := hs.out.get (k) hlt
        obtain ⟨c, hcc⟩ : ∃ c, c = l[k] := ⟨_, rfl⟩
        rw [← hcc] at hc
        have hcd : (l.drop k)[0]'(by rw [List.length_drop]; omega) = c := by simp [hcc]
        have hgd : (l.drop k).getD 0 0 = c := by rw [← hcd, List.getD_eq_getElem?_getD, List.getElem?_eq_getElem (by rw [List.length_drop]; omega)]; rfl
        have hvt : v + 2 ^ 0 * (c.toNat % 128) = val7 ((l.drop k).take (0 + 1)) := by rw [val7_take _ 0 (by rw [List.length_drop]; omega), hcd, hv.out]
        have hst := step7 v c.toNat 0 hvl (by decide) c.toNat_lt
        rw [hvt, show ((2 ^ 0 : Nat) : Int) = 1 from rfl] at hst
        simp only [Int.mul_one] at hst
        clear hcc hcd hend hlt
        have hcb := c.toNat_lt
        replace hgd := Lib.hid hgd
        replace hst := Lib.hid hst
        clear hvt
        by_cases h128 : 128 ≤ c.toNat
        · go_wp2_with fail
          go_quiet (fail)
          go_wp2_with fail
          go_quiet (fail)
          go_wp2_with fail
          go_roundg (gk - 1)
          case measure => omega
          case rel =>
            refine ⟨1, _, by omega, rfl, rfl, congrArg (Value.int .i64) hst.out, by omega, ?_⟩
            intro i hi
            rcases Nat.lt_or_ge i 0 with h | h
            · exact hall.out i h
            · obtain rfl : i = 0 := by omega
              rw [hgd.out]; exact h128
        · cases hz0 : ((c.toNat : Int) == 0)
          all_goals
            have hnb := nextB_val (l.drop k) most 0 (by decide) (by rw [List.length_drop]; omega) hall.out (by rw [hgd.out]; omega) (fun h => absurd h.1 (by decide))
            obtain ⟨V, hV⟩ : ∃ V, V = val7 ((l.drop k).take (0 + 1)) := ⟨_, rfl⟩
            have hst := hst.out
            rw [← hV] at hst hnb
            have hVb := val7_lt ((l.drop k).take (0 + 1))
            rw [← hV] at hVb
            clear hV
            have hVb2 : V < 128 ^ 1 := Nat.lt_of_lt_of_le hVb (Nat.pow_le_pow_right (by decide) (by rw [List.length_take]; omega))
            clear hVb
            simp only [Nat.reducePow] at hVb2
            by_cases hb1 : maxNum < V
            · exact absurd hb1 (by unfold maxNum; omega)
            · by_cases hb2 : most < (V : Int)
              · rw [if_pos (.inr hb2)] at hnb
                replace hnb := Lib.hid hnb
                have m1 : (V : Int) ≤ 1099511627776 := by unfold maxNum at hb1; omega
                clear hb1
                go_wp2_with fail
                go_quiet (fail)
                go_wp2_with fail
                go_quiet (fail)
                go_wp2_with fail
                go_quiet (fail)
                go_wp2_with fail
                go_ret2
                rw [hnb.out]
                exact ⟨rfl, ((hR.out.drewN _).err 4).drewN _, grown_trans (grown_trans (grown_drewN _ _ _) (grown_set _ _ _ _)) (grown_drewN _ _ _)⟩
              · rw [if_neg (fun h => h.elim hb1 hb2)] at hnb
                replace hnb := Lib.hid hnb
                have m1 : (V : Int) ≤ 1099511627776 := by unfold maxNum at hb1; omega
                clear hb1
                have w4 : IntKind.i64.wrap ((k : Int) + 1) = (k : Int) + 1 := IntWalk.i64_in _ (by omega)
                go_wp2_with fail
                go_quiet (fail)
                go_wp2_with fail
                go_quiet (fail)
                go_wp2_with fail
                go_quiet (fail)
                go_wp2_with fail
                go_ret2
                rw [hnb.out]
                exact ⟨rfl, (hR.out.drewN _).drewN _, grown_trans (grown_drewN _ _ _) (grown_drewN _ _ _)⟩
    · simp only [Nat.reducePow] at hvl
      have w0 : IntKind.i64.wrap ((k : Int) + 1) = (k : Int) + 1 := IntWalk.i64_in _ (by omega)
      have w1 : ((k : Int) + 1).toNat = k + 1 := by omega
      have w2 : (0 : Int) ≤ (k : Int) + 1 := by omega
      by_cases hend : k + 1 = l.length
      · have hnb := nextB_short (l.drop k) most 1 (by decide) (by rw [List.length_drop]; omega) hall.out
        have w3 : ((l.length : Nat) : Int) ≤ (k : Int) + 1 := by omega
        clear hend
        replace hnb := Lib.hid hnb
        go_wp2_with fail
        go_quiet (fail)
        go_wp2_with fail
        go_quiet (fail)
        go_wp2_with fail
        go_ret2
        rw [hnb.out]
        exact ⟨rfl, ((hR.out.drewN _).err 2).drewN _, grown_trans (grown_trans (grown_drewN _ _ _) (grown_set _ _ _ _)) (grown_drewN _ _ _)⟩
      · have w3 : (k : Int) + 1 < (l.length : Int) := by omega
        have hlt : k + 1 < l.length := by omega
        obtain ⟨b, off, rfl, hc⟩ := hs.out.get (k + 1) hlt
        obtain ⟨c, hcc⟩ : ∃ c, c = l[k + 1] := ⟨_, rfl⟩
        rw [← hcc] at hc
        have hcd : (l.drop k)[1]'(by rw [List.length_drop]; omega) = c := by rw [List.getElem_drop, hcc]
        have hgd : (l.drop k).getD 1 0 = c := by rw [← hcd, List.getD_eq_getElem?_getD, List.getElem?_eq_getElem (by rw [List.length_drop]; omega)]; rfl
        have hvt : v + 2 ^ 7 * (c.toNat % 128) = val7 ((l.drop k).take (1 + 1)) := by rw [val7_take _ 1 (by rw [List.length_drop]; omega), hcd, hv.out]
        have hst := step7 v c.toNat 7 hvl (by decide) c.toNat_lt
        rw [hvt, show ((2 ^ 7 : Nat) : Int) = 128 from rfl] at hst
        clear hcc hcd hend hlt
        have hcb := c.toNat_lt
        replace hgd := Lib.hid hgd
        replace hst := Lib.hid hst
        clear hvt
        by_cases h128 : 128 ≤ c.toNat
        · go_wp2_with fail
          go_quiet (fail)
          go_wp2_with fail
          go_quiet (fail)
          go_wp2_with fail
          go_roundg (gk - 1)
          case measure => omega
          case rel =>
            refine ⟨2, _, by omega, rfl, rfl, congrArg (Value.int .i64) hst.out, by omega, ?_⟩
            intro i hi
            rcases Nat.lt_or_ge i 1 with h | h
            · exact hall.out i h
            · obtain rfl : i = 1 := by omega
              rw [hgd.out]; exact h128
        · by_cases hz : c = 0
          · subst hz
            have hnb := nextB_zero (l.drop k) most 1 (by decide) (by rw [List.length_drop]; omega) hall.out (by decide) hgd.out
            replace hnb := Lib.hid hnb
            simp only [UInt8.toNat_zero, Int.natCast_zero] at hc
            clear hcb h128 hst
            go_wp2_with fail
            go_quiet (fail)
            go_wp2_with fail
            go_quiet (fail)
            go_wp2_with fail
            go_quiet (fail)
            go_wp2_with fail
            go_ret2
            rw [hnb.out]
            exact ⟨rfl, ((hR.out.drewN _).err 3).drewN _, grown_trans (grown_trans (grown_drewN _ _ _) (grown_set _ _ _ _)) (grown_drewN _ _ _)⟩
          · have hz0 : ((c.toNat : Int) == 0) = false := by
              rw [beq_eq_false_iff_ne]
              intro h
              exact hz (UInt8.toNat_inj.1 (by rw [UInt8.toNat_zero]; omega))
            have hnb := nextB_val (l.drop k) most 1 (by decide) (by rw [List.length_drop]; omega) hall.out (by rw [hgd.out]; omega) (by rw [hgd.out]; exact fun h => hz h.2)
            clear hz
            obtain ⟨V, hV⟩ : ∃ V, V = val7 ((l.drop k).take (1 + 1)) := ⟨_, rfl⟩
            have hst := hst.out
            rw [← hV] at hst hnb
            have hVb := val7_lt ((l.drop k).take (1 + 1))
            rw [← hV] at hVb
            clear hV
            have hVb2 : V < 128 ^ 2 := Nat.lt_of_lt_of_le hVb (Nat.pow_le_pow_right (by decide) (by rw [List.length_take]; omega))
            clear hVb
            simp only [Nat.reducePow] at hVb2
            by_cases hb1 : maxNum < V
            · exact absurd hb1 (by unfold maxNum; omega)
            · by_cases hb2 : most < (V : Int)
              · rw [if_pos (.inr hb2)] at hnb
                replace hnb := Lib.hid hnb
                have m1 : (V : Int) ≤ 1099511627776 := by unfold maxNum at hb1; omega
                clear hb1
                go_wp2_with fail
                go_quiet (fail)
                go_wp2_with fail
                go_quiet (fail)
                go_wp2_with fail
                go_quiet (fail)
                go_wp2_with fail
                go_ret2
                rw [hnb.out]
                exact ⟨rfl, ((hR.out.drewN _).err 4).drewN _, grown_trans (grown_trans (grown_drewN _ _ _) (grown_set _ _ _ _)) (grown_drewN _ _ _)⟩
              · rw [if_neg (fun h => h.elim hb1 hb2)] at hnb
                replace hnb := Lib.hid hnb
                have m1 : (V : Int) ≤ 1099511627776 := by unfold maxNum at hb1; omega
                clear hb1
                have w4 : IntKind.i64.wrap ((k : Int) + 1 + 1) = (k : Int) + 1 + 1 := IntWalk.i64_in _ (by omega)
                go_wp2_with fail
                go_quiet (fail)
                go_wp2_with fail
                go_quiet (fail)
                go_wp2_with fail
                go_quiet (fail)
                go_wp2_with fail
                go_ret2
                rw [hnb.out]
                exact ⟨rfl, (hR.out.drewN _).drewN _, grown_trans (grown_drewN _ _ _) (grown_drewN _ _ _)⟩
    · simp only [Nat.reducePow] at hvl
      have w0 : IntKind.i64.wrap ((k : Int) + 2) = (k : Int) + 2 := IntWalk.i64_in _ (by omega)
      have w1 : ((k : Int) + 2).toNat = k + 2 := by omega
      have w2 : (0 : Int) ≤ (k : Int) + 2 := by omega
      by_cases hend : k + 2 = l.length
      · have hnb := nextB_short (l.drop k) most 2 (by decide) (by rw [List.length_drop]; omega) hall.out
        have w3 : ((l.length : Nat) : Int) ≤ (k : Int) + 2 := by omega
        clear hend
        replace hnb := Lib.hid hnb
        go_wp2_with fail
        go_quiet (fail)
        go_wp2_with fail
        go_quiet (fail)
        go_wp2_with fail
        go_ret2
        rw [hnb.out]
        exact ⟨rfl, ((hR.out.drewN _).err 2).drewN _, grown_trans (grown_trans (grown_drewN _ _ _) (grown_set _ _ _ _)) (grown_drewN _ _ _)⟩
      · have w3 : (k : Int) + 2 < (l.length : Int) := by omega
        have hlt : k + 2 < l.length := by omega
        obtain ⟨b, off, rfl, hc⟩ := hs.out.get (k + 2) hlt
        obtain ⟨c, hcc⟩ : ∃ c, c = l[k + 2] := ⟨_, rfl⟩
        rw [← hcc] at hc
        have hcd : (l.drop k)[2]'(by rw [List.length_drop]; omega) = c := by rw [List.getElem_drop, hcc]
        have hgd : (l.drop k).getD 2 0 = c := by rw [← hcd, List.getD_eq_getElem?_getD, List.getElem?_eq_getElem (by rw [List.length_drop]; omega)]; rfl
        have hvt : v + 2 ^ 14 * (c.toNat % 128) = val7 ((l.drop k).take (2 + 1)) := by rw [val7_take _ 2 (by rw [List.length_drop]; omega), hcd, hv.out]
        have hst := step7 v c.toNat 14 hvl (by decide) c.toNat_lt
        rw [hvt, show ((2 ^ 14 : Nat) : Int) = 16384 from rfl] at hst
        clear hcc hcd hend hlt
        have hcb := c.toNat_lt
        replace hgd := Lib.hid hgd
        replace hst := Lib.hid hst
        clear hvt
        by_cases h128 : 128 ≤ c.toNat
        · go_wp2_with fail
          go_quiet (fail)
          go_wp2_with fail
          go_quiet (fail)
          go_wp2_with fail
          go_roundg (gk - 1)
          case measure => omega
          case rel =>
            refine ⟨3, _, by omega, rfl, rfl, congrArg (Value.int .i64) hst.out, by omega, ?_⟩
            intro i hi
            rcases Nat.lt_or_ge i 2 with h | h
            · exact hall.out i h
            · obtain rfl : i = 2 := by omega
              rw [hgd.out]; exact h128
        · by_cases hz : c = 0
          · subst hz
            have hnb := nextB_zero (l.drop k) most 2 (by decide) (by rw [List.length_drop]; omega) hall.out (by decide) hgd.out
            replace hnb := Lib.hid hnb
            simp only [UInt8.toNat_zero, Int.natCast_zero] at hc
            clear hcb h128 hst
            go_wp2_with fail
            go_quiet (fail)
            go_wp2_with fail
            go_quiet (fail)
            go_wp2_with fail
            go_quiet (fail)
            go_wp2_with fail
            go_ret2
            rw [hnb.out]
            exact ⟨rfl, ((hR.out.drewN _).err 3).drewN _, grown_trans (grown_trans (grown_drewN _ _ _) (grown_set _ _ _ _)) (grown_drewN _ _ _)⟩
          · have hz0 : ((c.toNat : Int) == 0) = false := by
              rw [beq_eq_false_iff_ne]
              intro h
              exact hz (UInt8.toNat_inj.1 (by rw [UInt8.toNat_zero]; omega))
            have hnb := nextB_val (l.drop k) most 2 (by decide) (by rw [List.length_drop]; omega) hall.out (by rw [hgd.out]; omega) (by rw [hgd.out]; exact fun h => hz h.2)
            clear hz
            obtain ⟨V, hV⟩ : ∃ V, V = val7 ((l.drop k).take (2 + 1)) := ⟨_, rfl⟩
            have hst := hst.out
            rw [← hV] at hst hnb
            have hVb := val7_lt ((l.drop k).take (2 + 1))
            rw [← hV] at hVb
            clear hV
            have hVb2 : V < 128 ^ 3 := Nat.lt_of_lt_of_le hVb (Nat.pow_le_pow_right (by decide) (by rw [List.length_take]; omega))
            clear hVb
            simp only [Nat.reducePow] at hVb2
            by_cases hb1 : maxNum < V
            · exact absurd hb1 (by unfold maxNum; omega)
            · by_cases hb2 : most < (V : Int)
              · rw [if_pos (.inr hb2)] at hnb
                replace hnb := Lib.hid hnb
                have m1 : (V : Int) ≤ 1099511627776 := by unfold maxNum at hb1; omega
                clear hb1
                go_wp2_with fail
                go_quiet (fail)
                go_wp2_with fail
                go_quiet (fail)
                go_wp2_with fail
                go_quiet (fail)
                go_wp2_with fail
                go_ret2
                rw [hnb.out]
                exact ⟨rfl, ((hR.out.drewN _).err 4).drewN _, grown_trans (grown_trans (grown_drewN _ _ _) (grown_set _ _ _ _)) (grown_drewN _ _ _)⟩
              · rw [if_neg (fun h => h.elim hb1 hb2)] at hnb
                replace hnb := Lib.hid hnb
                have m1 : (V : Int) ≤ 1099511627776 := by unfold maxNum at hb1; omega
                clear hb1
                have w4 : IntKind.i64.wrap ((k : Int) + 2 + 1) = (k : Int) + 2 + 1 := IntWalk.i64_in _ (by omega)
                go_wp2_with fail
                go_quiet (fail)
                go_wp2_with fail
                go_quiet (fail)
                go_wp2_with fail
                go_quiet (fail)
                go_wp2_with fail
                go_ret2
                rw [hnb.out]
                exact ⟨rfl, (hR.out.drewN _).drewN _, grown_trans (grown_drewN _ _ _) (grown_drewN _ _ _)⟩
    · simp only [Nat.reducePow] at hvl
      have w0 : IntKind.i64.wrap ((k : Int) + 3) = (k : Int) + 3 := IntWalk.i64_in _ (by omega)
      have w1 : ((k : Int) + 3).toNat = k + 3 := by omega
      have w2 : (0 : Int) ≤ (k : Int) + 3 := by omega
      by_cases hend : k + 3 = l.length
      · have hnb := nextB_short (l.drop k) most 3 (by decide) (by rw [List.length_drop]; omega) hall.out
        have w3 : ((l.length : Nat) : Int) ≤ (k : Int) + 3 := by omega
        clear hend
        replace hnb := Lib.hid hnb
        go_wp2_with fail
        go_quiet (fail)
        go_wp2_with fail
        go_quiet (fail)
        go_wp2_with fail
        go_ret2
        rw [hnb.out]
        exact ⟨rfl, ((hR.out.drewN _).err 2).drewN _, grown_trans (grown_trans (grown_drewN _ _ _) (grown_set _ _ _ _)) (grown_drewN _ _ _)⟩
      · have w3 : (k : Int) + 3 < (l.length : Int) := by omega
        have hlt : k + 3 < l.length := by omega
        obtain ⟨b, off, rfl, hc⟩ := hs.out.get (k + 3) hlt
        obtain ⟨c, hcc⟩ : ∃ c, c = l[k + 3] := ⟨_, rfl⟩
        rw [← hcc] at hc
        have hcd : (l.drop k)[3]'(by rw [List.length_drop]; omega) = c := by rw [List.getElem_drop, hcc]
        have hgd : (l.drop k).getD 3 0 = c := by rw [← hcd, List.getD_eq_getElem?_getD, List.getElem?_eq_getElem (by rw [List.length_drop]; omega)]; rfl
        have hvt : v + 2 ^ 21 * (c.toNat % 128) = val7 ((l.drop k).take (3 + 1)) := by rw [val7_take _ 3 (by rw [List.length_drop]; omega), hcd, hv.out]
        have hst := step7 v c.toNat 21 hvl (by decide) c.toNat_lt
        rw [hvt, show ((2 ^ 21 : Nat) : Int) = 2097152 from rfl] at hst
        clear hcc hcd hend hlt
        have hcb := c.toNat_lt
        replace hgd := Lib.hid hgd
        replace hst := Lib.hid hst
        clear hvt
        by_cases h128 : 128 ≤ c.toNat
        · go_wp2_with fail
          go_quiet (fail)
          go_wp2_with fail
          go_quiet (fail)
          go_wp2_with fail
          go_roundg (gk - 1)
          case measure => omega
          case rel =>
            refine ⟨4, _, by omega, rfl, rfl, congrArg (Value.int .i64) hst.out, by omega, ?_⟩
            intro i hi
            rcases Nat.lt_or_ge i 3 with h | h
            · exact hall.out i h
            · obtain rfl : i = 3 := by omega
              rw [hgd.out]; exact h128
        · by_cases hz : c = 0
          · subst hz
            have hnb := nextB_zero (l.drop k) most 3 (by decide) (by rw [List.length_drop]; omega) hall.out (by decide) hgd.out
            replace hnb := Lib.hid hnb
            simp only [UInt8.toNat_zero, Int.natCast_zero] at hc
            clear hcb h128 hst
            go_wp2_with fail
            go_quiet (fail)
            go_wp2_with fail
            go_quiet (fail)
            go_wp2_with fail
            go_quiet (fail)
            go_wp2_with fail
            go_ret2
            rw [hnb.out]
            exact ⟨rfl, ((hR.out.drewN _).err 3).drewN _, grown_trans (grown_trans (grown_drewN _ _ _) (grown_set _ _ _ _)) (grown_drewN _ _ _)⟩
          · have hz0 : ((c.toNat : Int) == 0) = false := by
              rw [beq_eq_false_iff_ne]
              intro h
              exact hz (UInt8.toNat_inj.1 (by rw [UInt8.toNat_zero]; omega))
            have hnb := nextB_val (l.drop k) most 3 (by decide) (by rw [List.length_drop]; omega) hall.out (by rw [hgd.out]; omega) (by rw [hgd.out]; exact fun h => hz h.2)
            clear hz
            obtain ⟨V, hV⟩ : ∃ V, V = val7 ((l.drop k).take (3 + 1)) := ⟨_, rfl⟩
            have hst := hst.out
            rw [← hV] at hst hnb
            have hVb := val7_lt ((l.drop k).take (3 + 1))
            rw [← hV] at hVb
            clear hV
            have hVb2 : V < 128 ^ 4 := Nat.lt_of_lt_of_le hVb (Nat.pow_le_pow_right (by decide) (by rw [List.length_take]; omega))
            clear hVb
            simp only [Nat.reducePow] at hVb2
            by_cases hb1 : maxNum < V
            · exact absurd hb1 (by unfold maxNum; omega)
            · by_cases hb2 : most < (V : Int)
              · rw [if_pos (.inr hb2)] at hnb
                replace hnb := Lib.hid hnb
                have m1 : (V : Int) ≤ 1099511627776 := by unfold maxNum at hb1; omega
                clear hb1
                go_wp2_with fail
                go_quiet (fail)
                go_wp2_with fail
                go_quiet (fail)
                go_wp2_with fail
                go_quiet (fail)
                go_wp2_with fail
                go_ret2
                rw [hnb.out]
                exact ⟨rfl, ((hR.out.drewN _).err 4).drewN _, grown_trans (grown_trans (grown_drewN _ _ _) (grown_set _ _ _ _)) (grown_drewN _ _ _)⟩
              · rw [if_neg (fun h => h.elim hb1 hb2)] at hnb
                replace hnb := Lib.hid hnb
                have m1 : (V : Int) ≤ 1099511627776 := by unfold maxNum at hb1; omega
                clear hb1
                have w4 : IntKind.i64.wrap ((k : Int) + 3 + 1) = (k : Int) + 3 + 1 := IntWalk.i64_in _ (by omega)
                go_wp2_with fail
                go_quiet (fail)
                go_wp2_with fail
                go_quiet (fail)
                go_wp2_with fail
                go_quiet (fail)
                go_wp2_with fail
                go_ret2
                rw [hnb.out]
                exact ⟨rfl, (hR.out.drewN _).drewN _, grown_trans (grown_drewN _ _ _) (grown_drewN _ _ _)⟩
    · simp only [Nat.reducePow] at hvl
      have w0 : IntKind.i64.wrap ((k : Int) + 4) = (k : Int) + 4 := IntWalk.i64_in _ (by omega)
      have w1 : ((k : Int) + 4).toNat = k + 4 := by omega
      have w2 : (0 : Int) ≤ (k : Int) + 4 := by omega
      by_cases hend : k + 4 = l.length
      · have hnb := nextB_short (l.drop k) most 4 (by decide) (by rw [List.length_drop]; omega) hall.out
        have w3 : ((l.length : Nat) : Int) ≤ (k : Int) + 4 := by omega
        clear hend
        replace hnb := Lib.hid hnb
        go_wp2_with fail
        go_quiet (fail)
        go_wp2_with fail
        go_quiet (fail)
        go_wp2_with fail
        go_ret2
        rw [hnb.out]
        exact ⟨rfl, ((hR.out.drewN _).err 2).drewN _, grown_trans (grown_trans (grown_drewN _ _ _) (grown_set _ _ _ _)) (grown_drewN _ _ _)⟩
      · have w3 : (k : Int) + 4 < (l.length : Int) := by omega
        have hlt : k + 4 < l.length := by omega
        obtain ⟨b, off, rfl, hc⟩ := hs.out.get (k + 4) hlt
        obtain ⟨c, hcc⟩ : ∃ c, c = l[k + 4] := ⟨_, rfl⟩
        rw [← hcc] at hc
        have hcd : (l.drop k)[4]'(by rw [List.length_drop]; omega) = c := by rw [List.getElem_drop, hcc]
        have hgd : (l.drop k).getD 4 0 = c := by rw [← hcd, List.getD_eq_getElem?_getD, List.getElem?_eq_getElem (by rw [List.length_drop]; omega)]; rfl
        have hvt : v + 2 ^ 28 * (c.toNat % 128) = val7 ((l.drop k).take (4 + 1)) := by rw [val7_take _ 4 (by rw [List.length_drop]; omega), hcd, hv.out]
        have hst := step7 v c.toNat 28 hvl (by decide) c.toNat_lt
        rw [hvt, show ((2 ^ 28 : Nat) : Int) = 268435456 from rfl] at hst
        clear hcc hcd hend hlt
        have hcb := c.toNat_lt
        replace hgd := Lib.hid hgd
        replace hst := Lib.hid hst
        clear hvt
        by_cases h128 : 128 ≤ c.toNat
        · go_wp2_with fail
          go_quiet (fail)
          go_wp2_with fail
          go_quiet (fail)
          go_wp2_with fail
          go_roundg (gk - 1)
          case measure => omega
          case rel =>
            refine ⟨5, _, by omega, rfl, rfl, congrArg (Value.int .i64) hst.out, by omega, ?_⟩
            intro i hi
            rcases Nat.lt_or_ge i 4 with h | h
            · exact hall.out i h
            · obtain rfl : i = 4 := by omega
              rw [hgd.out]; exact h128
        · by_cases hz : c = 0
          · subst hz
            have hnb := nextB_zero (l.drop k) most 4 (by decide) (by rw [List.length_drop]; omega) hall.out (by decide) hgd.out
            replace hnb := Lib.hid hnb
            simp only [UInt8.toNat_zero, Int.natCast_zero] at hc
            clear hcb h128 hst
            go_wp2_with fail
            go_quiet (fail)
            go_wp2_with fail
            go_quiet (fail)
            go_wp2_with fail
            go_quiet (fail)
            go_wp2_with fail
            go_ret2
            rw [hnb.out]
            exact ⟨rfl, ((hR.out.drewN _).err 3).drewN _, grown_trans (grown_trans (grown_drewN _ _ _) (grown_set _ _ _ _)) (grown_drewN _ _ _)⟩
          · have hz0 : ((c.toNat : Int) == 0) = false := by
              rw [beq_eq_false_iff_ne]
              intro h
              exact hz (UInt8.toNat_inj.1 (by rw [UInt8.toNat_zero]; omega))
            have hnb := nextB_val (l.drop k) most 4 (by decide) (by rw [List.length_drop]; omega) hall.out (by rw [hgd.out]; omega) (by rw [hgd.out]; exact fun h => hz h.2)
            clear hz
            obtain ⟨V, hV⟩ : ∃ V, V = val7 ((l.drop k).take (4 + 1)) := ⟨_, rfl⟩
            have hst := hst.out
            rw [← hV] at hst hnb
            have hVb := val7_lt ((l.drop k).take (4 + 1))
            rw [← hV] at hVb
            clear hV
            have hVb2 : V < 128 ^ 5 := Nat.lt_of_lt_of_le hVb (Nat.pow_le_pow_right (by decide) (by rw [List.length_take]; omega))
            clear hVb
            simp only [Nat.reducePow] at hVb2
            by_cases hb1 : maxNum < V
            · exact absurd hb1 (by unfold maxNum; omega)
            · by_cases hb2 : most < (V : Int)
              · rw [if_pos (.inr hb2)] at hnb
                replace hnb := Lib.hid hnb
                have m1 : (V : Int) ≤ 1099511627776 := by unfold maxNum at hb1; omega
                clear hb1
                go_wp2_with fail
                go_quiet (fail)
                go_wp2_with fail
                go_quiet (fail)
                go_wp2_with fail
                go_quiet (fail)
                go_wp2_with fail
                go_ret2
                rw [hnb.out]
                exact ⟨rfl, ((hR.out.drewN _).err 4).drewN _, grown_trans (grown_trans (grown_drewN _ _ _) (grown_set _ _ _ _)) (grown_drewN _ _ _)⟩
              · rw [if_neg (fun h => h.elim hb1 hb2)] at hnb
                replace hnb := Lib.hid hnb
                have m1 : (V : Int) ≤ 1099511627776 := by unfold maxNum at hb1; omega
                clear hb1
                have w4 : IntKind.i64.wrap ((k : Int) + 4 + 1) = (k : Int) + 4 + 1 := IntWalk.i64_in _ (by omega)
                go_wp2_with fail
                go_quiet (fail)
                go_wp2_with fail
                go_quiet (fail)
                go_wp2_with fail
                go_quiet (fail)
                go_wp2_with fail
                go_ret2
                rw [hnb.out]
                exact ⟨rfl, (hR.out.drewN _).drewN _, grown_trans (grown_drewN _ _ _) (grown_drewN _ _ _)⟩
    · simp only [Nat.reducePow] at hvl
      have w0 : IntKind.i64.wrap ((k : Int) + 5) = (k : Int) + 5 := IntWalk.i64_in _ (by omega)
      have w1 : ((k : Int) + 5).toNat = k + 5 := by omega
      have w2 : (0 : Int) ≤ (k : Int) + 5 := by omega
      by_cases hend : k + 5 = l.length
      · have hnb := nextB_short (l.drop k) most 5 (by decide) (by rw [List.length_drop]; omega) hall.out
        have w3 : ((l.length : Nat) : Int) ≤ (k : Int) + 5 := by omega
        clear hend
        replace hnb := Lib.hid hnb
        go_wp2_with fail
        go_quiet (fail)
        go_wp2_with fail
        go_quiet (fail)
        go_wp2_with fail
        go_ret2
        rw [hnb.out]
        exact ⟨rfl, ((hR.out.drewN _).err 2).drewN _, grown_trans (grown_trans (grown_drewN _ _ _) (grown_set _ _ _ _)) (grown_drewN _ _ _)⟩
      · have w3 : (k : Int) + 5 < (l.length : Int) := by omega
        have hlt : k + 5 < l.length := by omega
        obtain ⟨b, off, rfl, hc⟩ := hs.out.get (k + 5) hlt
        obtain ⟨c, hcc⟩ : ∃ c, c = l[k + 5] := ⟨_, rfl⟩
        rw [← hcc] at hc
        have hcd : (l.drop k)[5]'(by rw [List.length_drop]; omega) = c := by rw [List.getElem_drop, hcc]
        have hgd : (l.drop k).getD 5 0 = c := by rw [← hcd, List.getD_eq_getElem?_getD, List.getElem?_eq_getElem (by rw [List.length_drop]; omega)]; rfl
        have hvt : v + 2 ^ 35 * (c.toNat % 128) = val7 ((l.drop k).take (5 + 1)) := by rw [val7_take _ 5 (by rw [List.length_drop]; omega), hcd, hv.out]
        have hst := step7 v c.toNat 35 hvl (by decide) c.toNat_lt
        rw [hvt, show ((2 ^ 35 : Nat) : Int) = 34359738368 from rfl] at hst
        clear hcc hcd hend hlt
        have hcb := c.toNat_lt
        replace hgd := Lib.hid hgd
        replace hst := Lib.hid hst
        clear hvt
        by_cases h128 : 128 ≤ c.toNat
        · go_wp2_with fail
          go_quiet (fail)
          go_wp2_with fail
          go_quiet (fail)
          go_wp2_with fail
          go_roundg (gk - 1)
          case measure => omega
          case rel =>
            refine ⟨6, _, by omega, rfl, rfl, congrArg (Value.int .i64) hst.out, by omega, ?_⟩
            intro i hi
            rcases Nat.lt_or_ge i 5 with h | h
            · exact hall.out i h
            · obtain rfl : i = 5 := by omega
              rw [hgd.out]; exact h128
        · by_cases hz : c = 0
          · subst hz
            have hnb := nextB_zero (l.drop k) most 5 (by decide) (by rw [List.length_drop]; omega) hall.out (by decide) hgd.out
            replace hnb := Lib.hid hnb
            simp only [UInt8.toNat_zero, Int.natCast_zero] at hc
            clear hcb h128 hst
            go_wp2_with fail
            go_quiet (fail)
            go_wp2_with fail
            go_quiet (fail)
            go_wp2_with fail
            go_quiet (fail)
            go_wp2_with fail
            go_ret2
            rw [hnb.out]
            exact ⟨rfl, ((hR.out.drewN _).err 3).drewN _, grown_trans (grown_trans (grown_drewN _ _ _) (grown_set _ _ _ _)) (grown_drewN _ _ _)⟩
          · have hz0 : ((c.toNat : Int) == 0) = false := by
              rw [beq_eq_false_iff_ne]
              intro h
              exact hz (UInt8.toNat_inj.1 (by rw [UInt8.toNat_zero]; omega))
            have hnb := nextB_val (l.drop k) most 5 (by decide) (by rw [List.length_drop]; omega) hall.out (by rw [hgd.out]; omega) (by rw [hgd.out]; exact fun h => hz h.2)
            clear hz
            obtain ⟨V, hV⟩ : ∃ V, V = val7 ((l.drop k).take (5 + 1)) := ⟨_, rfl⟩
            have hst := hst.out
            rw [← hV] at hst hnb
            have hVb := val7_lt ((l.drop k).take (5 + 1))
            rw [← hV] at hVb
            clear hV
            have hVb2 : V < 128 ^ 6 := Nat.lt_of_lt_of_le hVb (Nat.pow_le_pow_right (by decide) (by rw [List.length_take]; omega))
            clear hVb
            simp only [Nat.reducePow] at hVb2
            by_cases hb1 : maxNum < V
            · rw [if_pos (.inl hb1)] at hnb
              replace hnb := Lib.hid hnb
              have m1 : (1099511627776 : Int) < (V : Int) := by unfold maxNum at hb1; omega
              clear hb1
              go_wp2_with fail
              go_quiet (fail)
              go_wp2_with fail
              go_quiet (fail)
              go_wp2_with fail
              go_quiet (fail)
              go_wp2_with fail
              go_ret2
              rw [hnb.out]
              exact ⟨rfl, ((hR.out.drewN _).err 4).drewN _, grown_trans (grown_trans (grown_drewN _ _ _) (grown_set _ _ _ _)) (grown_drewN _ _ _)⟩
            · by_cases hb2 : most < (V : Int)
              · rw [if_pos (.inr hb2)] at hnb
                replace hnb := Lib.hid hnb
                have m1 : (V : Int) ≤ 1099511627776 := by unfold maxNum at hb1; omega
                clear hb1
                go_wp2_with fail
                go_quiet (fail)
                go_wp2_with fail
                go_quiet (fail)
                go_wp2_with fail
                go_quiet (fail)
                go_wp2_with fail
                go_ret2
                rw [hnb.out]
                exact ⟨rfl, ((hR.out.drewN _).err 4).drewN _, grown_trans (grown_trans (grown_drewN _ _ _) (grown_set _ _ _ _)) (grown_drewN _ _ _)⟩
              · rw [if_neg (fun h => h.elim hb1 hb2)] at hnb
                replace hnb := Lib.hid hnb
                have m1 : (V : Int) ≤ 1099511627776 := by unfold maxNum at hb1; omega
                clear hb1
                have w4 : IntKind.i64.wrap ((k : Int) + 5 + 1) = (k : Int) + 5 + 1 := IntWalk.i64_in _ (by omega)
                go_wp2_with fail
                go_quiet (fail)
                go_wp2_with fail
                go_quiet (fail)
                go_wp2_with fail
                go_quiet (fail)
                go_wp2_with fail
                go_ret2
                rw [hnb.out]
                exact ⟨rfl, (hR.out.drewN _).drewN _, grown_trans (grown_drewN _ _ _) (grown_drewN _ _ _)⟩
    · have hnb := nextB_six (l.drop k) most (by rw [List.length_drop]; omega) hall.out
      replace hnb := Lib.hid hnb
      go_wp2_with fail
      go_quiet (fail)
      go_wp2_with fail
      go_ret2
      rw [hnb.out]
      exact ⟨rfl, ((hR.out.drewN _).err 3).drewN _, grown_trans (grown_trans (grown_drewN _ _ _) (grown_set _ _ _ _)) (grown_drewN _ _ _)⟩

end Go.Proofs.Ytlhpibniecfofaa
end
