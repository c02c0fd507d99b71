/- Texts laid together: Delta1 Delta2 Delta3. -/
import Derived.WalkMore
import Derived.Test.YtajldelodnjmoaaM25
section
/- The turns up to a step: the program's and the document's. -/
set_option linter.unusedSimpArgs false
set_option linter.unusedVariables false
namespace Go.Ofp
open Go.RowKit
theorem upL_snoc {l : List Tn} {j : Nat} (hj : j < l.length) (fr til cur : Int) : upL (l.take (j + 1)) fr til cur = upL (l.take j) fr til cur ++ (if upB fr til cur l[j] = true then [l[j]] else []) := by
  unfold upL
  rw [List.take_succ_eq_append_getElem hj, List.filter_append]
  congr 1
  by_cases h : upB fr til cur l[j] = true
  · rw [if_pos h, List.filter_cons_of_pos h, List.filter_nil]
  · rw [if_neg h, List.filter_cons_of_neg h, List.filter_nil]
theorem upL_len (l : List Tn) (fr til cur : Int) : (upL l fr til cur).length ≤ l.length := List.length_filter_le _ _
theorem upL_mem {l : List Tn} {fr til cur : Int} {t : Tn} (h : t ∈ upL l fr til cur) : t ∈ l := (List.mem_filter.1 h).1
end Go.Ofp
namespace Go.Proofs.Ytajldelodnjmoaa
open Go.RowKit Go.Ofp
set_option linter.unusedVariables false
set_option maxRecDepth 100000
set_option maxHeartbeats 4000000

theorem within_any (t : Tn) (fr til cur : Int) (hf : t.c.f.length = 8) (w : World) : Calls Try.prog 69 #[.agg (tnRow t).toArray, .int .i64 fr, .int .i64 til, .int .i64 cur] w fun e w' => e = .returned (.bool (upB fr til cur t)) ∧ Below w.heap.size w w' := by
  have hS := St.start w
  have hu : upB fr til cur t = decide (fr < t.seq ∧ t.seq ≤ til ∧ t.id ≤ cur) := rfl
  have hsz : sizeB Try.prog 52 (tnRow t).toArray.size = true := by rw [List.size_toArray, tnRow_len t hf]; kernel_rfl
  obtain ⟨seq, id, old, new, c⟩ := t
  have htr : tnRow ⟨seq, id, old, new, c⟩ = .int .i64 seq :: .int .i64 id :: .int .i64 old :: .int .i64 new :: cdRow c := rfl
  rw [htr] at hsz ⊢
  dsimp only at *
  clear htr hf
  generalize cdRow c = RC at *
  rw [hu]
  clear hu
  by_cases h1 : fr < seq
  · have d1 : decide (fr < seq) = true := decide_eq_true h1
    by_cases h2 : seq ≤ til
    · have d2 : decide (seq ≤ til) = true := decide_eq_true h2
      by_cases h3 : id ≤ cur
      · have d3 : decide (id ≤ cur) = true := decide_eq_true h3
        rw [decide_eq_true (show fr < seq ∧ seq ≤ til ∧ id ≤ cur from ⟨h1, h2, h3⟩)]
        clear h1 h2 h3
        go_enter Try.func69, Try.ntmps69
        go_wp2_with (first
          | ((with_reducible refine wpList_gload_st 0 hS rfl (by with_unfolding_all rfl) rfl rfl ?_ rfl ?_); focus (simp [scalarB, go_sem]; done))
          | (with_reducible refine wpList_box_st hS rfl rfl rfl ?_; intro g1 w1 hS1; clear hS; replace hS := hS1; clear hS1) | (with_reducible refine wpList_box1_st hS rfl rfl rfl ?_; intro g1 w1 hS1; clear hS; replace hS := hS1; clear hS1) | (with_reducible refine wpList_alloc_st hS rfl rfl (by assumption) ?_; intro g1 w1 hS1; clear hS; replace hS := hS1; clear hS1) | (with_reducible refine wpList_alloc1_st hS rfl rfl (by assumption) rfl ?_; intro g1 w1 hS1; clear hS; replace hS := hS1; clear hS1) | ((with_reducible refine wpList_load_st 0 hS rfl rfl rfl rfl ?_ rfl ?_); focus (simp [scalarB, go_sem]; done)) | ((with_reducible refine wpList_loadall_st 0 hS rfl rfl rfl rfl ?_ (by kernel_rfl) ?_); focus (simp [rowB, go_sem]; done)) | ((with_reducible refine wpList_store_st 0 hS rfl rfl rfl rfl (by kernel_rfl) rfl rfl ?_); intro w1 hS1; clear hS; replace hS := hS1; clear hS1; try simp only [List.set_cons_zero, List.set_cons_succ, List.setIfInBounds_toArray, List.take_succ_cons, List.take_zero, List.drop_succ_cons, List.drop_zero, List.nil_append, List.cons_append, List.append_nil, List.drop_nil, List.take_nil, List.length_cons, List.length_nil, Nat.zero_add, Nat.add_zero, Nat.reduceAdd] at hS) | ((with_reducible refine wpList_storerow_st 0 hS rfl rfl rfl rfl (by kernel_rfl) rfl rfl rfl rfl ?_); intro w1 hS1; clear hS; replace hS := hS1; clear hS1; try simp only [List.set_cons_zero, List.set_cons_succ, List.setIfInBounds_toArray, List.take_succ_cons, List.take_zero, List.drop_succ_cons, List.drop_zero, List.nil_append, List.cons_append, List.append_nil, List.drop_nil, List.take_nil, List.length_cons, List.length_nil, Nat.zero_add, Nat.add_zero, Nat.reduceAdd] at hS))
        go_ret
        exact ⟨rfl, hS.below⟩
      · have d3 : decide (id ≤ cur) = false := decide_eq_false h3
        rw [decide_eq_false (show ¬ (fr < seq ∧ seq ≤ til ∧ id ≤ cur) from fun h => h3 h.2.2)]
        clear h1 h2 h3
        go_enter Try.func69, Try.ntmps69
        go_wp2_with (first
          | ((with_reducible refine wpList_gload_st 0 hS rfl (by with_unfolding_all rfl) rfl rfl ?_ rfl ?_); focus (simp [scalarB, go_sem]; done))
          | (with_reducible refine wpList_box_st hS rfl rfl rfl ?_; intro g1 w1 hS1; clear hS; replace hS := hS1; clear hS1) | (with_reducible refine wpList_box1_st hS rfl rfl rfl ?_; intro g1 w1 hS1; clear hS; replace hS := hS1; clear hS1) | (with_reducible refine wpList_alloc_st hS rfl rfl (by assumption) ?_; intro g1 w1 hS1; clear hS; replace hS := hS1; clear hS1) | (with_reducible refine wpList_alloc1_st hS rfl rfl (by assumption) rfl ?_; intro g1 w1 hS1; clear hS; replace hS := hS1; clear hS1) | ((with_reducible refine wpList_load_st 0 hS rfl rfl rfl rfl ?_ rfl ?_); focus (simp [scalarB, go_sem]; done)) | ((with_reducible refine wpList_loadall_st 0 hS rfl rfl rfl rfl ?_ (by kernel_rfl) ?_); focus (simp [rowB, go_sem]; done)) | ((with_reducible refine wpList_store_st 0 hS rfl rfl rfl rfl (by kernel_rfl) rfl rfl ?_); intro w1 hS1; clear hS; replace hS := hS1; clear hS1; try simp only [List.set_cons_zero, List.set_cons_succ, List.setIfInBounds_toArray, List.take_succ_cons, List.take_zero, List.drop_succ_cons, List.drop_zero, List.nil_append, List.cons_append, List.append_nil, List.drop_nil, List.take_nil, List.length_cons, List.length_nil, Nat.zero_add, Nat.add_zero, Nat.reduceAdd] at hS) | ((with_reducible refine wpList_storerow_st 0 hS rfl rfl rfl rfl (by kernel_rfl) rfl rfl rfl rfl ?_); intro w1 hS1; clear hS; replace hS := hS1; clear hS1; try simp only [List.set_cons_zero, List.set_cons_succ, List.setIfInBounds_toArray, List.take_succ_cons, List.take_zero, List.drop_succ_cons, List.drop_zero, List.nil_append, List.cons_append, List.append_nil, List.drop_nil, List.take_nil, List.length_cons, List.length_nil, Nat.zero_add, Nat.add_zero, Nat.reduceAdd] at hS))
        go_ret
        exact ⟨rfl, hS.below⟩
    · have d2 : decide (seq ≤ til) = false := decide_eq_false h2
      rw [decide_eq_false (show ¬ (fr < seq ∧ seq ≤ til ∧ id ≤ cur) from fun h => h2 h.2.1)]
      clear h1 h2
      go_enter Try.func69, Try.ntmps69
      go_wp2_with (first
        | ((with_reducible refine wpList_gload_st 0 hS rfl (by with_unfolding_all rfl) rfl rfl ?_ rfl ?_); focus (simp [scalarB, go_sem]; done))
        | (with_reducible refine wpList_box_st hS rfl rfl rfl ?_; intro g1 w1 hS1; clear hS; replace hS := hS1; clear hS1) | (with_reducible refine wpList_box1_st hS rfl rfl rfl ?_; intro g1 w1 hS1; clear hS; replace hS := hS1; clear hS1) | (with_reducible refine wpList_alloc_st hS rfl rfl (by assumption) ?_; intro g1 w1 hS1; clear hS; replace hS := hS1; clear hS1) | (with_reducible refine wpList_alloc1_st hS rfl rfl (by assumption) rfl ?_; intro g1 w1 hS1; clear hS; replace hS := hS1; clear hS1) | ((with_reducible refine wpList_load_st 0 hS rfl rfl rfl rfl ?_ rfl ?_); focus (simp [scalarB, go_sem]; done)) | ((with_reducible refine wpList_loadall_st 0 hS rfl rfl rfl rfl ?_ (by kernel_rfl) ?_); focus (simp [rowB, go_sem]; done)) | ((with_reducible refine wpList_store_st 0 hS rfl rfl rfl rfl (by kernel_rfl) rfl rfl ?_); intro w1 hS1; clear hS; replace hS := hS1; clear hS1; try simp only [List.set_cons_zero, List.set_cons_succ, List.setIfInBounds_toArray, List.take_succ_cons, List.take_zero, List.drop_succ_cons, List.drop_zero, List.nil_append, List.cons_append, List.append_nil, List.drop_nil, List.take_nil, List.length_cons, List.length_nil, Nat.zero_add, Nat.add_zero, Nat.reduceAdd] at hS) | ((with_reducible refine wpList_storerow_st 0 hS rfl rfl rfl rfl (by kernel_rfl) rfl rfl rfl rfl ?_); intro w1 hS1; clear hS; replace hS := hS1; clear hS1; try simp only [List.set_cons_zero, List.set_cons_succ, List.setIfInBounds_toArray, List.take_succ_cons, List.take_zero, List.drop_succ_cons, List.drop_zero, List.nil_append, List.cons_append, List.append_nil, List.drop_nil, List.take_nil, List.length_cons, List.length_nil, Nat.zero_add, Nat.add_zero, Nat.reduceAdd] at hS))
      go_ret
      exact ⟨rfl, hS.below⟩
  · have d1 : decide (fr < seq) = false := decide_eq_false h1
    rw [decide_eq_false (show ¬ (fr < seq ∧ seq ≤ til ∧ id ≤ cur) from fun h => h1 h.1)]
    clear h1
    go_enter Try.func69, Try.ntmps69
    go_wp2_with (first
      | ((with_reducible refine wpList_gload_st 0 hS rfl (by with_unfolding_all rfl) rfl rfl ?_ rfl ?_); focus (simp [scalarB, go_sem]; done))
      | (with_reducible refine wpList_box_st hS rfl rfl rfl ?_; intro g1 w1 hS1; clear hS; replace hS := hS1; clear hS1) | (with_reducible refine wpList_box1_st hS rfl rfl rfl ?_; intro g1 w1 hS1; clear hS; replace hS := hS1; clear hS1) | (with_reducible refine wpList_alloc_st hS rfl rfl (by assumption) ?_; intro g1 w1 hS1; clear hS; replace hS := hS1; clear hS1) | (with_reducible refine wpList_alloc1_st hS rfl rfl (by assumption) rfl ?_; intro g1 w1 hS1; clear hS; replace hS := hS1; clear hS1) | ((with_reducible refine wpList_load_st 0 hS rfl rfl rfl rfl ?_ rfl ?_); focus (simp [scalarB, go_sem]; done)) | ((with_reducible refine wpList_loadall_st 0 hS rfl rfl rfl rfl ?_ (by kernel_rfl) ?_); focus (simp [rowB, go_sem]; done)) | ((with_reducible refine wpList_store_st 0 hS rfl rfl rfl rfl (by kernel_rfl) rfl rfl ?_); intro w1 hS1; clear hS; replace hS := hS1; clear hS1; try simp only [List.set_cons_zero, List.set_cons_succ, List.setIfInBounds_toArray, List.take_succ_cons, List.take_zero, List.drop_succ_cons, List.drop_zero, List.nil_append, List.cons_append, List.append_nil, List.drop_nil, List.take_nil, List.length_cons, List.length_nil, Nat.zero_add, Nat.add_zero, Nat.reduceAdd] at hS) | ((with_reducible refine wpList_storerow_st 0 hS rfl rfl rfl rfl (by kernel_rfl) rfl rfl rfl rfl ?_); intro w1 hS1; clear hS; replace hS := hS1; clear hS1; try simp only [List.set_cons_zero, List.set_cons_succ, List.setIfInBounds_toArray, List.take_succ_cons, List.take_zero, List.drop_succ_cons, List.drop_zero, List.nil_append, List.cons_append, List.append_nil, List.drop_nil, List.take_nil, List.length_cons, List.length_nil, Nat.zero_add, Nat.add_zero, Nat.reduceAdd] at hS))
    go_ret
    exact ⟨rfl, hS.below⟩

theorem some_any (a : Option Addr) (n c : Nat) (l : List Tn) (fr til cur : Int) (w : World) (hl : Lst tnRow TnIn w a n c l) (hn : n ≤ 1000) :
    Calls Try.prog 52 #[.slice a n c, .int .i64 fr, .int .i64 til, .int .i64 cur] w fun e w' => ∃ a' c', e = .returned (.slice a' (upL l fr til cur).length c') ∧ St w [] [Ch.row 52 31 (.slice a' (upL l fr til cur).length c') (upL l fr til cur).length ((upL l fr til cur).map tnRow).flatten] w' := by
  have hS := St.start w
  have et := elem_turn
  have cW := Lib.hid fun (t : Tn) (hf : t.c.f.length = 8) (W : World) => within_any t fr til cur hf W
  have hlen := Lib.hid hl.len
  have hlens := Lib.hid (tn_lens hl)
  have hbase := Lib.hid (hl.base (by decide) hlens.out)
  have hmem := Lib.hid hl.mem
  replace hl := Lib.hid hl
  go_enter Try.func52, Try.ntmps52
  go_wp2_with fail
  have hS1 := hS.nilrow 52 31
  clear hS
  have hS := hS1
  clear hS1
  go_loopg [9, 14] n (fun gk vo vx wr => ∃ (j : Nat) (U : List Tn) (ao : Option Addr) (co : Nat), j + gk = n ∧ vx = .int .i64 j ∧ vo = .slice ao U.length co ∧ Hid (upL (l.take j) fr til cur = U) ∧ St w [] [Ch.row 52 31 (.slice ao U.length co) U.length (U.map tnRow).flatten] wr)
  case atStart => exact ⟨0, [], none, 0, Nat.zero_add _, rfl, rfl, Lib.hid rfl, hS⟩
  case round =>
    clear hS
    obtain ⟨j, U, ao, co, hj, rfl, rfl, hU, hS⟩ := hrel
    by_cases hlt : j < n
    · have hjl : j < l.length := by rw [hlen.out]; exact hlt
      obtain ⟨b, off, rfl⟩ := hbase.out (by omega)
      have hrow := hl.out.rowb hlens.out j hjl
      have hrl := hlens.out _ (List.getElem_mem hjl)
      have hin := hmem.out _ (List.getElem_mem hjl)
      have hone := tnRow_one l[j]
      have hsz : sizeB Try.prog 52 (tnRow l[j]).toArray.size = true := by rw [List.size_toArray, hrl]; kernel_rfl
      have hsn := upL_snoc hjl fr til cur
      rw [hU.out] at hsn
      have hcW := cW.out l[j] hin.c.len
      have hUj : U.length ≤ 1000 := by
        rw [← hU.out]
        have := upL_len (l.take j) fr til cur
        rw [List.length_take] at this
        omega
      clear hin
      replace hrow := Lib.hid hrow
      cases hb : upB fr til cur l[j]
      · rw [hb] at hcW hsn
        have hU2 : upL (l.take (j + 1)) fr til cur = U := by rw [hsn]; simp
        replace hU2 := Lib.hid hU2
        replace hcW := Lib.hid hcW
        clear hb hsn
        generalize tnRow l[j] = RT at *
        go_wp2_with (first
          | (go_at_call 69; (with_reducible refine (hcW.out _).mono ?_); rintro _ w9 ⟨rfl, hk9⟩; have hS1 := hS.keepB hk9; clear hk9 hS; have hS := hS1; clear hS1)
          | (with_reducible refine wpList_rangerow (t := 52) (n := 31) (range_old hS hrow.out) rfl rfl rfl (by kernel_rfl) (by kernel_rfl) hrl ?_)
          | ((with_reducible refine wpList_alloc_st (L := [_]) hS rfl rfl et ?_); intro gT w1 hS1; clear hS; have hS := hS1; clear hS1)
          | ((with_reducible refine wpList_storerow_st (n := 31) (vs := RT) 0 hS rfl rfl rfl rfl (by kernel_rfl) rfl hrl hone (by kernel_rfl) ?_); intro w1 hS1; clear hS; have hS := hS1; clear hS1; try simp only [List.set_cons_zero, List.set_cons_succ, List.setIfInBounds_toArray, List.take_succ_cons, List.take_zero, List.drop_succ_cons, List.drop_zero, List.nil_append, List.cons_append, List.append_nil, List.drop_nil, List.take_nil, List.length_cons, List.length_nil, Nat.zero_add, Nat.add_zero, Nat.reduceAdd] at hS)
          | ((with_reducible refine wpList_loadall_st 0 hS rfl rfl rfl rfl ?_ hsz ?_); focus (simp [rowB, go_sem]; done))
          | (refine wpList_of_op fun K hK => op_build1_st (by with_unfolding_all rfl) hS rfl Try.underlying22 et (cs := RT.toArray) rfl (by rw [List.size_toArray]; exact hrl) (by decide) ?_; intro g3 w3 hS1; refine hK _ _ ?_; clear hK hS; have hS := hS1; clear hS1)
          | ((with_reducible refine wpList_app_st (news := RT) (m := 1) 2 hS rfl rfl rfl Try.underlying22 et rfl (Src.slice Try.underlying22 (hS.blksl2 0 rfl) hrl) rfl (fun u hu => List.all_eq_true.1 hone u hu) (by omega) (by unfold maxLen; omega) ?_); intro v6 w6 hS1; clear hS; simp only [List.set_cons_zero, List.set_cons_succ] at hS1; obtain ⟨a6, c6, rfl, -⟩ := hS1.row 2 rfl; have hS := hS1; clear hS1))
        go_roundg (n - (j + 1))
        case measure => omega
        case rel => exact ⟨j + 1, U, ao, co, by omega, by go_num, rfl, hU2, hS.drop⟩
      · rw [hb] at hcW hsn
        have hU2 : upL (l.take (j + 1)) fr til cur = U ++ [l[j]] := by rw [hsn]; simp
        have e1 : (U ++ [l[j]]).length = U.length + 1 := by simp
        have e2 : ((U ++ [l[j]]).map tnRow).flatten = (U.map tnRow).flatten ++ tnRow l[j] := by simp
        replace hcW := Lib.hid hcW
        replace hU2 := Lib.hid hU2
        replace e1 := Lib.hid e1
        replace e2 := Lib.hid e2
        clear hb hsn
        generalize U ++ [l[j]] = U2 at *
        generalize tnRow l[j] = RT at *
        go_wp2_with (first
          | (go_at_call 69; (with_reducible refine (hcW.out _).mono ?_); rintro _ w9 ⟨rfl, hk9⟩; have hS1 := hS.keepB hk9; clear hk9 hS; have hS := hS1; clear hS1)
          | (with_reducible refine wpList_rangerow (t := 52) (n := 31) (range_old hS hrow.out) rfl rfl rfl (by kernel_rfl) (by kernel_rfl) hrl ?_)
          | ((with_reducible refine wpList_alloc_st (L := [_]) hS rfl rfl et ?_); intro gT w1 hS1; clear hS; have hS := hS1; clear hS1)
          | ((with_reducible refine wpList_storerow_st (n := 31) (vs := RT) 0 hS rfl rfl rfl rfl (by kernel_rfl) rfl hrl hone (by kernel_rfl) ?_); intro w1 hS1; clear hS; have hS := hS1; clear hS1; try simp only [List.set_cons_zero, List.set_cons_succ, List.setIfInBounds_toArray, List.take_succ_cons, List.take_zero, List.drop_succ_cons, List.drop_zero, List.nil_append, List.cons_append, List.append_nil, List.drop_nil, List.take_nil, List.length_cons, List.length_nil, Nat.zero_add, Nat.add_zero, Nat.reduceAdd] at hS)
          | ((with_reducible refine wpList_loadall_st 0 hS rfl rfl rfl rfl ?_ hsz ?_); focus (simp [rowB, go_sem]; done))
          | (refine wpList_of_op fun K hK => op_build1_st (by with_unfolding_all rfl) hS rfl Try.underlying22 et (cs := RT.toArray) rfl (by rw [List.size_toArray]; exact hrl) (by decide) ?_; intro g3 w3 hS1; refine hK _ _ ?_; clear hK hS; have hS := hS1; clear hS1)
          | ((with_reducible refine wpList_app_st (news := RT) (m := 1) 2 hS rfl rfl rfl Try.underlying22 et rfl (Src.slice Try.underlying22 (hS.blksl2 0 rfl) hrl) rfl (fun u hu => List.all_eq_true.1 hone u hu) (by omega) (by unfold maxLen; omega) ?_); intro v6 w6 hS1; clear hS; simp only [List.set_cons_zero, List.set_cons_succ] at hS1; obtain ⟨a6, c6, rfl, -⟩ := hS1.row 2 rfl; have hS := hS1; clear hS1))
        go_roundg (n - (j + 1))
        case measure => omega
        case rel =>
          refine ⟨j + 1, U2, a6, c6, by omega, by go_num, by rw [e1.out], hU2, ?_⟩
          rw [e1.out, e2.out]
          exact hS.one 2 rfl
    · have e : l.take j = l := List.take_of_length_le (by rw [hlen.out]; omega)
      rw [e] at hU
      obtain rfl := hU.out
      go_wp2_with fail
      go_ret
      exact ⟨_, _, rfl, hS⟩

theorem rup_any (a : Option Addr) (n c : Nat) (l : List Tn) (fr til cur : Int) (w : World) (hl : Lst tnRow TnIn w a n c l) (hn : n ≤ 1000) :
    Calls Try.prog 18 #[.slice a n c, .int .i64 fr, .int .i64 til, .int .i64 cur] w fun e w' => ∃ a' c', e = .returned (.slice a' (upL l fr til cur).length c') ∧ St w [] [Ch.row 52 31 (.slice a' (upL l fr til cur).length c') (upL l fr til cur).length ((upL l fr til cur).map tnRow).flatten] w' := by
  have hS := St.start w
  have et := elem_turn
  have hlen := Lib.hid hl.len
  have hlens := Lib.hid (tn_lens hl)
  have hbase := Lib.hid (hl.base (by decide) hlens.out)
  have hmem := Lib.hid hl.mem
  replace hl := Lib.hid hl
  go_enter Try.func18, Try.ntmps18
  go_wp2_with (first
    | ((with_reducible refine wpList_build0_st hS rfl rfl Try.underlying22 et ?_); intro g2 w3 hS1; clear hS; have hS := hS1; clear hS1))
  go_loopg [9, 10] n (fun gk vo vx wr => ∃ (j : Nat) (U : List Tn) (ao : Option Addr) (co : Nat), j + gk = n ∧ vx = .int .i64 j ∧ vo = .slice ao U.length co ∧ Hid (upL (l.take j) fr til cur = U) ∧ St w [] [Ch.row 52 31 (.slice ao U.length co) U.length (U.map tnRow).flatten] wr)
  case atStart => exact ⟨0, [], some ⟨g2, 0, none⟩, 0, Nat.zero_add _, rfl, rfl, Lib.hid rfl, hS⟩
  case round =>
    clear hS
    obtain ⟨j, U, ao, co, hj, rfl, rfl, hU, hS⟩ := hrel
    by_cases hlt : j < n
    · have hjl : j < l.length := by rw [hlen.out]; exact hlt
      obtain ⟨b, off, rfl⟩ := hbase.out (by omega)
      have hrow := hl.out.rowb hlens.out j hjl
      have hrl := hlens.out _ (List.getElem_mem hjl)
      have hone := tnRow_one l[j]
      have z0 : w.cell? ⟨b, off + j * 31, none⟩ = some (.int .i64 l[j].seq) := by simpa using hrow 0 _ rfl
      have z1 : w.cell? ⟨b, off + j * 31 + 1, none⟩ = some (.int .i64 l[j].id) := hrow 1 _ rfl
      have c0 := hS.old z0 (by simp)
      have c1 := hS.old z1 (by simp)
      have hsn := upL_snoc hjl fr til cur
      rw [hU.out] at hsn
      have hUj : U.length ≤ 1000 := by
        rw [← hU.out]
        have := upL_len (l.take j) fr til cur
        rw [List.length_take] at this
        omega
      have hub : upB fr til cur l[j] = decide (fr < l[j].seq ∧ l[j].seq ≤ til ∧ l[j].id ≤ cur) := rfl
      replace hrow := Lib.hid hrow
      have hN : upB fr til cur l[j] = false → upL (l.take (j + 1)) fr til cur = U := fun h => by rw [hsn, h]; simp
      have hY : upB fr til cur l[j] = true → upL (l.take (j + 1)) fr til cur = U ++ [l[j]] := fun h => by rw [hsn, h]; simp
      have e1 : (U ++ [l[j]]).length = U.length + 1 := by simp
      have e2 : ((U ++ [l[j]]).map tnRow).flatten = (U.map tnRow).flatten ++ tnRow l[j] := by simp
      replace e1 := Lib.hid e1
      replace e2 := Lib.hid e2
      rw [hub] at hN hY
      clear hsn hub z0 z1
      generalize U ++ [l[j]] = U2 at *
      generalize tnRow l[j] = RT at *
      generalize l[j].seq = seq at *
      generalize l[j].id = id at *
      by_cases h1 : fr < seq
      · have d1 : decide (fr < seq) = true := decide_eq_true h1
        by_cases h2 : seq ≤ til
        · have d2 : decide (seq ≤ til) = true := decide_eq_true h2
          by_cases h3 : id ≤ cur
          · have d3 : decide (id ≤ cur) = true := decide_eq_true h3
            have hU2 := Lib.hid (hY (decide_eq_true ⟨h1, h2, h3⟩))
            clear h1 h2 h3 hN hY
            go_wp2_with (first
              | (with_reducible refine wpList_rangerow (t := 52) (n := 31) (range_old hS hrow.out) rfl rfl rfl (by kernel_rfl) (by kernel_rfl) hrl ?_)
              | (refine wpList_of_op fun K hK => op_build1_st (by with_unfolding_all rfl) hS rfl Try.underlying22 et (cs := RT.toArray) rfl (by rw [List.size_toArray]; exact hrl) (by decide) ?_; intro g3 w3 hS1; refine hK _ _ ?_; clear hK hS; have hS := hS1; clear hS1)
              | ((with_reducible refine wpList_app_st (news := RT) (m := 1) 1 hS rfl rfl rfl Try.underlying22 et rfl (Src.slice Try.underlying22 (hS.blksl2 0 rfl) hrl) rfl (fun u hu => List.all_eq_true.1 hone u hu) (by omega) (by unfold maxLen; omega) ?_); intro v6 w6 hS1; clear hS; simp only [List.set_cons_zero, List.set_cons_succ] at hS1; obtain ⟨a6, c6, rfl, -⟩ := hS1.row 1 rfl; have hS := hS1; clear hS1))
            go_roundg (n - (j + 1))
            case measure => omega
            case rel =>
              refine ⟨j + 1, U2, a6, c6, by omega, by go_num, by rw [e1.out], hU2, ?_⟩
              rw [e1.out, e2.out]
              exact hS.one 1 rfl
          · have d3 : decide (id ≤ cur) = false := decide_eq_false h3
            have hU2 := Lib.hid (hN (decide_eq_false fun h => h3 h.2.2))
            clear h1 h2 h3 hN hY
            go_wp2_with (first
              | (with_reducible refine wpList_rangerow (t := 52) (n := 31) (range_old hS hrow.out) rfl rfl rfl (by kernel_rfl) (by kernel_rfl) hrl ?_)
              | (refine wpList_of_op fun K hK => op_build1_st (by with_unfolding_all rfl) hS rfl Try.underlying22 et (cs := RT.toArray) rfl (by rw [List.size_toArray]; exact hrl) (by decide) ?_; intro g3 w3 hS1; refine hK _ _ ?_; clear hK hS; have hS := hS1; clear hS1)
              | ((with_reducible refine wpList_app_st (news := RT) (m := 1) 1 hS rfl rfl rfl Try.underlying22 et rfl (Src.slice Try.underlying22 (hS.blksl2 0 rfl) hrl) rfl (fun u hu => List.all_eq_true.1 hone u hu) (by omega) (by unfold maxLen; omega) ?_); intro v6 w6 hS1; clear hS; simp only [List.set_cons_zero, List.set_cons_succ] at hS1; obtain ⟨a6, c6, rfl, -⟩ := hS1.row 1 rfl; have hS := hS1; clear hS1))
            go_roundg (n - (j + 1))
            case measure => omega
            case rel => exact ⟨j + 1, U, ao, co, by omega, by go_num, rfl, hU2, hS⟩
        · have d2 : decide (seq ≤ til) = false := decide_eq_false h2
          have hU2 := Lib.hid (hN (decide_eq_false fun h => h2 h.2.1))
          clear h1 h2 hN hY
          go_wp2_with (first
            | (with_reducible refine wpList_rangerow (t := 52) (n := 31) (range_old hS hrow.out) rfl rfl rfl (by kernel_rfl) (by kernel_rfl) hrl ?_)
            | (refine wpList_of_op fun K hK => op_build1_st (by with_unfolding_all rfl) hS rfl Try.underlying22 et (cs := RT.toArray) rfl (by rw [List.size_toArray]; exact hrl) (by decide) ?_; intro g3 w3 hS1; refine hK _ _ ?_; clear hK hS; have hS := hS1; clear hS1)
            | ((with_reducible refine wpList_app_st (news := RT) (m := 1) 1 hS rfl rfl rfl Try.underlying22 et rfl (Src.slice Try.underlying22 (hS.blksl2 0 rfl) hrl) rfl (fun u hu => List.all_eq_true.1 hone u hu) (by omega) (by unfold maxLen; omega) ?_); intro v6 w6 hS1; clear hS; simp only [List.set_cons_zero, List.set_cons_succ] at hS1; obtain ⟨a6, c6, rfl, -⟩ := hS1.row 1 rfl; have hS := hS1; clear hS1))
          go_roundg (n - (j + 1))
          case measure => omega
          case rel => exact ⟨j + 1, U, ao, co, by omega, by go_num, rfl, hU2, hS⟩
      · have d1 : decide (fr < seq) = false := decide_eq_false h1
        have hU2 := Lib.hid (hN (decide_eq_false fun h => h1 h.1))
        clear h1 hN hY
        go_wp2_with (first
          | (with_reducible refine wpList_rangerow (t := 52) (n := 31) (range_old hS hrow.out) rfl rfl rfl (by kernel_rfl) (by kernel_rfl) hrl ?_)
          | (refine wpList_of_op fun K hK => op_build1_st (by with_unfolding_all rfl) hS rfl Try.underlying22 et (cs := RT.toArray) rfl (by rw [List.size_toArray]; exact hrl) (by decide) ?_; intro g3 w3 hS1; refine hK _ _ ?_; clear hK hS; have hS := hS1; clear hS1)
          | ((with_reducible refine wpList_app_st (news := RT) (m := 1) 1 hS rfl rfl rfl Try.underlying22 et rfl (Src.slice Try.underlying22 (hS.blksl2 0 rfl) hrl) rfl (fun u hu => List.all_eq_true.1 hone u hu) (by omega) (by unfold maxLen; omega) ?_); intro v6 w6 hS1; clear hS; simp only [List.set_cons_zero, List.set_cons_succ] at hS1; obtain ⟨a6, c6, rfl, -⟩ := hS1.row 1 rfl; have hS := hS1; clear hS1))
        go_roundg (n - (j + 1))
        case measure => omega
        case rel => exact ⟨j + 1, U, ao, co, by omega, by go_num, rfl, hU2, hS⟩
    · have e : l.take j = l := List.take_of_length_le (by rw [hlen.out]; omega)
      rw [e] at hU
      obtain rfl := hU.out
      go_wp2_with fail
      go_ret
      exact ⟨_, _, rfl, hS⟩
end Go.Proofs.Ytajldelodnjmoaa
end

section
/- As many turns as fit into a page: the program's. -/
set_option linter.unusedSimpArgs false
set_option linter.unusedVariables false
namespace Go.Ofp
open Go.RowKit
theorem fitTo_step {all : List Tn} {p j : Nat} (h : (netOf (all.take (j + 1))).length ≤ p) : fitTo all p (j + 1) = j + 1 := by
  unfold fitTo
  rw [if_pos h]
theorem fitTo_stay {all : List Tn} {p j : Nat} (h : ¬ (netOf (all.take (j + 1))).length ≤ p) : fitTo all p (j + 1) = fitTo all p j := by
  rw [fitTo, if_neg h]
theorem goes_next {ok : Cd → Bool} {l : List Tn} (h : goes ok [] l = true) {j : Nat} (hj : j < l.length) : ∀ u, lastOf (l.take j) l[j].id = some u → u.new = l[j].old := by
  intro u hu
  have e : l = l.take j ++ l.drop j := (List.take_append_drop j l).symm
  rw [e, goes_split, Bool.and_eq_true] at h
  have h2 := h.2
  rw [List.drop_eq_getElem_cons hj] at h2
  simp only [List.nil_append, goes, nextOk, Bool.and_eq_true, decide_eq_true_eq] at h2
  have h3 := h2.1.2
  rw [hu] at h3
  simpa using h3
end Go.Ofp
namespace Go.Proofs.Ytajldelodnjmoaa
open Go.RowKit Go.Ofp
set_option linter.unusedVariables false
set_option maxRecDepth 100000
set_option maxHeartbeats 4000000

/-- What a cut answers. -/
def CutR (P : Program) (T : TypeId) (all : List Tn) (now : Int) (p : Nat) (e : Ending) (w w' : World) : Prop :=
  ∃ a c, e = .returned (.tuple #[.slice a (netOf (all.take (fitN all p))).length c, .int .i64 (cutTo all now p)]) ∧ St w [] [Ch.row T 28 (.slice a (netOf (all.take (fitN all p))).length c) (netOf (all.take (fitN all p))).length ((netOf (all.take (fitN all p))).map itRow).flatten] w'

theorem dcut_any (a : Option Addr) (n c : Nat) (l : List Tn) (fr now cur page : Int) (w : World) (hl : Lst tnRow TnIn w a n c l) (hg : goes Cd.ok [] l = true) (hn : n ≤ 1000) :
    Calls Try.prog 15 #[.slice a n c, .int .i64 fr, .int .i64 now, .int .i64 cur, .int .i64 page] w fun e w' => CutR Try.prog 50 (upL l fr now cur) now page.toNat e w w' := by
  have hS := St.start w
  have et := elem_turn
  have cS := Lib.hid (some_any a n c l fr now cur w hl hn)
  have hUn : (upL l fr now cur).length ≤ 1000 := by
    have := upL_len l fr now cur
    rw [hl.len] at this
    omega
  have hUi : ∀ t ∈ upL l fr now cur, TnIn t := fun t ht => hl.mem t (upL_mem ht)
  have hUg := goes_up hg fr now cur
  obtain ⟨pp, hmx⟩ : ∃ pp : Int, max page 0 = pp := ⟨_, rfl⟩
  have hpp : pp = ((page.toNat : Nat) : Int) := by rw [← hmx]; omega
  replace hpp := Lib.hid hpp
  generalize upL l fr now cur = U at *
  generalize page.toNat = p at *
  have hfin : ∀ (W5 W : World) (ai : Option Addr) (ci : Nat) (L : List Ch) (D : List Ch) (T : Int), cutTo U now p = T → St w [] D W5 → St W5 [] (Ch.row 50 28 (.slice ai (netOf (U.take (fitN U p))).length ci) (netOf (U.take (fitN U p))).length ((netOf (U.take (fitN U p))).map itRow).flatten :: L) W →
      CutR Try.prog 50 U now p (.returned (.tuple #[.slice ai (netOf (U.take (fitN U p))).length ci, .int .i64 T])) w W := by
    intro W5 W ai ci L D T hT h1 h2
    subst hT
    exact ⟨ai, ci, rfl, (h1.made h2).one 0 rfl⟩
  have hfin0 : U = [] → ∀ (W : World) (L : List Ch), St w [] L W → CutR Try.prog 50 U now p (.returned (.tuple #[.slice none 0 0, .int .i64 now])) w W := by
    rintro rfl W L h
    exact ⟨none, 0, rfl, (h.nilrow _ 28).one 0 rfl⟩
  replace hfin := Lib.hid hfin
  replace hfin0 := Lib.hid hfin0
  replace hl := Lib.hid hl
  replace hUi := Lib.hid hUi
  replace hUg := Lib.hid hUg
  replace hg := Lib.hid hg
  go_enter Try.func15, Try.ntmps15
  by_cases hU0 : U.length = 0
  · have hUe := List.length_eq_zero_iff.1 hU0
    have d0 : ((U.length : Int) == 0) = true := by rw [beq_iff_eq]; omega
    have d1 : (U.length == 0) = true := by rw [beq_iff_eq]; omega
    replace hUe := Lib.hid hUe
    clear hU0
    go_wp2_with fail
    go_step3
    go_wp2_with (first
      | (go_at_call 52; (with_reducible refine cS.out.mono ?_); rintro _ w5 ⟨ai, ci, rfl, hk9⟩; have hS1 := hS.made hk9; clear hS hk9; have hS := hS1; clear hS1)
      | ((with_reducible refine wpList_makemap_st (k := 3) hS rfl rfl Try.underlying81 ?_); intro gm w1 hS1; clear hS; have hS := hS1; clear hS1))
    rw [Exit.noGoto_ret]
    go_ret2
    exact hfin0.out hUe.out _ _ hS
  · have d0 : ((U.length : Int) == 0) = false := by rw [beq_eq_false_iff_ne]; omega
    have d1 : (U.length == 0) = false := by rw [beq_eq_false_iff_ne]; omega
    have hU1 : 0 < U.length := by omega
    clear hU0
    go_wp2_with fail
    go_step3
    go_wp2_with (first
      | (go_at_call 52; (with_reducible refine cS.out.mono ?_); rintro _ w5 ⟨ai, ci, rfl, hk9⟩; have hS1 := hS.made hk9; clear hS hk9; have hS5 := Lib.hid hS1; have hLU := Lib.hid (hS1.lst (In := TnIn) 0 rfl rfl hUi.out); clear hS1; have hS := St.start w5)
      | ((with_reducible refine wpList_makemap_st (k := 3) hS rfl rfl Try.underlying81 ?_); intro gm w1 hS1; clear hS; have hS := hS1; clear hS1))
    go_step3
    go_wp2_with fail
    have hlens := Lib.hid (tn_lens hLU.out)
    obtain ⟨b, off, rfl⟩ := hLU.out.base (k := 31) (by decide) hlens.out hU1
    have cN := Lib.hid fun (k : Nat) (hk : k ≤ U.length) (W : World) (hb : Below w5.heap.size w5 W) => tnet_any (some ⟨b, off, none⟩) k ci (U.take k) W ((hLU.out.takeL k hk).below hb) (by omega)
    have hUc : U.length ≤ ci := hLU.out.le
    clear cS d0 d1
    rw [← firstOldM_nil] at hS
    go_loopg [14, 15, 35] U.length (fun gk vm vf vx wr => ∃ j : Nat, j + gk = U.length ∧ vx = .int .i64 j ∧ vm = .int .i64 ((netOf (U.take j)).length : Int) ∧ vf = .int .i64 ((fitTo U p j : Int) - 1) ∧ St w5 [] [Ch.map Try.prog 3 gm j (firstOldM (U.take j))] wr)
    case atStart => exact ⟨0, Nat.zero_add _, rfl, rfl, rfl, hS⟩
    case round =>
      clear hS
      obtain ⟨j, hj, rfl, rfl, rfl, hS⟩ := hrel
      by_cases hlt : j < U.length
      · have hrow := Lib.hid (hLU.out.rowb hlens.out j hlt)
        have hrl := hlens.out _ (List.getElem_mem hlt)
        have hone := tnRow_one U[j]
        have hin := hUi.out _ (List.getElem_mem hlt)
        have hwf := wf_of_i64 hin.id
        have hn2 : j < maxLen := by unfold maxLen; omega
        have htk : U.take (j + 1) = U.take j ++ [U[j]] := List.take_succ_eq_append_getElem hlt
        have hms := many_snoc (U.take j) U[j] (goes_next hUg.out hlt)
        rw [← htk] at hms
        have hmy := (may_old (goes_may _ _ hUg.out _ (List.getElem_mem hlt))).2.1
        have hlk : ∀ o : Option Tn, firstOf (U.take j) U[j].id = o → firstOldM (U.take j) U[j].id = o.map fun t => .int .i64 t.old := fun o ho => by unfold firstOldM; rw [ho]
        have hnew := firstOldM_new (U.take j) U[j]
        have hold := firstOldM_old (U.take j) U[j]
        rw [← htk] at hnew hold
        have hMj : (netOf (U.take j)).length ≤ j := by
          have := net_length (U.take j)
          rw [List.length_take] at this
          omega
        have hfs := fitTo_step (all := U) (p := p) (j := j)
        have hfq := fitTo_stay (all := U) (p := p) (j := j)
        have hwas : wasOf (U.take j) U[j] = ((firstOf (U.take j) U[j].id).map Tn.old).getD U[j].old := rfl
        rw [hwas] at hms
        generalize hM1 : (netOf (U.take (j + 1))).length = M1 at *
        generalize hF1 : fitTo U p (j + 1) = F1 at *
        generalize (netOf (U.take j)).length = M at *
        generalize fitTo U p j = F at *
        replace hM1 := Lib.hid hM1
        replace hF1 := Lib.hid hF1
        have hcells : tnRow U[j] = .int .i64 U[j].seq :: .int .i64 U[j].id :: .int .i64 U[j].old :: .int .i64 U[j].new :: cdRow U[j].c := rfl
        rw [hcells] at hrow hrl hone
        clear hcells hwas hin htk
        obtain ⟨fb, dp, hF2⟩ : ∃ fb : Bool, decide (pp < (M1 : Int)) = fb ∧ (F1 : Int) - 1 = if fb = true then (F : Int) - 1 else (j : Int) := by
          refine ⟨_, rfl, ?_⟩
          have hpe := hpp.out
          by_cases h : M1 ≤ p
          · rw [decide_eq_false (by omega), if_neg (by decide), hfs h]
            omega
          · rw [decide_eq_true (by omega), if_pos rfl, hfq h]
        clear hfs hfq
        replace hF2 := Lib.hid hF2
        cases hk : firstOf (U.take j) U[j].id with
        | none =>
          have he := hlk _ hk
          have hfo := Lib.hid (hnew hk)
          rw [hk] at hms
          simp only [Option.map_none, Option.getD_none] at hms
          clear hlk hk hnew hold
          generalize firstOldM (U.take j) = M0 at *
          generalize U[j] = t at *
          obtain ⟨seq, id, old, new, cc⟩ := t
          dsimp only at *
          generalize cdRow cc = R at *
          have e1 : (old != old) = false := by simp
          have e2 : (new != old) = true := by simpa using fun h => hmy h.symm
          have hw1 : IntKind.i64.wrap ((M : Int) + 1) = (M1 : Int) := by
            rw [IntWalk.i64_in _ (by omega), hms, if_neg (by simp), if_pos (fun h => hmy h.symm)]
            omega
          clear hms hmy
          go_wp2_with (first
            | (with_reducible refine wpList_rangerow (t := 52) (n := 31) (range_old hS hrow.out) rfl rfl rfl (by kernel_rfl) (by kernel_rfl) hrl ?_)
            | ((with_reducible refine wpList_alloc_st (L := [_]) hS rfl rfl et ?_); intro gT w1 hS1; clear hS; have hS := hS1; clear hS1)
            | ((with_reducible refine wpList_storerow_st (n := 31) (vs := .int .i64 seq :: .int .i64 id :: .int .i64 old :: .int .i64 new :: R) 0 hS rfl rfl rfl rfl (by kernel_rfl) rfl hrl hone (by kernel_rfl) ?_); intro w1 hS1; clear hS; have hS := hS1; clear hS1; try simp only [List.set_cons_zero, List.set_cons_succ, List.setIfInBounds_toArray, List.take_succ_cons, List.take_zero, List.drop_succ_cons, List.drop_zero, List.nil_append, List.cons_append, List.append_nil, List.drop_nil, List.take_nil, List.length_cons, List.length_nil, Nat.zero_add, Nat.add_zero, Nat.reduceAdd] at hS)
            | ((with_reducible refine wpList_lookok_st (k := 3) 1 hS rfl rfl rfl rfl rfl Try.underlying3 Try.underlying81 zero_int hwf ?_); rw [he]; simp only [Option.map_none, Option.map_some, Option.getD_none, Option.getD_some, Option.isSome_none, Option.isSome_some])
            | (with_reducible refine wpList_box_st hS rfl rfl rfl ?_; intro g1 w1 hS1; clear hS; replace hS := hS1; clear hS1) | (with_reducible refine wpList_box1_st hS rfl rfl rfl ?_; intro g1 w1 hS1; clear hS; replace hS := hS1; clear hS1) | (with_reducible refine wpList_alloc_st hS rfl rfl (by assumption) ?_; intro g1 w1 hS1; clear hS; replace hS := hS1; clear hS1) | (with_reducible refine wpList_alloc1_st hS rfl rfl (by assumption) rfl ?_; intro g1 w1 hS1; clear hS; replace hS := hS1; clear hS1) | ((with_reducible refine wpList_load_st 0 hS rfl rfl rfl rfl ?_ rfl ?_); focus (simp [scalarB, go_sem]; done)) | ((with_reducible refine wpList_loadall_st 0 hS rfl rfl rfl rfl ?_ (by kernel_rfl) ?_); focus (simp [rowB, go_sem]; done)) | ((with_reducible refine wpList_store_st 0 hS rfl rfl rfl rfl (by kernel_rfl) rfl rfl ?_); intro w1 hS1; clear hS; replace hS := hS1; clear hS1; try simp only [List.set_cons_zero, List.set_cons_succ, List.setIfInBounds_toArray, List.take_succ_cons, List.take_zero, List.drop_succ_cons, List.drop_zero, List.nil_append, List.cons_append, List.append_nil, List.drop_nil, List.take_nil, List.length_cons, List.length_nil, Nat.zero_add, Nat.add_zero, Nat.reduceAdd] at hS) | ((with_reducible refine wpList_storerow_st 0 hS rfl rfl rfl rfl (by kernel_rfl) rfl rfl rfl rfl ?_); intro w1 hS1; clear hS; replace hS := hS1; clear hS1; try simp only [List.set_cons_zero, List.set_cons_succ, List.setIfInBounds_toArray, List.take_succ_cons, List.take_zero, List.drop_succ_cons, List.drop_zero, List.nil_append, List.cons_append, List.append_nil, List.drop_nil, List.take_nil, List.length_cons, List.length_nil, Nat.zero_add, Nat.add_zero, Nat.reduceAdd] at hS))
          refine mixs_beginC 0 (by kernel_rfl) hS rfl ?_
          clear hS
          intro w2 hS hC
          have kC := hC.kblk 0 rfl
          refine mixs_take 0 (v := ?_) rfl (by kernel_rfl) (fun _ _ _ h => h) (by kernel_rfl) (by assumption) (fun s => ?hy) ?_; case hy => (go_simp <;> with_reducible rfl)
          try simp only [List.getElem_toArray, List.getElem_cons_succ, List.getElem_cons_zero, Act.put, List.setIfInBounds_toArray, List.set_cons_zero, List.set_cons_succ]
          refine mixs_take 1 (v := ?_) rfl (by kernel_rfl) (fun _ _ _ h => h) (by kernel_rfl) (by assumption) (fun s => ?hy) ?_; case hy => (go_simp <;> with_reducible rfl)
          try simp only [List.getElem_toArray, List.getElem_cons_succ, List.getElem_cons_zero, Act.put, List.setIfInBounds_toArray, List.set_cons_zero, List.set_cons_succ]
          refine mixs_take 2 (v := ?_) rfl (by kernel_rfl) (fun _ _ _ h => h) (by kernel_rfl) (by assumption) (fun s => ?hy) ?_; case hy => (go_simp <;> with_reducible rfl)
          try simp only [List.getElem_toArray, List.getElem_cons_succ, List.getElem_cons_zero, Act.put, List.setIfInBounds_toArray, List.set_cons_zero, List.set_cons_succ]
          refine mixs_take 3 (v := ?_) rfl (by kernel_rfl) (fun _ _ _ h => h) (by kernel_rfl) (by assumption) (fun s => ?hy) ?_; case hy => (go_simp <;> with_reducible rfl)
          try simp only [List.getElem_toArray, List.getElem_cons_succ, List.getElem_cons_zero, Act.put, List.setIfInBounds_toArray, List.set_cons_zero, List.set_cons_succ]
          refine mixs_take 4 (v := ?_) rfl (by kernel_rfl) (fun _ _ _ h => h) (by kernel_rfl) (by assumption) (fun s => ?hy) ?_; case hy => (go_simp <;> with_reducible rfl)
          try simp only [List.getElem_toArray, List.getElem_cons_succ, List.getElem_cons_zero, Act.put, List.setIfInBounds_toArray, List.set_cons_zero, List.set_cons_succ]
          refine mixs_take 5 (v := ?_) rfl (by kernel_rfl) (fun _ _ _ h => h) (by kernel_rfl) (by assumption) (fun s => ?hy) ?_; case hy => (go_simp <;> with_reducible rfl)
          try simp only [List.getElem_toArray, List.getElem_cons_succ, List.getElem_cons_zero, Act.put, List.setIfInBounds_toArray, List.set_cons_zero, List.set_cons_succ]
          refine mixs_take 6 (v := ?_) rfl (by kernel_rfl) (fun _ _ _ h => h) (by kernel_rfl) (by assumption) (fun s => ?hy) ?_; case hy => (go_simp <;> with_reducible rfl)
          try simp only [List.getElem_toArray, List.getElem_cons_succ, List.getElem_cons_zero, Act.put, List.setIfInBounds_toArray, List.set_cons_zero, List.set_cons_succ]
          refine mixs_one 7 (by kernel_rfl) rfl (fun K hK => ?_)
          (refine op_mapput_st (u := .int .i64 old) (by kernel_rfl) 1 hS rfl rfl rfl rfl rfl Try.underlying3 Try.underlying81 hn2 hwf ?_; intro w5 hS1; clear hS; have hS := hS1; clear hS1; simp only [List.set_cons_zero, List.set_cons_succ] at hS)
          try clear hC
          refine hK.out _ _ _ (fun _ h => h) (by first | exact hS | exact hS.drop | exact hS.drop.drop | exact hS.drop.drop.drop | exact hS.drop.drop.drop.drop | exact hS.empty | exact hS.one 0 rfl | exact hS.one 1 rfl | exact hS.one 2 rfl | exact hS.one 3 rfl | exact hS.one 4 rfl | exact hS.one 5 rfl | exact hS.one 6 rfl | exact hS.one 7 rfl | exact hS.one 8 rfl | exact hS.one 9 rfl | exact hS.one 10 rfl | exact hS.one 11 rfl) (fun hC => ?_)
          clear hK K
          try simp only [List.getElem_toArray, List.getElem_cons_succ, List.getElem_cons_zero, Act.put, List.setIfInBounds_toArray, List.set_cons_zero, List.set_cons_succ]
          refine mixs_take 8 (v := ?_) rfl (by kernel_rfl) (fun _ _ _ h => h) (by kernel_rfl) (by assumption) (fun s => ?hy) ?_; case hy => (go_simp <;> with_reducible rfl)
          try simp only [List.getElem_toArray, List.getElem_cons_succ, List.getElem_cons_zero, Act.put, List.setIfInBounds_toArray, List.set_cons_zero, List.set_cons_succ]
          refine wpAnyH_done (by kernel_rfl) ?_ _
          try clear hC kC
          cases fb
          ·
            go_wp2_with (first | (with_reducible refine wpList_box_st hS rfl rfl rfl ?_; intro g1 w1 hS1; clear hS; replace hS := hS1; clear hS1) | (with_reducible refine wpList_box1_st hS rfl rfl rfl ?_; intro g1 w1 hS1; clear hS; replace hS := hS1; clear hS1) | (with_reducible refine wpList_alloc_st hS rfl rfl (by assumption) ?_; intro g1 w1 hS1; clear hS; replace hS := hS1; clear hS1) | (with_reducible refine wpList_alloc1_st hS rfl rfl (by assumption) rfl ?_; intro g1 w1 hS1; clear hS; replace hS := hS1; clear hS1) | ((with_reducible refine wpList_load_st 0 hS rfl rfl rfl rfl ?_ rfl ?_); focus (simp [scalarB, go_sem]; done)) | ((with_reducible refine wpList_loadall_st 0 hS rfl rfl rfl rfl ?_ (by kernel_rfl) ?_); focus (simp [rowB, go_sem]; done)) | ((with_reducible refine wpList_store_st 0 hS rfl rfl rfl rfl (by kernel_rfl) rfl rfl ?_); intro w1 hS1; clear hS; replace hS := hS1; clear hS1; try simp only [List.set_cons_zero, List.set_cons_succ, List.setIfInBounds_toArray, List.take_succ_cons, List.take_zero, List.drop_succ_cons, List.drop_zero, List.nil_append, List.cons_append, List.append_nil, List.drop_nil, List.take_nil, List.length_cons, List.length_nil, Nat.zero_add, Nat.add_zero, Nat.reduceAdd] at hS) | ((with_reducible refine wpList_storerow_st 0 hS rfl rfl rfl rfl (by kernel_rfl) rfl rfl rfl rfl ?_); intro w1 hS1; clear hS; replace hS := hS1; clear hS1; try simp only [List.set_cons_zero, List.set_cons_succ, List.setIfInBounds_toArray, List.take_succ_cons, List.take_zero, List.drop_succ_cons, List.drop_zero, List.nil_append, List.cons_append, List.append_nil, List.drop_nil, List.take_nil, List.length_cons, List.length_nil, Nat.zero_add, Nat.add_zero, Nat.reduceAdd] at hS))
            go_roundg (U.length - (j + 1))
            case measure => omega
            case rel => exact ⟨j + 1, by omega, by go_num, by rw [hM1.out], by rw [hF1.out, hF2.out]; rfl, by rw [← hfo.out]; exact hS.drop⟩
          ·
            go_wp2_with (first | (with_reducible refine wpList_box_st hS rfl rfl rfl ?_; intro g1 w1 hS1; clear hS; replace hS := hS1; clear hS1) | (with_reducible refine wpList_box1_st hS rfl rfl rfl ?_; intro g1 w1 hS1; clear hS; replace hS := hS1; clear hS1) | (with_reducible refine wpList_alloc_st hS rfl rfl (by assumption) ?_; intro g1 w1 hS1; clear hS; replace hS := hS1; clear hS1) | (with_reducible refine wpList_alloc1_st hS rfl rfl (by assumption) rfl ?_; intro g1 w1 hS1; clear hS; replace hS := hS1; clear hS1) | ((with_reducible refine wpList_load_st 0 hS rfl rfl rfl rfl ?_ rfl ?_); focus (simp [scalarB, go_sem]; done)) | ((with_reducible refine wpList_loadall_st 0 hS rfl rfl rfl rfl ?_ (by kernel_rfl) ?_); focus (simp [rowB, go_sem]; done)) | ((with_reducible refine wpList_store_st 0 hS rfl rfl rfl rfl (by kernel_rfl) rfl rfl ?_); intro w1 hS1; clear hS; replace hS := hS1; clear hS1; try simp only [List.set_cons_zero, List.set_cons_succ, List.setIfInBounds_toArray, List.take_succ_cons, List.take_zero, List.drop_succ_cons, List.drop_zero, List.nil_append, List.cons_append, List.append_nil, List.drop_nil, List.take_nil, List.length_cons, List.length_nil, Nat.zero_add, Nat.add_zero, Nat.reduceAdd] at hS) | ((with_reducible refine wpList_storerow_st 0 hS rfl rfl rfl rfl (by kernel_rfl) rfl rfl rfl rfl ?_); intro w1 hS1; clear hS; replace hS := hS1; clear hS1; try simp only [List.set_cons_zero, List.set_cons_succ, List.setIfInBounds_toArray, List.take_succ_cons, List.take_zero, List.drop_succ_cons, List.drop_zero, List.nil_append, List.cons_append, List.append_nil, List.drop_nil, List.take_nil, List.length_cons, List.length_nil, Nat.zero_add, Nat.add_zero, Nat.reduceAdd] at hS))
            go_roundg (U.length - (j + 1))
            case measure => omega
            case rel => exact ⟨j + 1, by omega, by go_num, by rw [hM1.out], by rw [hF1.out, hF2.out]; rfl, by rw [← hfo.out]; exact hS.drop⟩
        | some u =>
          have he := hlk _ hk
          have hfo := Lib.hid (hold u hk)
          rw [hk] at hms
          simp only [Option.map_some, Option.getD_some] at hms he
          clear hlk hk hnew hold hn2
          generalize firstOldM (U.take j) = M0 at *
          generalize U[j] = t at *
          obtain ⟨seq, id, old, new, cc⟩ := t
          obtain ⟨useq, uid, was, unew, ucc⟩ := u
          dsimp only at *
          generalize cdRow cc = R at *
          by_cases k1 : old = was
          · have e1 : (old != was) = false := by simpa using k1
            rw [if_neg (by simpa using k1)] at hms
            by_cases k2 : new = was
            · exact absurd (k1.trans k2.symm) hmy
            · have e2 : (new != was) = true := by simpa using k2
              rw [if_pos k2] at hms
              have hw1 : IntKind.i64.wrap ((M : Int) + 1) = (M1 : Int) := by rw [IntWalk.i64_in _ (by omega)]; omega
              clear hms hmy k1 k2
              cases fb
              ·
                go_wp2_with (first
                  | (with_reducible refine wpList_rangerow (t := 52) (n := 31) (range_old hS hrow.out) rfl rfl rfl (by kernel_rfl) (by kernel_rfl) hrl ?_)
                  | ((with_reducible refine wpList_alloc_st (L := [_]) hS rfl rfl et ?_); intro gT w1 hS1; clear hS; have hS := hS1; clear hS1)
                  | ((with_reducible refine wpList_storerow_st (n := 31) (vs := .int .i64 seq :: .int .i64 id :: .int .i64 old :: .int .i64 new :: R) 0 hS rfl rfl rfl rfl (by kernel_rfl) rfl hrl hone (by kernel_rfl) ?_); intro w1 hS1; clear hS; have hS := hS1; clear hS1; try simp only [List.set_cons_zero, List.set_cons_succ, List.setIfInBounds_toArray, List.take_succ_cons, List.take_zero, List.drop_succ_cons, List.drop_zero, List.nil_append, List.cons_append, List.append_nil, List.drop_nil, List.take_nil, List.length_cons, List.length_nil, Nat.zero_add, Nat.add_zero, Nat.reduceAdd] at hS)
                  | ((with_reducible refine wpList_lookok_st (k := 3) 1 hS rfl rfl rfl rfl rfl Try.underlying3 Try.underlying81 zero_int hwf ?_); rw [he]; simp only [Option.map_none, Option.map_some, Option.getD_none, Option.getD_some, Option.isSome_none, Option.isSome_some])
                  | (with_reducible refine wpList_box_st hS rfl rfl rfl ?_; intro g1 w1 hS1; clear hS; replace hS := hS1; clear hS1) | (with_reducible refine wpList_box1_st hS rfl rfl rfl ?_; intro g1 w1 hS1; clear hS; replace hS := hS1; clear hS1) | (with_reducible refine wpList_alloc_st hS rfl rfl (by assumption) ?_; intro g1 w1 hS1; clear hS; replace hS := hS1; clear hS1) | (with_reducible refine wpList_alloc1_st hS rfl rfl (by assumption) rfl ?_; intro g1 w1 hS1; clear hS; replace hS := hS1; clear hS1) | ((with_reducible refine wpList_load_st 0 hS rfl rfl rfl rfl ?_ rfl ?_); focus (simp [scalarB, go_sem]; done)) | ((with_reducible refine wpList_loadall_st 0 hS rfl rfl rfl rfl ?_ (by kernel_rfl) ?_); focus (simp [rowB, go_sem]; done)) | ((with_reducible refine wpList_store_st 0 hS rfl rfl rfl rfl (by kernel_rfl) rfl rfl ?_); intro w1 hS1; clear hS; replace hS := hS1; clear hS1; try simp only [List.set_cons_zero, List.set_cons_succ, List.setIfInBounds_toArray, List.take_succ_cons, List.take_zero, List.drop_succ_cons, List.drop_zero, List.nil_append, List.cons_append, List.append_nil, List.drop_nil, List.take_nil, List.length_cons, List.length_nil, Nat.zero_add, Nat.add_zero, Nat.reduceAdd] at hS) | ((with_reducible refine wpList_storerow_st 0 hS rfl rfl rfl rfl (by kernel_rfl) rfl rfl rfl rfl ?_); intro w1 hS1; clear hS; replace hS := hS1; clear hS1; try simp only [List.set_cons_zero, List.set_cons_succ, List.setIfInBounds_toArray, List.take_succ_cons, List.take_zero, List.drop_succ_cons, List.drop_zero, List.nil_append, List.cons_append, List.append_nil, List.drop_nil, List.take_nil, List.length_cons, List.length_nil, Nat.zero_add, Nat.add_zero, Nat.reduceAdd] at hS))
                go_roundg (U.length - (j + 1))
                case measure => omega
                case rel => exact ⟨j + 1, by omega, by go_num, by rw [hM1.out], by rw [hF1.out, hF2.out]; rfl, by rw [hfo.out]; exact hS.drop.mapmono 0 rfl (Nat.le_succ j)⟩
              ·
                go_wp2_with (first
                  | (with_reducible refine wpList_rangerow (t := 52) (n := 31) (range_old hS hrow.out) rfl rfl rfl (by kernel_rfl) (by kernel_rfl) hrl ?_)
                  | ((with_reducible refine wpList_alloc_st (L := [_]) hS rfl rfl et ?_); intro gT w1 hS1; clear hS; have hS := hS1; clear hS1)
                  | ((with_reducible refine wpList_storerow_st (n := 31) (vs := .int .i64 seq :: .int .i64 id :: .int .i64 old :: .int .i64 new :: R) 0 hS rfl rfl rfl rfl (by kernel_rfl) rfl hrl hone (by kernel_rfl) ?_); intro w1 hS1; clear hS; have hS := hS1; clear hS1; try simp only [List.set_cons_zero, List.set_cons_succ, List.setIfInBounds_toArray, List.take_succ_cons, List.take_zero, List.drop_succ_cons, List.drop_zero, List.nil_append, List.cons_append, List.append_nil, List.drop_nil, List.take_nil, List.length_cons, List.length_nil, Nat.zero_add, Nat.add_zero, Nat.reduceAdd] at hS)
                  | ((with_reducible refine wpList_lookok_st (k := 3) 1 hS rfl rfl rfl rfl rfl Try.underlying3 Try.underlying81 zero_int hwf ?_); rw [he]; simp only [Option.map_none, Option.map_some, Option.getD_none, Option.getD_some, Option.isSome_none, Option.isSome_some])
                  | (with_reducible refine wpList_box_st hS rfl rfl rfl ?_; intro g1 w1 hS1; clear hS; replace hS := hS1; clear hS1) | (with_reducible refine wpList_box1_st hS rfl rfl rfl ?_; intro g1 w1 hS1; clear hS; replace hS := hS1; clear hS1) | (with_reducible refine wpList_alloc_st hS rfl rfl (by assumption) ?_; intro g1 w1 hS1; clear hS; replace hS := hS1; clear hS1) | (with_reducible refine wpList_alloc1_st hS rfl rfl (by assumption) rfl ?_; intro g1 w1 hS1; clear hS; replace hS := hS1; clear hS1) | ((with_reducible refine wpList_load_st 0 hS rfl rfl rfl rfl ?_ rfl ?_); focus (simp [scalarB, go_sem]; done)) | ((with_reducible refine wpList_loadall_st 0 hS rfl rfl rfl rfl ?_ (by kernel_rfl) ?_); focus (simp [rowB, go_sem]; done)) | ((with_reducible refine wpList_store_st 0 hS rfl rfl rfl rfl (by kernel_rfl) rfl rfl ?_); intro w1 hS1; clear hS; replace hS := hS1; clear hS1; try simp only [List.set_cons_zero, List.set_cons_succ, List.setIfInBounds_toArray, List.take_succ_cons, List.take_zero, List.drop_succ_cons, List.drop_zero, List.nil_append, List.cons_append, List.append_nil, List.drop_nil, List.take_nil, List.length_cons, List.length_nil, Nat.zero_add, Nat.add_zero, Nat.reduceAdd] at hS) | ((with_reducible refine wpList_storerow_st 0 hS rfl rfl rfl rfl (by kernel_rfl) rfl rfl rfl rfl ?_); intro w1 hS1; clear hS; replace hS := hS1; clear hS1; try simp only [List.set_cons_zero, List.set_cons_succ, List.setIfInBounds_toArray, List.take_succ_cons, List.take_zero, List.drop_succ_cons, List.drop_zero, List.nil_append, List.cons_append, List.append_nil, List.drop_nil, List.take_nil, List.length_cons, List.length_nil, Nat.zero_add, Nat.add_zero, Nat.reduceAdd] at hS))
                go_roundg (U.length - (j + 1))
                case measure => omega
                case rel => exact ⟨j + 1, by omega, by go_num, by rw [hM1.out], by rw [hF1.out, hF2.out]; rfl, by rw [hfo.out]; exact hS.drop.mapmono 0 rfl (Nat.le_succ j)⟩
          · have e1 : (old != was) = true := by simpa using k1
            rw [if_pos k1] at hms
            have hw0 : IntKind.i64.wrap ((M : Int) - 1) = (M : Int) - 1 := by rw [IntWalk.i64_in _ (by omega)]
            by_cases k2 : new = was
            · have e2 : (new != was) = false := by simpa using k2
              rw [if_neg (by simpa using k2)] at hms
              have hw1 : IntKind.i64.wrap ((M : Int) - 1) = (M1 : Int) := by rw [IntWalk.i64_in _ (by omega)]; omega
              clear hms hmy k1 k2 hw0
              cases fb
              ·
                go_wp2_with (first
                  | (with_reducible refine wpList_rangerow (t := 52) (n := 31) (range_old hS hrow.out) rfl rfl rfl (by kernel_rfl) (by kernel_rfl) hrl ?_)
                  | ((with_reducible refine wpList_alloc_st (L := [_]) hS rfl rfl et ?_); intro gT w1 hS1; clear hS; have hS := hS1; clear hS1)
                  | ((with_reducible refine wpList_storerow_st (n := 31) (vs := .int .i64 seq :: .int .i64 id :: .int .i64 old :: .int .i64 new :: R) 0 hS rfl rfl rfl rfl (by kernel_rfl) rfl hrl hone (by kernel_rfl) ?_); intro w1 hS1; clear hS; have hS := hS1; clear hS1; try simp only [List.set_cons_zero, List.set_cons_succ, List.setIfInBounds_toArray, List.take_succ_cons, List.take_zero, List.drop_succ_cons, List.drop_zero, List.nil_append, List.cons_append, List.append_nil, List.drop_nil, List.take_nil, List.length_cons, List.length_nil, Nat.zero_add, Nat.add_zero, Nat.reduceAdd] at hS)
                  | ((with_reducible refine wpList_lookok_st (k := 3) 1 hS rfl rfl rfl rfl rfl Try.underlying3 Try.underlying81 zero_int hwf ?_); rw [he]; simp only [Option.map_none, Option.map_some, Option.getD_none, Option.getD_some, Option.isSome_none, Option.isSome_some])
                  | (with_reducible refine wpList_box_st hS rfl rfl rfl ?_; intro g1 w1 hS1; clear hS; replace hS := hS1; clear hS1) | (with_reducible refine wpList_box1_st hS rfl rfl rfl ?_; intro g1 w1 hS1; clear hS; replace hS := hS1; clear hS1) | (with_reducible refine wpList_alloc_st hS rfl rfl (by assumption) ?_; intro g1 w1 hS1; clear hS; replace hS := hS1; clear hS1) | (with_reducible refine wpList_alloc1_st hS rfl rfl (by assumption) rfl ?_; intro g1 w1 hS1; clear hS; replace hS := hS1; clear hS1) | ((with_reducible refine wpList_load_st 0 hS rfl rfl rfl rfl ?_ rfl ?_); focus (simp [scalarB, go_sem]; done)) | ((with_reducible refine wpList_loadall_st 0 hS rfl rfl rfl rfl ?_ (by kernel_rfl) ?_); focus (simp [rowB, go_sem]; done)) | ((with_reducible refine wpList_store_st 0 hS rfl rfl rfl rfl (by kernel_rfl) rfl rfl ?_); intro w1 hS1; clear hS; replace hS := hS1; clear hS1; try simp only [List.set_cons_zero, List.set_cons_succ, List.setIfInBounds_toArray, List.take_succ_cons, List.take_zero, List.drop_succ_cons, List.drop_zero, List.nil_append, List.cons_append, List.append_nil, List.drop_nil, List.take_nil, List.length_cons, List.length_nil, Nat.zero_add, Nat.add_zero, Nat.reduceAdd] at hS) | ((with_reducible refine wpList_storerow_st 0 hS rfl rfl rfl rfl (by kernel_rfl) rfl rfl rfl rfl ?_); intro w1 hS1; clear hS; replace hS := hS1; clear hS1; try simp only [List.set_cons_zero, List.set_cons_succ, List.setIfInBounds_toArray, List.take_succ_cons, List.take_zero, List.drop_succ_cons, List.drop_zero, List.nil_append, List.cons_append, List.append_nil, List.drop_nil, List.take_nil, List.length_cons, List.length_nil, Nat.zero_add, Nat.add_zero, Nat.reduceAdd] at hS))
                go_roundg (U.length - (j + 1))
                case measure => omega
                case rel => exact ⟨j + 1, by omega, by go_num, by rw [hM1.out], by rw [hF1.out, hF2.out]; rfl, by rw [hfo.out]; exact hS.drop.mapmono 0 rfl (Nat.le_succ j)⟩
              ·
                go_wp2_with (first
                  | (with_reducible refine wpList_rangerow (t := 52) (n := 31) (range_old hS hrow.out) rfl rfl rfl (by kernel_rfl) (by kernel_rfl) hrl ?_)
                  | ((with_reducible refine wpList_alloc_st (L := [_]) hS rfl rfl et ?_); intro gT w1 hS1; clear hS; have hS := hS1; clear hS1)
                  | ((with_reducible refine wpList_storerow_st (n := 31) (vs := .int .i64 seq :: .int .i64 id :: .int .i64 old :: .int .i64 new :: R) 0 hS rfl rfl rfl rfl (by kernel_rfl) rfl hrl hone (by kernel_rfl) ?_); intro w1 hS1; clear hS; have hS := hS1; clear hS1; try simp only [List.set_cons_zero, List.set_cons_succ, List.setIfInBounds_toArray, List.take_succ_cons, List.take_zero, List.drop_succ_cons, List.drop_zero, List.nil_append, List.cons_append, List.append_nil, List.drop_nil, List.take_nil, List.length_cons, List.length_nil, Nat.zero_add, Nat.add_zero, Nat.reduceAdd] at hS)
                  | ((with_reducible refine wpList_lookok_st (k := 3) 1 hS rfl rfl rfl rfl rfl Try.underlying3 Try.underlying81 zero_int hwf ?_); rw [he]; simp only [Option.map_none, Option.map_some, Option.getD_none, Option.getD_some, Option.isSome_none, Option.isSome_some])
                  | (with_reducible refine wpList_box_st hS rfl rfl rfl ?_; intro g1 w1 hS1; clear hS; replace hS := hS1; clear hS1) | (with_reducible refine wpList_box1_st hS rfl rfl rfl ?_; intro g1 w1 hS1; clear hS; replace hS := hS1; clear hS1) | (with_reducible refine wpList_alloc_st hS rfl rfl (by assumption) ?_; intro g1 w1 hS1; clear hS; replace hS := hS1; clear hS1) | (with_reducible refine wpList_alloc1_st hS rfl rfl (by assumption) rfl ?_; intro g1 w1 hS1; clear hS; replace hS := hS1; clear hS1) | ((with_reducible refine wpList_load_st 0 hS rfl rfl rfl rfl ?_ rfl ?_); focus (simp [scalarB, go_sem]; done)) | ((with_reducible refine wpList_loadall_st 0 hS rfl rfl rfl rfl ?_ (by kernel_rfl) ?_); focus (simp [rowB, go_sem]; done)) | ((with_reducible refine wpList_store_st 0 hS rfl rfl rfl rfl (by kernel_rfl) rfl rfl ?_); intro w1 hS1; clear hS; replace hS := hS1; clear hS1; try simp only [List.set_cons_zero, List.set_cons_succ, List.setIfInBounds_toArray, List.take_succ_cons, List.take_zero, List.drop_succ_cons, List.drop_zero, List.nil_append, List.cons_append, List.append_nil, List.drop_nil, List.take_nil, List.length_cons, List.length_nil, Nat.zero_add, Nat.add_zero, Nat.reduceAdd] at hS) | ((with_reducible refine wpList_storerow_st 0 hS rfl rfl rfl rfl (by kernel_rfl) rfl rfl rfl rfl ?_); intro w1 hS1; clear hS; replace hS := hS1; clear hS1; try simp only [List.set_cons_zero, List.set_cons_succ, List.setIfInBounds_toArray, List.take_succ_cons, List.take_zero, List.drop_succ_cons, List.drop_zero, List.nil_append, List.cons_append, List.append_nil, List.drop_nil, List.take_nil, List.length_cons, List.length_nil, Nat.zero_add, Nat.add_zero, Nat.reduceAdd] at hS))
                go_roundg (U.length - (j + 1))
                case measure => omega
                case rel => exact ⟨j + 1, by omega, by go_num, by rw [hM1.out], by rw [hF1.out, hF2.out]; rfl, by rw [hfo.out]; exact hS.drop.mapmono 0 rfl (Nat.le_succ j)⟩
            · have e2 : (new != was) = true := by simpa using k2
              rw [if_pos k2] at hms
              have hMM : M = M1 := by omega
              subst hMM
              have hw1 : IntKind.i64.wrap ((M : Int) - 1 + 1) = (M : Int) := by rw [IntWalk.i64_in _ (by omega)]; omega
              have hw2 : IntKind.i64.wrap (M : Int) = (M : Int) := by rw [IntWalk.i64_in _ (by omega)]
              clear hms hmy k1 k2
              cases fb
              ·
                go_wp2_with (first
                  | (with_reducible refine wpList_rangerow (t := 52) (n := 31) (range_old hS hrow.out) rfl rfl rfl (by kernel_rfl) (by kernel_rfl) hrl ?_)
                  | ((with_reducible refine wpList_alloc_st (L := [_]) hS rfl rfl et ?_); intro gT w1 hS1; clear hS; have hS := hS1; clear hS1)
                  | ((with_reducible refine wpList_storerow_st (n := 31) (vs := .int .i64 seq :: .int .i64 id :: .int .i64 old :: .int .i64 new :: R) 0 hS rfl rfl rfl rfl (by kernel_rfl) rfl hrl hone (by kernel_rfl) ?_); intro w1 hS1; clear hS; have hS := hS1; clear hS1; try simp only [List.set_cons_zero, List.set_cons_succ, List.setIfInBounds_toArray, List.take_succ_cons, List.take_zero, List.drop_succ_cons, List.drop_zero, List.nil_append, List.cons_append, List.append_nil, List.drop_nil, List.take_nil, List.length_cons, List.length_nil, Nat.zero_add, Nat.add_zero, Nat.reduceAdd] at hS)
                  | ((with_reducible refine wpList_lookok_st (k := 3) 1 hS rfl rfl rfl rfl rfl Try.underlying3 Try.underlying81 zero_int hwf ?_); rw [he]; simp only [Option.map_none, Option.map_some, Option.getD_none, Option.getD_some, Option.isSome_none, Option.isSome_some])
                  | (with_reducible refine wpList_box_st hS rfl rfl rfl ?_; intro g1 w1 hS1; clear hS; replace hS := hS1; clear hS1) | (with_reducible refine wpList_box1_st hS rfl rfl rfl ?_; intro g1 w1 hS1; clear hS; replace hS := hS1; clear hS1) | (with_reducible refine wpList_alloc_st hS rfl rfl (by assumption) ?_; intro g1 w1 hS1; clear hS; replace hS := hS1; clear hS1) | (with_reducible refine wpList_alloc1_st hS rfl rfl (by assumption) rfl ?_; intro g1 w1 hS1; clear hS; replace hS := hS1; clear hS1) | ((with_reducible refine wpList_load_st 0 hS rfl rfl rfl rfl ?_ rfl ?_); focus (simp [scalarB, go_sem]; done)) | ((with_reducible refine wpList_loadall_st 0 hS rfl rfl rfl rfl ?_ (by kernel_rfl) ?_); focus (simp [rowB, go_sem]; done)) | ((with_reducible refine wpList_store_st 0 hS rfl rfl rfl rfl (by kernel_rfl) rfl rfl ?_); intro w1 hS1; clear hS; replace hS := hS1; clear hS1; try simp only [List.set_cons_zero, List.set_cons_succ, List.setIfInBounds_toArray, List.take_succ_cons, List.take_zero, List.drop_succ_cons, List.drop_zero, List.nil_append, List.cons_append, List.append_nil, List.drop_nil, List.take_nil, List.length_cons, List.length_nil, Nat.zero_add, Nat.add_zero, Nat.reduceAdd] at hS) | ((with_reducible refine wpList_storerow_st 0 hS rfl rfl rfl rfl (by kernel_rfl) rfl rfl rfl rfl ?_); intro w1 hS1; clear hS; replace hS := hS1; clear hS1; try simp only [List.set_cons_zero, List.set_cons_succ, List.setIfInBounds_toArray, List.take_succ_cons, List.take_zero, List.drop_succ_cons, List.drop_zero, List.nil_append, List.cons_append, List.append_nil, List.drop_nil, List.take_nil, List.length_cons, List.length_nil, Nat.zero_add, Nat.add_zero, Nat.reduceAdd] at hS))
                go_roundg (U.length - (j + 1))
                case measure => omega
                case rel => exact ⟨j + 1, by omega, by go_num, by rw [hM1.out], by rw [hF1.out, hF2.out]; rfl, by rw [hfo.out]; exact hS.drop.mapmono 0 rfl (Nat.le_succ j)⟩
              ·
                go_wp2_with (first
                  | (with_reducible refine wpList_rangerow (t := 52) (n := 31) (range_old hS hrow.out) rfl rfl rfl (by kernel_rfl) (by kernel_rfl) hrl ?_)
                  | ((with_reducible refine wpList_alloc_st (L := [_]) hS rfl rfl et ?_); intro gT w1 hS1; clear hS; have hS := hS1; clear hS1)
                  | ((with_reducible refine wpList_storerow_st (n := 31) (vs := .int .i64 seq :: .int .i64 id :: .int .i64 old :: .int .i64 new :: R) 0 hS rfl rfl rfl rfl (by kernel_rfl) rfl hrl hone (by kernel_rfl) ?_); intro w1 hS1; clear hS; have hS := hS1; clear hS1; try simp only [List.set_cons_zero, List.set_cons_succ, List.setIfInBounds_toArray, List.take_succ_cons, List.take_zero, List.drop_succ_cons, List.drop_zero, List.nil_append, List.cons_append, List.append_nil, List.drop_nil, List.take_nil, List.length_cons, List.length_nil, Nat.zero_add, Nat.add_zero, Nat.reduceAdd] at hS)
                  | ((with_reducible refine wpList_lookok_st (k := 3) 1 hS rfl rfl rfl rfl rfl Try.underlying3 Try.underlying81 zero_int hwf ?_); rw [he]; simp only [Option.map_none, Option.map_some, Option.getD_none, Option.getD_some, Option.isSome_none, Option.isSome_some])
                  | (with_reducible refine wpList_box_st hS rfl rfl rfl ?_; intro g1 w1 hS1; clear hS; replace hS := hS1; clear hS1) | (with_reducible refine wpList_box1_st hS rfl rfl rfl ?_; intro g1 w1 hS1; clear hS; replace hS := hS1; clear hS1) | (with_reducible refine wpList_alloc_st hS rfl rfl (by assumption) ?_; intro g1 w1 hS1; clear hS; replace hS := hS1; clear hS1) | (with_reducible refine wpList_alloc1_st hS rfl rfl (by assumption) rfl ?_; intro g1 w1 hS1; clear hS; replace hS := hS1; clear hS1) | ((with_reducible refine wpList_load_st 0 hS rfl rfl rfl rfl ?_ rfl ?_); focus (simp [scalarB, go_sem]; done)) | ((with_reducible refine wpList_loadall_st 0 hS rfl rfl rfl rfl ?_ (by kernel_rfl) ?_); focus (simp [rowB, go_sem]; done)) | ((with_reducible refine wpList_store_st 0 hS rfl rfl rfl rfl (by kernel_rfl) rfl rfl ?_); intro w1 hS1; clear hS; replace hS := hS1; clear hS1; try simp only [List.set_cons_zero, List.set_cons_succ, List.setIfInBounds_toArray, List.take_succ_cons, List.take_zero, List.drop_succ_cons, List.drop_zero, List.nil_append, List.cons_append, List.append_nil, List.drop_nil, List.take_nil, List.length_cons, List.length_nil, Nat.zero_add, Nat.add_zero, Nat.reduceAdd] at hS) | ((with_reducible refine wpList_storerow_st 0 hS rfl rfl rfl rfl (by kernel_rfl) rfl rfl rfl rfl ?_); intro w1 hS1; clear hS; replace hS := hS1; clear hS1; try simp only [List.set_cons_zero, List.set_cons_succ, List.setIfInBounds_toArray, List.take_succ_cons, List.take_zero, List.drop_succ_cons, List.drop_zero, List.nil_append, List.cons_append, List.append_nil, List.drop_nil, List.take_nil, List.length_cons, List.length_nil, Nat.zero_add, Nat.add_zero, Nat.reduceAdd] at hS))
                go_roundg (U.length - (j + 1))
                case measure => omega
                case rel => exact ⟨j + 1, by omega, by go_num, by rw [hM1.out], by rw [hF1.out, hF2.out]; rfl, by rw [hfo.out]; exact hS.drop.mapmono 0 rfl (Nat.le_succ j)⟩
      · obtain rfl : j = U.length := by omega
        have hFe : fitTo U p U.length = fitN U p := rfl
        rw [hFe]
        have hFl := fitN_le U p
        have cNF := Lib.hid (cN.out (fitN U p) hFl)
        have hct : cutTo U now p = match U[fitN U p]? with
          | some t => t.seq - 1
          | none => now := rfl
        have hseq : ∀ (h : fitN U p < U.length), -1 ≤ U[fitN U p].seq ∧ U[fitN U p].seq ≤ 1099511627776 ∧ w5.cell? ⟨b, off + fitN U p * 31, none⟩ = some (.int .i64 U[fitN U p].seq) ∧ cutTo U now p = U[fitN U p].seq - 1 := fun h => by
          have hm := may_old (goes_may _ _ hUg.out _ (List.getElem_mem h))
          refine ⟨by omega, hm.2.2.2.2.2.1, by simpa using hLU.out.rowb hlens.out _ h 0 _ rfl, ?_⟩
          rw [hct, List.getElem?_eq_getElem h]
        have hnow : fitN U p = U.length → cutTo U now p = now := fun h => by
          rw [hct, List.getElem?_eq_none (by omega)]
        have hfn := hfin.out w5
        clear hct hFe
        generalize fitN U p = F at *
        generalize netOf (U.take F) = N at *
        generalize cutTo U now p = T at *
        have hw1 : IntKind.i64.wrap ((F : Int) - 1 + 1) = (F : Int) := by rw [IntWalk.i64_in _ (by omega)]; omega
        have hw2 : IntKind.i64.wrap (F : Int) = (F : Int) := by rw [IntWalk.i64_in _ (by omega)]
        have hw3 : IntKind.i64.wrap ((U.length : Int) - 1) = (U.length : Int) - 1 := by rw [IntWalk.i64_in _ (by omega)]
        have hFc : F ≤ ci := by omega
        replace hfn := Lib.hid hfn
        by_cases hFU : F = U.length
        · have hT := hnow hFU
          have d1 : ((F : Int) - 1 == (U.length : Int) - 1) = true := by rw [beq_iff_eq]; omega
          replace hT := Lib.hid hT
          replace hFU := Lib.hid hFU
          clear hseq hnow
          go_wp2_with (go_at_call 26; (with_reducible refine (cNF.out _ hS.below).mono ?_); rintro _ w6 ⟨aj, cj, rfl, hk9⟩; have hS1 := hS.made hk9; clear hS hk9; have hS := hS1; clear hS1)
          try rw [Exit.noGoto_ret]
          go_ret2
          exact hfn.out _ _ _ _ _ _ hT.out hS5.out hS
        · have hFl2 : F < U.length := by omega
          obtain ⟨q1, q2, z0, hT⟩ := hseq hFl2
          have d1 : ((F : Int) - 1 == (U.length : Int) - 1) = false := by rw [beq_eq_false_iff_ne]; omega
          replace hT := Lib.hid hT
          clear hseq hnow hFU
          generalize U[F].seq = sq at *
          have hw4 : IntKind.i64.wrap (sq - 1) = sq - 1 := by rw [IntWalk.i64_in _ (by omega)]
          go_wp2_with (go_at_call 26; (with_reducible refine (cNF.out _ hS.below).mono ?_); rintro _ w6 ⟨aj, cj, rfl, hk9⟩; have hS1 := hS.made hk9; clear hS hk9; have hS := hS1; clear hS1)
          have k0 := hS.kold0 z0
          refine mixs_begin (by kernel_rfl) hS ?_
          clear hS
          intro w7 hS
          refine mixs_take 0 (v := ?_) rfl (by kernel_rfl) (fun _ _ _ h => h) (by kernel_rfl) (by assumption) (fun s => ?hy) ?_; case hy => (go_simp <;> with_reducible rfl)
          try simp only [List.getElem_toArray, List.getElem_cons_succ, List.getElem_cons_zero, Act.put, List.setIfInBounds_toArray, List.set_cons_zero, List.set_cons_succ]
          refine mixs_take 1 (v := ?_) rfl (by kernel_rfl) (fun _ _ _ h => h) (by kernel_rfl) (by assumption) (fun s => ?hy) ?_; case hy => (go_simp <;> with_reducible rfl)
          try simp only [List.getElem_toArray, List.getElem_cons_succ, List.getElem_cons_zero, Act.put, List.setIfInBounds_toArray, List.set_cons_zero, List.set_cons_succ]
          refine mixs_take 2 (v := ?_) rfl (by kernel_rfl) (fun _ _ _ h => h) (by kernel_rfl) (by assumption) (fun s => ?hy) ?_; case hy => (go_simp <;> with_reducible rfl)
          try simp only [List.getElem_toArray, List.getElem_cons_succ, List.getElem_cons_zero, Act.put, List.setIfInBounds_toArray, List.set_cons_zero, List.set_cons_succ]
          refine mixs_take 3 (v := ?_) rfl (by kernel_rfl) (fun _ _ _ h => h) (by kernel_rfl) (by assumption) (fun s => ?hy) ?_; case hy => (go_simp <;> with_reducible rfl)
          try simp only [List.getElem_toArray, List.getElem_cons_succ, List.getElem_cons_zero, Act.put, List.setIfInBounds_toArray, List.set_cons_zero, List.set_cons_succ]
          refine mixs_take 4 (v := ?_) rfl (by kernel_rfl) (fun _ _ _ h => h) (by kernel_rfl) (by assumption) (fun s => ?hy) ?_; case hy => (go_simp <;> with_reducible rfl)
          try simp only [List.getElem_toArray, List.getElem_cons_succ, List.getElem_cons_zero, Act.put, List.setIfInBounds_toArray, List.set_cons_zero, List.set_cons_succ]
          refine mixs_take 5 (v := ?_) rfl (by kernel_rfl) (fun _ _ _ h => h) (by kernel_rfl) (by assumption) (fun s => ?hy) ?_; case hy => (go_simp <;> with_reducible rfl)
          try simp only [List.getElem_toArray, List.getElem_cons_succ, List.getElem_cons_zero, Act.put, List.setIfInBounds_toArray, List.set_cons_zero, List.set_cons_succ]
          refine mixs_take 6 (v := ?_) rfl (by kernel_rfl) (fun _ _ _ h => h) (by kernel_rfl) (by assumption) (fun s => ?hy) ?_; case hy => (go_simp <;> with_reducible rfl)
          try simp only [List.getElem_toArray, List.getElem_cons_succ, List.getElem_cons_zero, Act.put, List.setIfInBounds_toArray, List.set_cons_zero, List.set_cons_succ]
          refine mixs_take 7 (v := ?_) rfl (by kernel_rfl) (fun _ _ _ h => h) (by kernel_rfl) (by assumption) (fun s => ?hy) ?_; case hy => (go_simp <;> with_reducible rfl)
          try simp only [List.getElem_toArray, List.getElem_cons_succ, List.getElem_cons_zero, Act.put, List.setIfInBounds_toArray, List.set_cons_zero, List.set_cons_succ]
          refine mixs_take 8 (v := ?_) rfl (by kernel_rfl) (fun _ _ _ h => h) (by kernel_rfl) (by assumption) (fun s => ?hy) ?_; case hy => (go_simp <;> with_reducible rfl)
          try simp only [List.getElem_toArray, List.getElem_cons_succ, List.getElem_cons_zero, Act.put, List.setIfInBounds_toArray, List.set_cons_zero, List.set_cons_succ]
          refine mixs_take 9 (v := ?_) rfl (by kernel_rfl) (fun _ _ _ h => h) (by kernel_rfl) (by assumption) (fun s => ?hy) ?_; case hy => (go_simp <;> with_reducible rfl)
          try simp only [List.getElem_toArray, List.getElem_cons_succ, List.getElem_cons_zero, Act.put, List.setIfInBounds_toArray, List.set_cons_zero, List.set_cons_succ]
          refine wpAnyH_done (by kernel_rfl) ?_ _
          go_wp2_with fail
          try rw [Exit.noGoto_ret]
          go_ret2
          exact hfn.out _ _ _ _ _ _ hT.out hS5.out hS
end Go.Proofs.Ytajldelodnjmoaa
end

section
/- As many turns as fit into a page: the document's. -/
set_option linter.unusedSimpArgs false
set_option linter.unusedVariables false
namespace Go.Ofp
open Go.RowKit
theorem goes_take {ok : Cd → Bool} {l : List Tn} (h : goes ok [] l = true) (k : Nat) : goes ok [] (l.take k) = true := by
  have e : goes ok [] (l.take k ++ l.drop k) = true := by rw [List.take_append_drop]; exact h
  exact (goes_cut e).1
end Go.Ofp
namespace Go.Proofs.Ytajldelodnjmoaa
open Go.RowKit Go.Ofp
set_option linter.unusedVariables false
set_option maxRecDepth 100000
set_option maxHeartbeats 4000000

/-- The document's net of turns that go on. -/
theorem rnetg_any (a : Option Addr) (n c : Nat) (l : List Tn) (w : World) (hl : Lst tnRow TnIn w a n c l) (hg : goes Cd.ok [] l = true) (hn : n ≤ 999) :
    Calls Try.prog 17 #[.slice a n c] w fun e w' => ∃ a' c', e = .returned (.slice a' (netOf l).length c') ∧ St w [] [Ch.row 50 28 (.slice a' (netOf l).length c') (netOf l).length ((netOf l).map itRow).flatten] w' := by
  have h := rnet_any a n c l w hl hn
  have e := refNet_eq (named_of_may (goes_may _ _ hg))
  rw [hl.len] at e
  rw [e] at h
  exact h.mono fun _ _ ⟨g, c', h1, h2⟩ => ⟨_, c', h1, h2⟩

end Go.Proofs.Ytajldelodnjmoaa
end
