/- The law PieceBack: the walk of it. -/
import Derived.Test.YtcpkmgmdhjhfaaaRGet
import Derived.Test.YtcpkmgmdhjhfaaaPiece4
import Derived.Test.YtcpkmgmdhjhfaaaAwake36
import Derived.Test.YtcpkmgmdhjhfaaaSt3
set_option linter.unusedSimpArgs false
set_option linter.unusedVariables false
namespace Go.Proofs.Ytcpkmgmdhjhfaaa
open Go.RowKit Go.Ofp
set_option linter.unusedVariables false
set_option maxRecDepth 100000
set_option maxHeartbeats 4000000

theorem rows_take (ps : List Pc) (k : Nat) : ((ps.take k).map Pc.row).flatten = ((ps.map Pc.row).flatten).take (k * 5) := by
  induction ps generalizing k with
  | nil => simp
  | cons p ps ih =>
    cases k with
    | zero => simp
    | succ k =>
      rw [List.take_succ_cons, List.map_cons, List.flatten_cons, List.map_cons, List.flatten_cons, ih, List.take_append, Pc.row_length, List.take_of_length_le (l := p.row) (by rw [Pc.row_length]; omega), show (k + 1) * 5 - 5 = k * 5 by omega]

theorem rows_drop (ps : List Pc) (k : Nat) : ((ps.drop k).map Pc.row).flatten = ((ps.map Pc.row).flatten).drop (k * 5) := by
  induction ps generalizing k with
  | nil => simp
  | cons p ps ih =>
    cases k with
    | zero => simp
    | succ k =>
      rw [List.drop_succ_cons, List.map_cons, List.flatten_cons, ih, List.drop_append, Pc.row_length, List.drop_of_length_le (l := p.row) (by rw [Pc.row_length]; omega), List.nil_append, show (k + 1) * 5 - 5 = k * 5 by omega]

theorem rows_set (ps : List Pc) (j : Nat) (q : Pc) (h : j < ps.length) : ((ps.map Pc.row).flatten).take (j * 5) ++ q.row ++ ((ps.map Pc.row).flatten).drop (j * 5 + 5) = ((ps.set j q).map Pc.row).flatten := by
  rw [← rows_take, show j * 5 + 5 = (j + 1) * 5 by omega, ← rows_drop, List.set_eq_take_append_cons_drop, if_pos h]
  simp

theorem rows_at (ps : List Pc) (j : Nat) (q : Pc) (h : ps[j]? = some q) : (((ps.map Pc.row).flatten).drop (j * 5)).take 5 = q.row := by
  rw [← rows_drop]
  obtain ⟨hl, rfl⟩ := List.getElem?_eq_some_iff.1 h
  rw [List.drop_eq_getElem_cons hl, List.map_cons, List.flatten_cons, List.take_left' (Pc.row_length _)]

theorem cut_ok {q0 q1 : Int} {rec : ByteArray} (h : cutOk q0 q1 (manyB rec.size) = true) (hb : ∀ i, i < manyB rec.size → True) (j : Nat) (p : Pc) (hp : (cutB q0 q1 rec)[j]? = some p) : p.ok = true := by
  rw [cutB_get h] at hp
  split at hp
  · rename_i hj
    cases hp
    have := join_cut_at h ⟨q0, q1, false, false, ⟨#[]⟩⟩ rfl rfl j hj
    exact ((joinAt_iff _ _ _ _).1 this).1
  · cases hp

theorem pback_main (q0 q1 k0 k1 : Nat) (rec : ByteArray) (w : World) (h0 : 0 < q0) (h0' : q0 < 4294967296) (h1 : q1 < 4294967296) (hk0 : k0 < 256) (hk1 : k1 < 256) (hr : rec.size ≤ 600) :
    Calls Try.prog 12 #[.agg #[.int .u32 q0, .int .u32 q1], .string rec, .agg #[.int .u8 k0, .int .u8 k1]] w fun e w' => e = .returned (.bool true) ∧ Below w.heap.size w w' := by
  have hS := St.start w
  have ez := elem_pc
  have hm := manyB_pos rec.size
  have hmb := manyB_bound rec.size
  have hok : cutOk q0 q1 (manyB rec.size) = true := by rw [cutOk_iff]; omega
  have hlen := cutB_length hok
  have hj1 := join_cut hok
  have hj2 := join_less hok
  have hj3 := join_swap hok
  have hpk := cut_ok hok (fun _ _ => trivial)
  have cCt := fun W : World => cut_any q0 q1 rec W (by omega) (by omega) (by omega)
  have cMn := fun W : World => many_any rec.size W (by unfold maxLen; omega)
  obtain ⟨l, hl⟩ : ∃ l, l = cutB q0 q1 rec := ⟨_, rfl⟩
  obtain ⟨m, hmm⟩ : ∃ m, m = manyB rec.size := ⟨_, rfl⟩
  rw [← hmm] at hm hmb hlen hj2 hj3 cMn
  rw [← hl] at hlen hj1 hj2 hj3 hpk cCt
  rw [hlen] at cCt
  clear hl hmm hok
  have u0 : wrap64 (q0 : Int) = q0 := by rw [← IntWalk.i64_left, wrap_i64_nat _ (by omega)]
  have u1 : wrap64 (q1 : Int) = q1 := by rw [← IntWalk.i64_left, wrap_i64_nat _ (by omega)]
  have hz : ((q0 : Int) == 0) = false := by rw [beq_eq_false_iff_ne]; omega
  have hm0 : ((m : Int) == 0) = false := by rw [beq_eq_false_iff_ne]; omega
  have hm1 : (m == 0) = false := by rw [beq_eq_false_iff_ne]; omega
  have hm601 : m ≤ 601 := by omega
  clear h0 h0' h1 hmb
  replace hlen := Lib.hid hlen
  replace hj1 := Lib.hid hj1
  replace hj2 := Lib.hid hj2
  replace hj3 := Lib.hid hj3
  replace hpk := Lib.hid hpk
  replace cCt := Lib.hid cCt
  replace cMn := Lib.hid cMn
  go_enter Try.func12, Try.ntmps12
  go_wp2_with (first
    | ((with_reducible refine wpList_box_st hS rfl rfl rfl ?_); intro g1 w1 hS1; clear hS; have hS := hS1; clear hS1; try (have fq := hS.cell 1 rfl; have fk := hS.cell 0 rfl))
    | (go_at_call 25; (with_reducible refine (cCt.out _).mono ?_); clear fq fk; rintro _ w3 ⟨a, cap, rfl, hPs, hcap, hb3⟩; have hS1 := hS.keepB hb3; clear hb3 hS; have hS := hS1; clear hS1)
    | (go_at_call 46; (with_reducible refine (cMn.out _).mono ?_); rintro _ _ ⟨rfl, rfl⟩))
  have fk := hS.cell 0 rfl
  have hw3 := hS.below
  clear hS cCt cMn u0 u1 hz
  replace fk := Lib.hid fk
  have cPt := fun (p : Pc) (W : World) => put_any p W
  have cGt := fun (p : Pc) (W : World) => get_any (str (putB p)) W
  have cFr := fun (p : Pc) (W : World) => from_any p W
  simp only [Pc.val, Pc.row] at cPt cGt cFr
  replace cPt := Lib.hid cPt
  replace cGt := Lib.hid cGt
  replace cFr := Lib.hid cFr
  go_loopg [8, 9] m (fun gk v i wr => ∃ j : Nat, j + gk = m ∧ i = .int .i64 j ∧ St w3 [] [Ch.row 58 5 v j ((l.take j).map Pc.row).flatten] wr)
  case atStart => exact ⟨0, by omega, rfl, (St.start w3).fresh (Fr.alloc _ _) (World.ownsRow_lit w3 #[] 0 (Nat.le_refl _) (by unfold maxLen; omega) rfl)⟩
  case round =>
    obtain ⟨j, hjk, rfl, hS⟩ := hrel
    by_cases hj : j < m
    · obtain ⟨p, hp⟩ : ∃ p, l[j]? = some p := ⟨_, List.getElem?_eq_getElem (by have := hlen.out; omega)⟩
      have hpok := hpk.out j p hp
      have hgp := get_put p hpok
      have hps : (str (putB p)).size ≤ maxLen := by rw [str_size, putB_length p hpok]; unfold maxLen; omega
      obtain ⟨b, off, hab, c0, c1, c2, c3, c4⟩ := hPs.get j p hp
      subst hab
      have y0 := hS.old c0 (by simp)
      have y1 := hS.old c1 (by simp)
      have y2 := hS.old c2 (by simp)
      have y3 := hS.old c3 (by simp)
      have y4 := hS.old c4 (by simp)
      have hnext : ((l.take j).map Pc.row).flatten ++ p.row = ((l.take (j + 1)).map Pc.row).flatten := by
        rw [List.take_add_one, hp, Option.toList_some, List.map_append, List.flatten_append]
        simp
      have cPp := cPt.out p
      have cGp := fun W : World => cGt.out p W hps
      rw [hgp] at cGp
      have cFp := cFr.out p
      have zn := neq_rpc p p
      have zg := guard_rpc
      rw [(pcBeq_iff p p).2 rfl] at zn
      clear hpok hgp hps
      replace cPp := Lib.hid cPp
      replace cGp := Lib.hid cGp
      replace cFp := Lib.hid cFp
      replace hp := Lib.hid hp
      replace hnext := Lib.hid hnext
      replace c0 := Lib.hid c0
      replace c1 := Lib.hid c1
      replace c2 := Lib.hid c2
      replace c3 := Lib.hid c3
      replace c4 := Lib.hid c4
      go_wp2_with (first
        | (with_reducible refine wpList_box_st hS rfl rfl rfl ?_; intro g1 w1 hS1; clear hS; replace hS := hS1; clear hS1) | (with_reducible refine wpList_box1_st hS rfl rfl rfl ?_; intro g1 w1 hS1; clear hS; replace hS := hS1; clear hS1) | (with_reducible refine wpList_alloc_st hS rfl rfl (by assumption) ?_; intro g1 w1 hS1; clear hS; replace hS := hS1; clear hS1) | (with_reducible refine wpList_alloc1_st hS rfl rfl (by assumption) rfl ?_; intro g1 w1 hS1; clear hS; replace hS := hS1; clear hS1) | ((with_reducible refine wpList_load_st 0 hS rfl rfl rfl rfl ?_ rfl ?_); focus (simp [scalarB, go_sem]; done)) | ((with_reducible refine wpList_loadall_st 0 hS rfl rfl rfl rfl ?_ (by kernel_rfl) ?_); focus (simp [rowB, go_sem]; done)) | ((with_reducible refine wpList_store_st 0 hS rfl rfl rfl rfl (by kernel_rfl) rfl rfl ?_); intro w1 hS1; clear hS; replace hS := hS1; clear hS1; try simp only [List.set_cons_zero, List.set_cons_succ, List.setIfInBounds_toArray, List.take_succ_cons, List.take_zero, List.drop_succ_cons, List.drop_zero, List.nil_append, List.cons_append, List.append_nil, List.drop_nil, List.take_nil, List.length_cons, List.length_nil, Nat.zero_add, Nat.add_zero, Nat.reduceAdd] at hS) | ((with_reducible refine wpList_storerow_st 0 hS rfl rfl rfl rfl (by kernel_rfl) rfl rfl rfl rfl ?_); intro w1 hS1; clear hS; replace hS := hS1; clear hS1; try simp only [List.set_cons_zero, List.set_cons_succ, List.setIfInBounds_toArray, List.take_succ_cons, List.take_zero, List.drop_succ_cons, List.drop_zero, List.nil_append, List.cons_append, List.append_nil, List.drop_nil, List.take_nil, List.length_cons, List.length_nil, Nat.zero_add, Nat.add_zero, Nat.reduceAdd] at hS) | ((with_reducible refine wpList_load_st 1 hS rfl rfl rfl rfl ?_ rfl ?_); focus (simp [scalarB, go_sem]; done)) | ((with_reducible refine wpList_loadall_st 1 hS rfl rfl rfl rfl ?_ (by kernel_rfl) ?_); focus (simp [rowB, go_sem]; done)) | ((with_reducible refine wpList_store_st 1 hS rfl rfl rfl rfl (by kernel_rfl) rfl rfl ?_); intro w1 hS1; clear hS; replace hS := hS1; clear hS1; try simp only [List.set_cons_zero, List.set_cons_succ, List.setIfInBounds_toArray, List.take_succ_cons, List.take_zero, List.drop_succ_cons, List.drop_zero, List.nil_append, List.cons_append, List.append_nil, List.drop_nil, List.take_nil, List.length_cons, List.length_nil, Nat.zero_add, Nat.add_zero, Nat.reduceAdd] at hS) | ((with_reducible refine wpList_storerow_st 1 hS rfl rfl rfl rfl (by kernel_rfl) rfl rfl rfl rfl ?_); intro w1 hS1; clear hS; replace hS := hS1; clear hS1; try simp only [List.set_cons_zero, List.set_cons_succ, List.setIfInBounds_toArray, List.take_succ_cons, List.take_zero, List.drop_succ_cons, List.drop_zero, List.nil_append, List.cons_append, List.append_nil, List.drop_nil, List.take_nil, List.length_cons, List.length_nil, Nat.zero_add, Nat.add_zero, Nat.reduceAdd] at hS)
        | (go_at_call 43; clear y0 y1 y2 y3 y4; (with_reducible refine (cPp.out _).mono ?_); rintro _ w4 ⟨rfl, hb3⟩; have hS1 := hS.keepB hb3; clear hb3 hS; have hS := hS1; clear hS1)
        | (go_at_call 38; (with_reducible refine (cGp.out _).mono ?_); rintro _ w4 ⟨rfl, hb3⟩; have hS1 := hS.keepB hb3; clear hb3 hS; have hS := hS1; clear hS1))
      have kp := hS.kblk 0 rfl
      have z0 := hS.kold0 c0.out
      have z1 := hS.kold0 c1.out
      have z2 := hS.kold0 c2.out
      have z3 := hS.kold0 c3.out
      have z4 := hS.kold0 c4.out
      refine mixs_begin (by kernel_rfl) hS ?_
      clear hS
      intro w5 hS
      refine mixs_take 0 (v := ?_) rfl (by kernel_rfl) (fun _ _ _ h => h) (by kernel_rfl) (by assumption) (fun s => ?hy) ?_; case hy => (go_simp <;> with_reducible rfl)
      try simp only [List.getElem_toArray, List.getElem_cons_succ, List.getElem_cons_zero, Act.put, List.setIfInBounds_toArray, List.set_cons_zero, List.set_cons_succ]
      refine mixs_take 1 (v := ?_) rfl (by kernel_rfl) (fun _ _ _ h => h) (by kernel_rfl) (by assumption) (fun s => ?hy) ?_; case hy => (go_simp <;> with_reducible rfl)
      try simp only [List.getElem_toArray, List.getElem_cons_succ, List.getElem_cons_zero, Act.put, List.setIfInBounds_toArray, List.set_cons_zero, List.set_cons_succ]
      refine mixs_take 2 (v := ?_) rfl (by kernel_rfl) (fun _ _ _ h => h) (by kernel_rfl) (by assumption) (fun s => ?hy) ?_; case hy => (go_simp <;> with_reducible rfl)
      try simp only [List.getElem_toArray, List.getElem_cons_succ, List.getElem_cons_zero, Act.put, List.setIfInBounds_toArray, List.set_cons_zero, List.set_cons_succ]
      refine mixs_take 3 (v := ?_) rfl (by kernel_rfl) (fun _ _ _ h => h) (by kernel_rfl) (by assumption) (fun s => ?hy) ?_; case hy => (go_simp <;> with_reducible rfl)
      try simp only [List.getElem_toArray, List.getElem_cons_succ, List.getElem_cons_zero, Act.put, List.setIfInBounds_toArray, List.set_cons_zero, List.set_cons_succ]
      refine mixs_take 5 (v := ?_) rfl (by kernel_rfl) (fun _ _ _ h => h) (by kernel_rfl) (by assumption) (fun s => ?hy) ?_; case hy => (go_simp <;> with_reducible rfl)
      try simp only [List.getElem_toArray, List.getElem_cons_succ, List.getElem_cons_zero, Act.put, List.setIfInBounds_toArray, List.set_cons_zero, List.set_cons_succ]
      refine mixs_take 6 (v := ?_) rfl (by kernel_rfl) (fun _ _ _ h => h) (by kernel_rfl) (by assumption) (fun s => ?hy) ?_; case hy => (go_simp <;> with_reducible rfl)
      try simp only [List.getElem_toArray, List.getElem_cons_succ, List.getElem_cons_zero, Act.put, List.setIfInBounds_toArray, List.set_cons_zero, List.set_cons_succ]
      refine mixs_take 7 (v := ?_) rfl (by kernel_rfl) (fun _ _ _ h => h) (by kernel_rfl) (by assumption) (fun s => ?hy) ?_; case hy => (go_simp <;> with_reducible rfl)
      try simp only [List.getElem_toArray, List.getElem_cons_succ, List.getElem_cons_zero, Act.put, List.setIfInBounds_toArray, List.set_cons_zero, List.set_cons_succ]
      refine mixs_take 8 (v := ?_) rfl (by kernel_rfl) (fun _ _ _ h => h) (by kernel_rfl) (by assumption) (fun s => ?hy) ?_; case hy => (go_simp <;> with_reducible rfl)
      try simp only [List.getElem_toArray, List.getElem_cons_succ, List.getElem_cons_zero, Act.put, List.setIfInBounds_toArray, List.set_cons_zero, List.set_cons_succ]
      refine mixs_one 4 (by kernel_rfl) rfl (fun K hK => ?_)
      go_simp
      ( go_at_call 45; (with_reducible refine (cFp.out _).mono ?_); rintro _ w4 ⟨rfl, hb3⟩; have hS1 := hS.keepB hb3; clear hb3 hS; have hS := hS1; clear hS1 )
      try clear hC
      refine hK.out _ _ _ (fun _ h => h) (by first | exact hS | exact hS.drop | exact hS.drop.drop | exact hS.drop.drop.drop | exact hS.drop.drop.drop.drop) (fun hC => ?_)
      clear hK K
      try simp only [List.getElem_toArray, List.getElem_cons_succ, List.getElem_cons_zero, Act.put, List.setIfInBounds_toArray, List.set_cons_zero, List.set_cons_succ]
      refine mixs_one 9 (by kernel_rfl) rfl (fun K hK => ?_)
      go_simp
      ( go_at_call 45; (with_reducible refine (cFp.out _).mono ?_); rintro _ w4 ⟨rfl, hb3⟩; have hS1 := hS.keepB hb3; clear hb3 hS; have hS := hS1; clear hS1 )
      try clear hC
      refine hK.out _ _ _ (fun _ h => h) (by first | exact hS | exact hS.drop | exact hS.drop.drop | exact hS.drop.drop.drop | exact hS.drop.drop.drop.drop) (fun hC => ?_)
      clear hK K
      try simp only [List.getElem_toArray, List.getElem_cons_succ, List.getElem_cons_zero, Act.put, List.setIfInBounds_toArray, List.set_cons_zero, List.set_cons_succ]
      refine mixs_take 10 (v := ?_) rfl (by kernel_rfl) (fun _ _ _ h => h) (by kernel_rfl) (by assumption) (fun s => ?hy) ?_; case hy => (go_simp <;> with_reducible rfl)
      try simp only [List.getElem_toArray, List.getElem_cons_succ, List.getElem_cons_zero, Act.put, List.setIfInBounds_toArray, List.set_cons_zero, List.set_cons_succ]
      refine mixs_take 11 (v := ?_) rfl (by kernel_rfl) (fun _ _ _ h => h) (by kernel_rfl) (by assumption) (fun s => ?hy) ?_; case hy => (go_simp <;> with_reducible rfl)
      try simp only [List.getElem_toArray, List.getElem_cons_succ, List.getElem_cons_zero, Act.put, List.setIfInBounds_toArray, List.set_cons_zero, List.set_cons_succ]
      refine wpAnyH_done (by kernel_rfl) ?_ _
      clear kp z0 z1 z2 z3 z4 zn zg
      try clear hC
      go_wp2_with (first
        | (with_reducible refine wpList_box_st hS rfl rfl rfl ?_; intro g1 w1 hS1; clear hS; replace hS := hS1; clear hS1) | (with_reducible refine wpList_box1_st hS rfl rfl rfl ?_; intro g1 w1 hS1; clear hS; replace hS := hS1; clear hS1) | (with_reducible refine wpList_alloc_st hS rfl rfl (by assumption) ?_; intro g1 w1 hS1; clear hS; replace hS := hS1; clear hS1) | (with_reducible refine wpList_alloc1_st hS rfl rfl (by assumption) rfl ?_; intro g1 w1 hS1; clear hS; replace hS := hS1; clear hS1) | ((with_reducible refine wpList_load_st 0 hS rfl rfl rfl rfl ?_ rfl ?_); focus (simp [scalarB, go_sem]; done)) | ((with_reducible refine wpList_loadall_st 0 hS rfl rfl rfl rfl ?_ (by kernel_rfl) ?_); focus (simp [rowB, go_sem]; done)) | ((with_reducible refine wpList_store_st 0 hS rfl rfl rfl rfl (by kernel_rfl) rfl rfl ?_); intro w1 hS1; clear hS; replace hS := hS1; clear hS1; try simp only [List.set_cons_zero, List.set_cons_succ, List.setIfInBounds_toArray, List.take_succ_cons, List.take_zero, List.drop_succ_cons, List.drop_zero, List.nil_append, List.cons_append, List.append_nil, List.drop_nil, List.take_nil, List.length_cons, List.length_nil, Nat.zero_add, Nat.add_zero, Nat.reduceAdd] at hS) | ((with_reducible refine wpList_storerow_st 0 hS rfl rfl rfl rfl (by kernel_rfl) rfl rfl rfl rfl ?_); intro w1 hS1; clear hS; replace hS := hS1; clear hS1; try simp only [List.set_cons_zero, List.set_cons_succ, List.setIfInBounds_toArray, List.take_succ_cons, List.take_zero, List.drop_succ_cons, List.drop_zero, List.nil_append, List.cons_append, List.append_nil, List.drop_nil, List.take_nil, List.length_cons, List.length_nil, Nat.zero_add, Nat.add_zero, Nat.reduceAdd] at hS)
        | (at_builtin; refine wpList_app_st 2 (s := .tmp 78) (x := .tmp 80) (hS.alloc _ _) rfl rfl rfl Try.underlying37 elem_pc rfl (Src.slice Try.underlying37 (Sl.new _ _ _ _) (by simp)) rfl (row_one p) (by omega) (by unfold maxLen; omega) ?_; intro v' w' hS1; clear hS; have hS := hS1; clear hS1))
      go_roundg (m - (j + 1))
      case measure => omega
      case rel =>
        refine ⟨j + 1, by omega, rfl, ?_⟩
        rw [← hnext.out]
        exact hS.drop.drop
    · have e : j = m := by omega
      subst e
      have hfull : l.take j = l := List.take_of_length_le (by have := hlen.out; omega)
      rw [hfull] at hS
      obtain ⟨g, c, rfl, hc1, hc2⟩ := hS.rowat 0 rfl hm
      have cJ := pjoin_any (some ⟨g, 0, none⟩) l j c
      have cA := hlen.out.symm
      replace cJ := Lib.hid cJ
      replace cA := Lib.hid cA
      clear hfull hj cPt cGt cFr
      obtain ⟨A, hA⟩ : ∃ A, A = k0 % j := ⟨_, rfl⟩
      obtain ⟨B, hB⟩ : ∃ B, B = k1 % j := ⟨_, rfl⟩
      have hAj : A < j := by rw [hA]; exact Nat.mod_lt _ hm
      have hBj : B < j := by rw [hB]; exact Nat.mod_lt _ hm
      have tA : (IntKind.i64.wrap (k0 : Int)).tmod (j : Int) = (A : Int) := by rw [wrap_i64_nat _ (by omega), hA]; rfl
      have tB : (IntKind.i64.wrap (k1 : Int)).tmod (j : Int) = (B : Int) := by rw [wrap_i64_nat _ (by omega), hB]; rfl
      have hjz : ¬ j = 0 := by omega
      replace hA := Lib.hid hA
      replace hB := Lib.hid hB
      go_wp2_with (first
        | (with_reducible refine wpList_box_st hS rfl rfl rfl ?_; intro g1 w1 hS1; clear hS; replace hS := hS1; clear hS1) | (with_reducible refine wpList_box1_st hS rfl rfl rfl ?_; intro g1 w1 hS1; clear hS; replace hS := hS1; clear hS1) | (with_reducible refine wpList_alloc_st hS rfl rfl (by assumption) ?_; intro g1 w1 hS1; clear hS; replace hS := hS1; clear hS1) | (with_reducible refine wpList_alloc1_st hS rfl rfl (by assumption) rfl ?_; intro g1 w1 hS1; clear hS; replace hS := hS1; clear hS1)
        | (go_at_call 20; refine (cJ.out _ (hS.rowsl 0 rfl) cA.out (by omega)).mono ?_; rw [hj1.out]; rintro _ w4 ⟨rfl, hb3⟩; have hS1 := hS.keepB hb3; clear hb3 hS; have hS := hS1; clear hS1))
      have z0 := hS.kold0 (v := .int .u8 (k0 : Int)) (fk.out 0)
      have z1 := hS.kold0 (v := .int .u8 (k1 : Int)) (fk.out 1)
      refine mixs_begin (by kernel_rfl) hS ?_
      clear hS
      intro w5 hS
      refine mixs_take 0 (v := ?_) rfl (by kernel_rfl) (fun _ _ _ h => h) (by kernel_rfl) (by assumption) (fun s => ?hy) ?_; case hy => (go_simp <;> with_reducible rfl)
      try simp only [List.getElem_toArray, List.getElem_cons_succ, List.getElem_cons_zero, Act.put, List.setIfInBounds_toArray, List.set_cons_zero, List.set_cons_succ]
      refine mixs_take 1 (v := ?_) rfl (by kernel_rfl) (fun _ _ _ h => h) (by kernel_rfl) (by assumption) (fun s => ?hy) ?_; case hy => (go_simp <;> with_reducible rfl)
      try simp only [List.getElem_toArray, List.getElem_cons_succ, List.getElem_cons_zero, Act.put, List.setIfInBounds_toArray, List.set_cons_zero, List.set_cons_succ]
      refine mixs_take 2 (v := ?_) rfl (by kernel_rfl) (fun _ _ _ h => h) (by kernel_rfl) (by assumption) (fun s => ?hy) ?_; case hy => (go_simp <;> with_reducible rfl)
      try simp only [List.getElem_toArray, List.getElem_cons_succ, List.getElem_cons_zero, Act.put, List.setIfInBounds_toArray, List.set_cons_zero, List.set_cons_succ]
      refine mixs_take 3 (v := ?_) rfl (by kernel_rfl) (fun _ _ _ h => h) (by kernel_rfl) (by assumption) (fun s => ?hy) ?_; case hy => (go_simp <;> with_reducible rfl)
      try simp only [List.getElem_toArray, List.getElem_cons_succ, List.getElem_cons_zero, Act.put, List.setIfInBounds_toArray, List.set_cons_zero, List.set_cons_succ]
      refine mixs_take 4 (v := ?_) rfl (by kernel_rfl) (fun _ _ _ h => h) (by kernel_rfl) (by assumption) (fun s => ?hy) ?_; case hy => (go_simp <;> with_reducible rfl)
      try simp only [List.getElem_toArray, List.getElem_cons_succ, List.getElem_cons_zero, Act.put, List.setIfInBounds_toArray, List.set_cons_zero, List.set_cons_succ]
      refine mixs_take 5 (v := ?_) rfl (by kernel_rfl) (fun _ _ _ h => h) (by kernel_rfl) (by assumption) (fun s => ?hy) ?_; case hy => (go_simp <;> with_reducible rfl)
      try simp only [List.getElem_toArray, List.getElem_cons_succ, List.getElem_cons_zero, Act.put, List.setIfInBounds_toArray, List.set_cons_zero, List.set_cons_succ]
      refine mixs_take 6 (v := ?_) rfl (by kernel_rfl) (fun _ _ _ h => h) (by kernel_rfl) (by assumption) (fun s => ?hy) ?_; case hy => (go_simp <;> with_reducible rfl)
      try simp only [List.getElem_toArray, List.getElem_cons_succ, List.getElem_cons_zero, Act.put, List.setIfInBounds_toArray, List.set_cons_zero, List.set_cons_succ]
      refine mixs_take 7 (v := ?_) rfl (by kernel_rfl) (fun _ _ _ h => h) (by kernel_rfl) (by assumption) (fun s => ?hy) ?_; case hy => (go_simp <;> with_reducible rfl)
      try simp only [List.getElem_toArray, List.getElem_cons_succ, List.getElem_cons_zero, Act.put, List.setIfInBounds_toArray, List.set_cons_zero, List.set_cons_succ]
      refine mixs_take 8 (v := ?_) rfl (by kernel_rfl) (fun _ _ _ h => h) (by kernel_rfl) (by assumption) (fun s => ?hy) ?_; case hy => (go_simp <;> with_reducible rfl)
      try simp only [List.getElem_toArray, List.getElem_cons_succ, List.getElem_cons_zero, Act.put, List.setIfInBounds_toArray, List.set_cons_zero, List.set_cons_succ]
      refine mixs_take 9 (v := ?_) rfl (by kernel_rfl) (fun _ _ _ h => h) (by kernel_rfl) (by assumption) (fun s => ?hy) ?_; case hy => (go_simp <;> with_reducible rfl)
      try simp only [List.getElem_toArray, List.getElem_cons_succ, List.getElem_cons_zero, Act.put, List.setIfInBounds_toArray, List.set_cons_zero, List.set_cons_succ]
      refine mixs_take 10 (v := ?_) rfl (by kernel_rfl) (fun _ _ _ h => h) (by kernel_rfl) (by assumption) (fun s => ?hy) ?_; case hy => (go_simp <;> with_reducible rfl)
      try simp only [List.getElem_toArray, List.getElem_cons_succ, List.getElem_cons_zero, Act.put, List.setIfInBounds_toArray, List.set_cons_zero, List.set_cons_succ]
      refine mixs_take 11 (v := ?_) rfl (by kernel_rfl) (fun _ _ _ h => h) (by kernel_rfl) (by assumption) (fun s => ?hy) ?_; case hy => (go_simp <;> with_reducible rfl)
      try simp only [List.getElem_toArray, List.getElem_cons_succ, List.getElem_cons_zero, Act.put, List.setIfInBounds_toArray, List.set_cons_zero, List.set_cons_succ]
      refine mixs_take 12 (v := ?_) rfl (by kernel_rfl) (fun _ _ _ h => h) (by kernel_rfl) (by assumption) (fun s => ?hy) ?_; case hy => (go_simp <;> with_reducible rfl)
      try simp only [List.getElem_toArray, List.getElem_cons_succ, List.getElem_cons_zero, Act.put, List.setIfInBounds_toArray, List.set_cons_zero, List.set_cons_succ]
      refine mixs_take 13 (v := ?_) rfl (by kernel_rfl) (fun _ _ _ h => h) (by kernel_rfl) (by assumption) (fun s => ?hy) ?_; case hy => (go_simp <;> with_reducible rfl)
      try simp only [List.getElem_toArray, List.getElem_cons_succ, List.getElem_cons_zero, Act.put, List.setIfInBounds_toArray, List.set_cons_zero, List.set_cons_succ]
      refine wpAnyH_done (by kernel_rfl) ?_ _
      clear z0 z1 tA tB hjz
      try clear hC
      obtain ⟨b, off, rfl⟩ := Sl.cells hPs (by intro e; have e2 := rows_len l; have e3 := cA.out; rw [e] at e2; simp only [List.length_nil] at e2; omega)
      have hT : ∀ W, Below w3.heap.size w3 W → Sl W (some ⟨b, off, none⟩) ((l.take A).map Pc.row).flatten := fun W hb => by rw [rows_take]; exact (Sl.below hPs hb).take _
      have hD : ∀ W, Below w3.heap.size w3 W → Sl W (if cap = A + 1 then some ⟨b, off, none⟩ else some ⟨b, off + (A + 1) * 5, none⟩) ((l.drop (A + 1)).map Pc.row).flatten := fun W hb => by
        refine Sl.cutn ?_ ?_
        · rw [rows_drop]; exact (Sl.below hPs hb).drop _
        · intro e
          rw [List.drop_eq_nil_of_le (by have := cA.out; omega)]
          rfl
      have hTl : ((l.take A).map Pc.row).flatten.length = A * 5 := by rw [rows_len, List.length_take, Nat.min_eq_left (by have := cA.out; omega)]
      have hDl : ((l.drop (A + 1)).map Pc.row).flatten.length = (j - (A + 1)) * 5 := by rw [rows_len, List.length_drop, ← cA.out]
      replace hT := Lib.hid hT
      replace hD := Lib.hid hD
      replace hTl := Lib.hid hTl
      replace hDl := Lib.hid hDl
      have i1 : IntKind.i64.wrap ((A : Int) + 1) = (A : Int) + 1 := IntWalk.i64_in _ (by omega)
      have i2 : (A : Int) + 1 ≤ (j : Int) := by omega
      have i3 : (0 : Int) ≤ (A : Int) + 1 := by omega
      have i4 : ((A : Int) + 1).toNat = A + 1 := by omega
      have i5 : (A : Int) ≤ (cap : Int) := by omega
      have i6 : A ≤ cap := by omega
      have i7 : A + 1 ≤ j := by omega
      go_wp2_with fail
      refine mixs_begin (by kernel_rfl) hS ?_
      clear hS
      intro w5 hS
      refine mixs_take 1 (v := ?_) rfl (by kernel_rfl) (fun _ _ _ h => h) (by kernel_rfl) (by assumption) (fun s => ?hy) ?_; case hy => (go_simp <;> with_reducible rfl)
      try simp only [List.getElem_toArray, List.getElem_cons_succ, List.getElem_cons_zero, Act.put, List.setIfInBounds_toArray, List.set_cons_zero, List.set_cons_succ]
      refine mixs_take 2 (v := ?_) rfl (by kernel_rfl) (fun _ _ _ h => h) (by kernel_rfl) (by assumption) (fun s => ?hy) ?_; case hy => (go_simp <;> with_reducible rfl)
      try simp only [List.getElem_toArray, List.getElem_cons_succ, List.getElem_cons_zero, Act.put, List.setIfInBounds_toArray, List.set_cons_zero, List.set_cons_succ]
      refine mixs_take 3 (v := ?_) rfl (by kernel_rfl) (fun _ _ _ h => h) (by kernel_rfl) (by assumption) (fun s => ?hy) ?_; case hy => (go_simp <;> with_reducible rfl)
      try simp only [List.getElem_toArray, List.getElem_cons_succ, List.getElem_cons_zero, Act.put, List.setIfInBounds_toArray, List.set_cons_zero, List.set_cons_succ]
      refine mixs_take 5 (v := ?_) rfl (by kernel_rfl) (fun _ _ _ h => h) (by kernel_rfl) (by assumption) (fun s => ?hy) ?_; case hy => (go_simp <;> with_reducible rfl)
      try simp only [List.getElem_toArray, List.getElem_cons_succ, List.getElem_cons_zero, Act.put, List.setIfInBounds_toArray, List.set_cons_zero, List.set_cons_succ]
      refine mixs_take 6 (v := ?_) rfl (by kernel_rfl) (fun _ _ _ h => h) (by kernel_rfl) (by assumption) (fun s => ?hy) ?_; case hy => (go_simp <;> with_reducible rfl)
      try simp only [List.getElem_toArray, List.getElem_cons_succ, List.getElem_cons_zero, Act.put, List.setIfInBounds_toArray, List.set_cons_zero, List.set_cons_succ]
      refine mixs_take 7 (v := ?_) rfl (by kernel_rfl) (fun _ _ _ h => h) (by kernel_rfl) (by assumption) (fun s => ?hy) ?_; case hy => (go_simp <;> with_reducible rfl)
      try simp only [List.getElem_toArray, List.getElem_cons_succ, List.getElem_cons_zero, Act.put, List.setIfInBounds_toArray, List.set_cons_zero, List.set_cons_succ]
      refine mixs_take 8 (v := ?_) rfl (by kernel_rfl) (fun _ _ _ h => h) (by kernel_rfl) (by assumption) (fun s => ?hy) ?_; case hy => (go_simp <;> with_reducible rfl)
      try simp only [List.getElem_toArray, List.getElem_cons_succ, List.getElem_cons_zero, Act.put, List.setIfInBounds_toArray, List.set_cons_zero, List.set_cons_succ]
      refine mixs_one 0 (by kernel_rfl) rfl (fun K hK => ?_)
      go_simp
      ( first | (go_at_K; have hS1 := hS.fresh (e := 58) (size := 5) (Fr.alloc _ (.cells #[] 58)) (World.ownsRow_lit _ #[] 0 (Nat.le_refl _) (by unfold maxLen; omega) rfl); clear hS; have hS := hS1; clear hS1) | (refine op_app_st (by kernel_rfl) 0 hS rfl rfl Try.underlying37 elem_pc rfl (Src.slice Try.underlying37 (hT.out _ hS.below) hTl.out) rfl (rows_one _) (by omega) (by unfold maxLen; omega) ?_; intro v' w' hS1; clear hS; have hS := hS1; clear hS1) | (refine op_app_st (by kernel_rfl) 0 hS rfl rfl Try.underlying37 elem_pc rfl (Src.slice Try.underlying37 (hD.out _ hS.below) hDl.out) rfl (rows_one _) (by omega) (by unfold maxLen; omega) ?_; intro v' w' hS1; clear hS; have hS := hS1; clear hS1) )
      try clear hC
      refine hK.out _ _ _ (fun _ h => h) (by first | exact hS | exact hS.drop | exact hS.drop.drop | exact hS.drop.drop.drop | exact hS.drop.drop.drop.drop) (fun hC => ?_)
      clear hK K
      try simp only [List.getElem_toArray, List.getElem_cons_succ, List.getElem_cons_zero, Act.put, List.setIfInBounds_toArray, List.set_cons_zero, List.set_cons_succ]
      refine mixs_one 4 (by kernel_rfl) rfl (fun K hK => ?_)
      ( first | (go_at_K; have hS1 := hS.fresh (e := 58) (size := 5) (Fr.alloc _ (.cells #[] 58)) (World.ownsRow_lit _ #[] 0 (Nat.le_refl _) (by unfold maxLen; omega) rfl); clear hS; have hS := hS1; clear hS1) | (refine op_app_st (by kernel_rfl) 0 hS rfl rfl Try.underlying37 elem_pc rfl (Src.slice Try.underlying37 (hT.out _ hS.below) hTl.out) rfl (rows_one _) (by omega) (by unfold maxLen; omega) ?_; intro v' w' hS1; clear hS; have hS := hS1; clear hS1) | (refine op_app_st (by kernel_rfl) 0 hS rfl rfl Try.underlying37 elem_pc rfl (Src.slice Try.underlying37 (hD.out _ hS.below) hDl.out) rfl (rows_one _) (by omega) (by unfold maxLen; omega) ?_; intro v' w' hS1; clear hS; have hS := hS1; clear hS1) )
      try clear hC
      refine hK.out _ _ _ (fun _ h => h) (by first | exact hS | exact hS.drop | exact hS.drop.drop | exact hS.drop.drop.drop | exact hS.drop.drop.drop.drop) (fun hC => ?_)
      clear hK K
      try simp only [List.getElem_toArray, List.getElem_cons_succ, List.getElem_cons_zero, Act.put, List.setIfInBounds_toArray, List.set_cons_zero, List.set_cons_succ]
      refine mixs_one 9 (by kernel_rfl) rfl (fun K hK => ?_)
      ( first | (go_at_K; have hS1 := hS.fresh (e := 58) (size := 5) (Fr.alloc _ (.cells #[] 58)) (World.ownsRow_lit _ #[] 0 (Nat.le_refl _) (by unfold maxLen; omega) rfl); clear hS; have hS := hS1; clear hS1) | (refine op_app_st (by kernel_rfl) 0 hS rfl rfl Try.underlying37 elem_pc rfl (Src.slice Try.underlying37 (hT.out _ hS.below) hTl.out) rfl (rows_one _) (by omega) (by unfold maxLen; omega) ?_; intro v' w' hS1; clear hS; have hS := hS1; clear hS1) | (refine op_app_st (by kernel_rfl) 0 hS rfl rfl Try.underlying37 elem_pc rfl (Src.slice Try.underlying37 (hD.out _ hS.below) hDl.out) rfl (rows_one _) (by omega) (by unfold maxLen; omega) ?_; intro v' w' hS1; clear hS; have hS := hS1; clear hS1) )
      try clear hC
      refine hK.out _ _ _ (fun _ h => h) (by first | exact hS | exact hS.drop | exact hS.drop.drop | exact hS.drop.drop.drop | exact hS.drop.drop.drop.drop) (fun hC => ?_)
      clear hK K
      try simp only [List.getElem_toArray, List.getElem_cons_succ, List.getElem_cons_zero, Act.put, List.setIfInBounds_toArray, List.set_cons_zero, List.set_cons_succ]
      refine mixs_take 10 (v := ?_) rfl (by kernel_rfl) (fun _ _ _ h => h) (by kernel_rfl) (by assumption) (fun s => ?hy) ?_; case hy => (go_simp <;> with_reducible rfl)
      try simp only [List.getElem_toArray, List.getElem_cons_succ, List.getElem_cons_zero, Act.put, List.setIfInBounds_toArray, List.set_cons_zero, List.set_cons_succ]
      refine wpAnyH_done (by kernel_rfl) ?_ _
      clear i1 i2 i3 i4 i5 i6 i7 hT hD hTl hDl
      try clear hC
      obtain ⟨a2, c2, rfl, hs2, -, -, -⟩ := hS.row 0 rfl
      have hs3 : Ps w' a2 (l.take A ++ l.drop (A + 1)) := by unfold Ps; rw [List.map_append, List.flatten_append]; simpa using hs2
      have hjl : joinB (l.take A ++ l.drop (A + 1)) = (str [], false) := by rw [joinB, hj2.out A hAj]; rfl
      have cL := pjoin_any a2 (l.take A ++ l.drop (A + 1)) (0 + A + (j - (A + 1))) c2 w' hs3 (by rw [List.length_append, List.length_take, List.length_drop, ← cA.out, Nat.min_eq_left (by omega)]; omega) (by omega)
      have hrow : rowB Try.prog 58 = true := by simp [rowB, go_sem]
      rw [hjl, Nat.zero_add] at cL
      replace cL := Lib.hid cL
      obtain ⟨pa, hpa⟩ : ∃ p, l[A]? = some p := ⟨_, List.getElem?_eq_getElem (by have := hlen.out; omega)⟩
      obtain ⟨pb, hpb⟩ : ∃ p, l[B]? = some p := ⟨_, List.getElem?_eq_getElem (by have := hlen.out; omega)⟩
      have hsw := hj3.out A B hAj hBj pa pb hpa hpb
      have hra := rows_at l A pa hpa
      have hBl : (l.set A pb).length = l.length := List.length_set ..
      obtain ⟨pc, hpc, hpc2⟩ : ∃ p, (l.set A pb)[B]? = some p ∧ p = pb := by
        rw [List.getElem?_set]
        split
        · rename_i e
          subst e
          rw [if_pos (by have := hlen.out; omega)]
          exact ⟨_, rfl, rfl⟩
        · exact ⟨_, hpb, rfl⟩
      have hrb := rows_at l B pb hpb
      have hR1 := rows_set l A pb (by have := hlen.out; omega)
      have hR2 := rows_set (l.set A pb) B pa (by rw [hBl]; have := hlen.out; omega)
      have hswl : j = ((l.set A pb).set B pa).length := by rw [List.length_set, List.length_set]; exact cA.out
      generalize hLL : (l.set A pb).set B pa = LL at hsw hR2 hswl
      obtain ⟨s2, hj4⟩ : ∃ s2, joinB LL = (s2, A == B) := by
        rw [joinB, hsw]
        cases A == B
        · exact ⟨_, rfl⟩
        · exact ⟨_, rfl⟩
      have hAB : ((A : Int) == (B : Int)) = (A == B) := by rw [Bool.eq_iff_iff, beq_iff_eq, beq_iff_eq]; omega
      have cS := fun W h => pjoin_any (some ⟨g, 0, none⟩) LL j c W h hswl (by omega)
      rw [hj4] at cS
      generalize (A == B) = t at hAB cS
      simp only [Pc.row] at hra hrb hR1 hR2
      replace cS := Lib.hid cS
      replace hra := Lib.hid hra
      replace hrb := Lib.hid hrb
      replace hR1 := Lib.hid hR1
      replace hR2 := Lib.hid hR2
      clear hpa hpb hpc hpc2 hsw hBl hswl hj4 hjl hs2 hs3 hLL
      replace hS := hS.drop
      go_wp2_with (first
        | (with_reducible refine wpList_box_st hS rfl rfl rfl ?_; intro g1 w1 hS1; clear hS; replace hS := hS1; clear hS1) | (with_reducible refine wpList_box1_st hS rfl rfl rfl ?_; intro g1 w1 hS1; clear hS; replace hS := hS1; clear hS1) | (with_reducible refine wpList_alloc_st hS rfl rfl (by assumption) ?_; intro g1 w1 hS1; clear hS; replace hS := hS1; clear hS1) | (with_reducible refine wpList_alloc1_st hS rfl rfl (by assumption) rfl ?_; intro g1 w1 hS1; clear hS; replace hS := hS1; clear hS1) | ((with_reducible refine wpList_load_st 0 hS rfl rfl rfl rfl ?_ rfl ?_); focus (simp [scalarB, go_sem]; done)) | ((with_reducible refine wpList_loadall_st 0 hS rfl rfl rfl rfl ?_ (by kernel_rfl) ?_); focus (simp [rowB, go_sem]; done)) | ((with_reducible refine wpList_store_st 0 hS rfl rfl rfl rfl (by kernel_rfl) rfl rfl ?_); intro w1 hS1; clear hS; replace hS := hS1; clear hS1; try simp only [List.set_cons_zero, List.set_cons_succ, List.setIfInBounds_toArray, List.take_succ_cons, List.take_zero, List.drop_succ_cons, List.drop_zero, List.nil_append, List.cons_append, List.append_nil, List.drop_nil, List.take_nil, List.length_cons, List.length_nil, Nat.zero_add, Nat.add_zero, Nat.reduceAdd] at hS) | ((with_reducible refine wpList_storerow_st 0 hS rfl rfl rfl rfl (by kernel_rfl) rfl rfl rfl rfl ?_); intro w1 hS1; clear hS; replace hS := hS1; clear hS1; try simp only [List.set_cons_zero, List.set_cons_succ, List.setIfInBounds_toArray, List.take_succ_cons, List.take_zero, List.drop_succ_cons, List.drop_zero, List.nil_append, List.cons_append, List.append_nil, List.drop_nil, List.take_nil, List.length_cons, List.length_nil, Nat.zero_add, Nat.add_zero, Nat.reduceAdd] at hS)
        | (go_at_call 20; (with_reducible refine cL.out.mono ?_); rintro _ w4 ⟨rfl, hb3⟩; have hS1 := hS.keepB hb3; clear hb3 hS; have hS := hS1; clear hS1)
        | (go_at_call 20; refine (cS.out _ (hS.rowsl 1 rfl)).mono ?_; rintro _ w4 ⟨rfl, hb3⟩; have hS1 := hS.keepB hb3; clear hb3 hS; have hS := hS1; clear hS1)
        | ((with_reducible refine wpList_loadelem_st (size := 5) 0 A hS rfl rfl rfl rfl rfl hrow (by kernel_rfl) hra.out rfl ?_))
        | ((with_reducible refine wpList_loadelem_st (size := 5) 1 B hS rfl rfl rfl rfl rfl hrow (by kernel_rfl) hrb.out rfl ?_))
        | ((with_reducible refine wpList_storeelem_st (size := 5) 1 A (vs := [.int .i64 pb.life, .int .i64 pb.place, .bool pb.first, .bool pb.last, .string pb.body]) hS rfl rfl rfl rfl rfl (by kernel_rfl) rfl rfl rfl hAj ?_); intro w4 hS1; clear hS; simp only [List.set_cons_succ, List.set_cons_zero] at hS1; rw [hR1.out] at hS1; have hS := hS1; clear hS1)
        | ((with_reducible refine wpList_storeelem_st (size := 5) 1 B (vs := [.int .i64 pa.life, .int .i64 pa.place, .bool pa.first, .bool pa.last, .string pa.body]) hS rfl rfl rfl rfl rfl (by kernel_rfl) rfl rfl rfl hBj ?_); intro w4 hS1; clear hS; simp only [List.set_cons_succ, List.set_cons_zero] at hS1; rw [hR2.out] at hS1; have hS := hS1; clear hS1)
        | (go_at_call 19; refine (awake36_any _).mono ?_; rintro _ _ ⟨rfl, rfl⟩))
      all_goals
        go_ret
        exact ⟨rfl, hw3.trans (hS.below.mono hw3.size)⟩

theorem pback_any (q0 q1 k0 k1 : Nat) (rec : ByteArray) (w : World) (h0' : q0 < 4294967296) (h1 : q1 < 4294967296) (hk0 : k0 < 256) (hk1 : k1 < 256) (hrm : rec.size ≤ maxLen) :
    Calls Try.prog 12 #[.agg #[.int .u32 q0, .int .u32 q1], .string rec, .agg #[.int .u8 k0, .int .u8 k1]] w fun e w' => e = .returned (.bool true) ∧ Below w.heap.size w w' := by
  by_cases hr : rec.size ≤ 600
  · by_cases hq : 0 < q0
    · exact pback_main q0 q1 k0 k1 rec w hq h0' h1 hk0 hk1 hr
    · obtain rfl : q0 = 0 := by omega
      clear hq hrm h0' h1
      have hS := St.start w
      go_enter Try.func12, Try.ntmps12
      go_wp2_with (first
        | ((with_reducible refine wpList_box_st hS rfl rfl rfl ?_); intro g1 w1 hS1; clear hS; have hS := hS1; clear hS1; try (have fq := hS.cell 1 rfl; have fk := hS.cell 0 rfl))
        | (go_at_call 19; refine (awake36_any _).mono ?_; rintro _ _ ⟨rfl, rfl⟩))
      go_ret
      exact ⟨rfl, hS.below⟩
  · have hr' : 600 < rec.size := by omega
    unfold maxLen at hrm
    clear hr h0' h1
    have hS := St.start w
    go_enter Try.func12, Try.ntmps12
    go_wp2_with (first
      | ((with_reducible refine wpList_box_st hS rfl rfl rfl ?_); intro g1 w1 hS1; clear hS; have hS := hS1; clear hS1; try (have fq := hS.cell 1 rfl; have fk := hS.cell 0 rfl))
      | (go_at_call 19; refine (awake36_any _).mono ?_; rintro _ _ ⟨rfl, rfl⟩))
    go_ret
    exact ⟨rfl, hS.below⟩

end Go.Proofs.Ytcpkmgmdhjhfaaa
