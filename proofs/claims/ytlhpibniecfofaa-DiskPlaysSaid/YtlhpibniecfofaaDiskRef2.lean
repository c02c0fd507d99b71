/- The reference's disks: Read, New. -/
import Derived.Test.YtlhpibniecfofaaDiskRef
set_option linter.unusedSimpArgs false
set_option linter.unusedVariables false
namespace Go.Proofs.Ytlhpibniecfofaa
open Go.RowKit Go.Ofp
set_option linter.unusedVariables false
set_option maxRecDepth 100000
set_option maxHeartbeats 4000000

theorem bytes_isEmpty (s : ByteArray) : s.toList.isEmpty = (s.size == 0) := by
  rw [ByteArray.toList_eq, ba_size]
  cases s.data.toList <;> rfl

theorem rread_any (sv wv : Value) (d : Dk) (i : Int) (w w0 : World) (F : List Nat) (L : List Ch) (i1 i2 : Nat) (h : St w0 F L w) (h1 : L[i1]? = some (Ch.row 9 1 sv d.sec.length (d.sec.map rsc))) (h2 : L[i2]? = some (Ch.row 141 2 wv d.wait.length (d.wait.map rwt).flatten)) (hok : d.Ok) (hl : d.sec.length ≤ 100000) (hw : d.wait.length ≤ 100000) :
    Calls Try.prog 68 #[.agg #[sv, wv, .int .i64 d.fuse, .bool d.dead], .int .i64 i] w fun e w' => e = .returned (.tuple #[.string (str (d.read i).1), .int .i64 (d.read i).2]) ∧ Below w.heap.size w w' := by
  obtain ⟨a1, c1, rfl, hs1, -⟩ := h.row i1 h1
  obtain ⟨a2, c2, rfl, hs2, -⟩ := h.row i2 h2
  clear h h1 h2
  have hS := St.start w
  by_cases hr : d.ready i = 0
  · obtain ⟨hdd, h0, hi⟩ := Dk.ready_zero hr
    obtain ⟨q, rfl⟩ := Int.eq_ofNat_of_zero_le h0
    have hq : q < d.sec.length := by omega
    have hrd : d.read q = Dk.told (d.see q) := by rw [Dk.read, if_pos hr]; rfl
    rw [hrd]
    have hsb := hok.sec d.sec[q] (List.getElem_mem hq)
    have hsee0 := Dk.see_none d q
    have hsee1 := Dk.see_last d q
    rw [List.getD_eq_getElem?_getD, Int.toNat_natCast, List.getElem?_eq_getElem hq] at hsee0
    obtain ⟨b1, o1, rfl, hc1⟩ : ∃ b o, a1 = some ⟨b, o, none⟩ ∧ w.cell? ⟨b, o + q, none⟩ = some (rsc d.sec[q]) := by
      obtain ⟨b, o, e, hc⟩ := hs1 q (by simpa using hq)
      exact ⟨b, o, e, by simpa using hc⟩
    have hwc : ∀ j (hj : j < d.wait.length), ∃ b o, a2 = some ⟨b, o, none⟩ ∧ w.cell? ⟨b, o + j * 2, none⟩ = some (.int .i64 d.wait[j].place) ∧ w.cell? ⟨b, o + j * 2 + 1, none⟩ = some (.string (str d.wait[j].b)) := by
      intro j hj
      have hR : Rw w a2 2 (d.wait.map rwt) := ⟨hs2, fun r hr => by obtain ⟨x, _, rfl⟩ := List.mem_map.1 hr; rfl⟩
      obtain ⟨b, o, e, hc⟩ := hR.get j (by simpa using hj) (by omega)
      refine ⟨b, o, e, ?_, ?_⟩
      · have := hc 0 (.int .i64 d.wait[j].place) (by simp [rwt])
        rwa [Nat.add_zero] at this
      · have := hc 1 (.string (str d.wait[j].b)) (by simp [rwt])
        rwa [← Nat.add_assoc] at this
    rw [hdd]
    clear hr hrd hs1 hs2 hok
    generalize d.see q = sq at *
    generalize d.fuse = fu at *
    generalize d.sec[q] = s0 at *
    generalize d.sec.length = ns at *
    generalize d.wait = wl at *
    obtain ⟨n, hn⟩ : ∃ n, wl.length = n := ⟨_, rfl⟩
    rw [hn] at hw ⊢
    replace hn := Lib.hid hn
    replace hwc := Lib.hid hwc
    replace hsee0 := Lib.hid hsee0
    replace hsee1 := Lib.hid hsee1
    go_enter Try.func68, Try.ntmps68
    go_wp2_with (first
      | ((with_reducible refine wpList_box_st hS rfl rfl rfl ?_); intro g1 w1 hS1; clear hS; have hS := hS1; clear hS1; have hcl := hS.cell 0 rfl)
      | (with_reducible refine wpList_box_st hS rfl rfl rfl ?_; intro g1 w1 hS1; clear hS; replace hS := hS1; clear hS1) | (with_reducible refine wpList_box1_st hS rfl rfl rfl ?_; intro g1 w1 hS1; clear hS; replace hS := hS1; clear hS1) | (with_reducible refine wpList_alloc_st hS rfl rfl (by assumption) ?_; intro g1 w1 hS1; clear hS; replace hS := hS1; clear hS1) | (with_reducible refine wpList_alloc1_st hS rfl rfl (by assumption) rfl ?_; intro g1 w1 hS1; clear hS; replace hS := hS1; clear hS1) | ((with_reducible refine wpList_load_st 0 hS rfl rfl rfl rfl ?_ rfl ?_); focus (simp [scalarB, go_sem]; done)) | ((with_reducible refine wpList_loadall_st 0 hS rfl rfl rfl rfl ?_ (by kernel_rfl) ?_); focus (simp [rowB, go_sem]; done)) | ((with_reducible refine wpList_store_st 0 hS rfl rfl rfl rfl (by kernel_rfl) rfl rfl ?_); intro w1 hS1; clear hS; replace hS := hS1; clear hS1; try simp only [List.set_cons_zero, List.set_cons_succ, List.setIfInBounds_toArray, List.take_succ_cons, List.take_zero, List.drop_succ_cons, List.drop_zero, List.nil_append, List.cons_append, List.append_nil, List.drop_nil, List.take_nil, List.length_cons, List.length_nil, Nat.zero_add, Nat.add_zero, Nat.reduceAdd] at hS) | ((with_reducible refine wpList_storerow_st 0 hS rfl rfl rfl rfl (by kernel_rfl) rfl rfl rfl rfl ?_); intro w1 hS1; clear hS; replace hS := hS1; clear hS1; try simp only [List.set_cons_zero, List.set_cons_succ, List.setIfInBounds_toArray, List.take_succ_cons, List.take_zero, List.drop_succ_cons, List.drop_zero, List.nil_append, List.cons_append, List.append_nil, List.drop_nil, List.take_nil, List.length_cons, List.length_nil, Nat.zero_add, Nat.add_zero, Nat.reduceAdd] at hS))
    clear hcl
    go_loopg [6] n (fun gk vx wr => ∃ j : Nat, j = gk ∧ j ≤ n ∧ vx = .int .i64 ((j : Int) - 1) ∧ Hid (∀ x ∈ wl.drop j, x.place ≠ q) ∧ St w [] [Ch.blk g1 29 #[.slice (some ⟨b1, o1, none⟩) ns c1, .slice a2 n c2, .int .i64 fu, .bool false]] wr)
    case atStart => exact ⟨n, rfl, Nat.le_refl _, rfl, Lib.hid (by rw [List.drop_of_length_le (by have := hn.out; omega)]; simp), hS⟩
    case round =>
      clear hS
      obtain ⟨j, rfl, hjn, rfl, hrest, hS⟩ := hrel
      have hc2 := hS.old hc1 (by simp)
      cases j with
      | zero =>
        have hs := hsee0.out (by simpa using hrest.out)
        simp only [Option.getD_some] at hs
        subst hs
        clear hsee0 hsee1 hwc hrest hc1
        unfold rsc at hc2
        cases hbd : sq.bad with
        | true =>
          have ht : Dk.told sq = ([], 16) := by rw [Dk.told, if_pos hbd]
          rw [hbd, if_pos rfl] at hc2
          replace ht := Lib.hid ht
          clear hbd
          go_wp2_with (first | (with_reducible refine wpList_box_st hS rfl rfl rfl ?_; intro g1 w1 hS1; clear hS; replace hS := hS1; clear hS1) | (with_reducible refine wpList_box1_st hS rfl rfl rfl ?_; intro g1 w1 hS1; clear hS; replace hS := hS1; clear hS1) | (with_reducible refine wpList_alloc_st hS rfl rfl (by assumption) ?_; intro g1 w1 hS1; clear hS; replace hS := hS1; clear hS1) | (with_reducible refine wpList_alloc1_st hS rfl rfl (by assumption) rfl ?_; intro g1 w1 hS1; clear hS; replace hS := hS1; clear hS1) | ((with_reducible refine wpList_load_st 0 hS rfl rfl rfl rfl ?_ rfl ?_); focus (simp [scalarB, go_sem]; done)) | ((with_reducible refine wpList_loadall_st 0 hS rfl rfl rfl rfl ?_ (by kernel_rfl) ?_); focus (simp [rowB, go_sem]; done)) | ((with_reducible refine wpList_store_st 0 hS rfl rfl rfl rfl (by kernel_rfl) rfl rfl ?_); intro w1 hS1; clear hS; replace hS := hS1; clear hS1; try simp only [List.set_cons_zero, List.set_cons_succ, List.setIfInBounds_toArray, List.take_succ_cons, List.take_zero, List.drop_succ_cons, List.drop_zero, List.nil_append, List.cons_append, List.append_nil, List.drop_nil, List.take_nil, List.length_cons, List.length_nil, Nat.zero_add, Nat.add_zero, Nat.reduceAdd] at hS) | ((with_reducible refine wpList_storerow_st 0 hS rfl rfl rfl rfl (by kernel_rfl) rfl rfl rfl rfl ?_); intro w1 hS1; clear hS; replace hS := hS1; clear hS1; try simp only [List.set_cons_zero, List.set_cons_succ, List.setIfInBounds_toArray, List.take_succ_cons, List.take_zero, List.drop_succ_cons, List.drop_zero, List.nil_append, List.cons_append, List.append_nil, List.drop_nil, List.take_nil, List.length_cons, List.length_nil, Nat.zero_add, Nat.add_zero, Nat.reduceAdd] at hS))
          go_ret2
          exact ⟨by rw [ht.out]; rfl, hS.below⟩
        | false =>
          have ht : Dk.told sq = (sq.b, 0) := by rw [Dk.told, if_neg (by simp [hbd])]
          rw [hbd, if_neg (by simp)] at hc2
          have hB : (str sq.b).size = 64 := by rw [str_size, hsb]
          generalize hBe : str sq.b = B at *
          have hBt : B.toList.isEmpty = false := by rw [bytes_isEmpty, hB]; rfl
          replace ht := Lib.hid ht
          replace hBe := Lib.hid hBe
          clear hbd
          go_wp2_with (first | (with_reducible refine wpList_box_st hS rfl rfl rfl ?_; intro g1 w1 hS1; clear hS; replace hS := hS1; clear hS1) | (with_reducible refine wpList_box1_st hS rfl rfl rfl ?_; intro g1 w1 hS1; clear hS; replace hS := hS1; clear hS1) | (with_reducible refine wpList_alloc_st hS rfl rfl (by assumption) ?_; intro g1 w1 hS1; clear hS; replace hS := hS1; clear hS1) | (with_reducible refine wpList_alloc1_st hS rfl rfl (by assumption) rfl ?_; intro g1 w1 hS1; clear hS; replace hS := hS1; clear hS1) | ((with_reducible refine wpList_load_st 0 hS rfl rfl rfl rfl ?_ rfl ?_); focus (simp [scalarB, go_sem]; done)) | ((with_reducible refine wpList_loadall_st 0 hS rfl rfl rfl rfl ?_ (by kernel_rfl) ?_); focus (simp [rowB, go_sem]; done)) | ((with_reducible refine wpList_store_st 0 hS rfl rfl rfl rfl (by kernel_rfl) rfl rfl ?_); intro w1 hS1; clear hS; replace hS := hS1; clear hS1; try simp only [List.set_cons_zero, List.set_cons_succ, List.setIfInBounds_toArray, List.take_succ_cons, List.take_zero, List.drop_succ_cons, List.drop_zero, List.nil_append, List.cons_append, List.append_nil, List.drop_nil, List.take_nil, List.length_cons, List.length_nil, Nat.zero_add, Nat.add_zero, Nat.reduceAdd] at hS) | ((with_reducible refine wpList_storerow_st 0 hS rfl rfl rfl rfl (by kernel_rfl) rfl rfl rfl rfl ?_); intro w1 hS1; clear hS; replace hS := hS1; clear hS1; try simp only [List.set_cons_zero, List.set_cons_succ, List.setIfInBounds_toArray, List.take_succ_cons, List.take_zero, List.drop_succ_cons, List.drop_zero, List.nil_append, List.cons_append, List.append_nil, List.drop_nil, List.take_nil, List.length_cons, List.length_nil, Nat.zero_add, Nat.add_zero, Nat.reduceAdd] at hS))
          go_ret2
          exact ⟨by rw [ht.out, ← hBe.out]; rfl, hS.below⟩
      | succ j =>
        have hjl : j < wl.length := by have := hn.out; omega
        obtain ⟨b2, o2, rfl, hp, hb⟩ := hwc.out j hjl
        have hp2 := hS.old hp (by simp)
        have hb2 := hS.old hb (by simp)
        have hdrop := List.drop_eq_getElem_cons hjl
        have hs1 := hsee1.out j hjl
        generalize wl[j] = x at *
        obtain ⟨xp, xb⟩ := x
        simp only at hp2 hb2 hs1
        by_cases hx : xp = (q : Int)
        · subst hx
          have hs := hs1 rfl hrest.out
          have ht : Dk.told sq = (xb, 0) := by rw [hs]; rfl
          replace ht := Lib.hid ht
          clear hs hs1 hsee0 hsee1 hwc hdrop hp hb hc1 hc2 hrest
          go_wp2_with (first | (with_reducible refine wpList_box_st hS rfl rfl rfl ?_; intro g1 w1 hS1; clear hS; replace hS := hS1; clear hS1) | (with_reducible refine wpList_box1_st hS rfl rfl rfl ?_; intro g1 w1 hS1; clear hS; replace hS := hS1; clear hS1) | (with_reducible refine wpList_alloc_st hS rfl rfl (by assumption) ?_; intro g1 w1 hS1; clear hS; replace hS := hS1; clear hS1) | (with_reducible refine wpList_alloc1_st hS rfl rfl (by assumption) rfl ?_; intro g1 w1 hS1; clear hS; replace hS := hS1; clear hS1) | ((with_reducible refine wpList_load_st 0 hS rfl rfl rfl rfl ?_ rfl ?_); focus (simp [scalarB, go_sem]; done)) | ((with_reducible refine wpList_loadall_st 0 hS rfl rfl rfl rfl ?_ (by kernel_rfl) ?_); focus (simp [rowB, go_sem]; done)) | ((with_reducible refine wpList_store_st 0 hS rfl rfl rfl rfl (by kernel_rfl) rfl rfl ?_); intro w1 hS1; clear hS; replace hS := hS1; clear hS1; try simp only [List.set_cons_zero, List.set_cons_succ, List.setIfInBounds_toArray, List.take_succ_cons, List.take_zero, List.drop_succ_cons, List.drop_zero, List.nil_append, List.cons_append, List.append_nil, List.drop_nil, List.take_nil, List.length_cons, List.length_nil, Nat.zero_add, Nat.add_zero, Nat.reduceAdd] at hS) | ((with_reducible refine wpList_storerow_st 0 hS rfl rfl rfl rfl (by kernel_rfl) rfl rfl rfl rfl ?_); intro w1 hS1; clear hS; replace hS := hS1; clear hS1; try simp only [List.set_cons_zero, List.set_cons_succ, List.setIfInBounds_toArray, List.take_succ_cons, List.take_zero, List.drop_succ_cons, List.drop_zero, List.nil_append, List.cons_append, List.append_nil, List.drop_nil, List.take_nil, List.length_cons, List.length_nil, Nat.zero_add, Nat.add_zero, Nat.reduceAdd] at hS))
          go_ret2
          exact ⟨by rw [ht.out]; rfl, hS.below⟩
        · have hxe : (xp == (q : Int)) = false := by rw [beq_eq_false_iff_ne]; exact hx
          replace hrest : Hid (∀ x ∈ wl.drop j, x.place ≠ q) := Lib.hid (by
            rw [hdrop]
            intro y hy
            rcases List.mem_cons.1 hy with rfl | hy
            · exact hx
            · exact hrest.out y hy)
          clear hdrop hs1 hx
          go_wp2_with (first | (with_reducible refine wpList_box_st hS rfl rfl rfl ?_; intro g1 w1 hS1; clear hS; replace hS := hS1; clear hS1) | (with_reducible refine wpList_box1_st hS rfl rfl rfl ?_; intro g1 w1 hS1; clear hS; replace hS := hS1; clear hS1) | (with_reducible refine wpList_alloc_st hS rfl rfl (by assumption) ?_; intro g1 w1 hS1; clear hS; replace hS := hS1; clear hS1) | (with_reducible refine wpList_alloc1_st hS rfl rfl (by assumption) rfl ?_; intro g1 w1 hS1; clear hS; replace hS := hS1; clear hS1) | ((with_reducible refine wpList_load_st 0 hS rfl rfl rfl rfl ?_ rfl ?_); focus (simp [scalarB, go_sem]; done)) | ((with_reducible refine wpList_loadall_st 0 hS rfl rfl rfl rfl ?_ (by kernel_rfl) ?_); focus (simp [rowB, go_sem]; done)) | ((with_reducible refine wpList_store_st 0 hS rfl rfl rfl rfl (by kernel_rfl) rfl rfl ?_); intro w1 hS1; clear hS; replace hS := hS1; clear hS1; try simp only [List.set_cons_zero, List.set_cons_succ, List.setIfInBounds_toArray, List.take_succ_cons, List.take_zero, List.drop_succ_cons, List.drop_zero, List.nil_append, List.cons_append, List.append_nil, List.drop_nil, List.take_nil, List.length_cons, List.length_nil, Nat.zero_add, Nat.add_zero, Nat.reduceAdd] at hS) | ((with_reducible refine wpList_storerow_st 0 hS rfl rfl rfl rfl (by kernel_rfl) rfl rfl rfl rfl ?_); intro w1 hS1; clear hS; replace hS := hS1; clear hS1; try simp only [List.set_cons_zero, List.set_cons_succ, List.setIfInBounds_toArray, List.take_succ_cons, List.take_zero, List.drop_succ_cons, List.drop_zero, List.nil_append, List.cons_append, List.append_nil, List.drop_nil, List.take_nil, List.length_cons, List.length_nil, Nat.zero_add, Nat.add_zero, Nat.reduceAdd] at hS))
          go_roundg j
          case measure => omega
          case rel => exact ⟨j, rfl, by omega, by go_num, hrest, hS⟩
  · have hrd : d.read i = ([], d.ready i) := by rw [Dk.read, if_neg hr]
    rw [hrd]
    unfold Dk.ready at hr ⊢
    obtain ⟨n, hn⟩ : ∃ n, d.sec.length = n := ⟨_, rfl⟩
    rw [hn] at hl hr ⊢
    generalize d.wait.length = m at *
    generalize d.fuse = fu at *
    generalize d.dead = dd at *
    replace hn := Lib.hid hn
    clear hrd hs1 hs2 hok
    cases dd with
    | true =>
      clear hr
      go_enter Try.func68, Try.ntmps68
      go_wp2_with (first | (with_reducible refine wpList_box_st hS rfl rfl rfl ?_; intro g1 w1 hS1; clear hS; replace hS := hS1; clear hS1) | (with_reducible refine wpList_box1_st hS rfl rfl rfl ?_; intro g1 w1 hS1; clear hS; replace hS := hS1; clear hS1) | (with_reducible refine wpList_alloc_st hS rfl rfl (by assumption) ?_; intro g1 w1 hS1; clear hS; replace hS := hS1; clear hS1) | (with_reducible refine wpList_alloc1_st hS rfl rfl (by assumption) rfl ?_; intro g1 w1 hS1; clear hS; replace hS := hS1; clear hS1) | ((with_reducible refine wpList_load_st 0 hS rfl rfl rfl rfl ?_ rfl ?_); focus (simp [scalarB, go_sem]; done)) | ((with_reducible refine wpList_loadall_st 0 hS rfl rfl rfl rfl ?_ (by kernel_rfl) ?_); focus (simp [rowB, go_sem]; done)) | ((with_reducible refine wpList_store_st 0 hS rfl rfl rfl rfl (by kernel_rfl) rfl rfl ?_); intro w1 hS1; clear hS; replace hS := hS1; clear hS1; try simp only [List.set_cons_zero, List.set_cons_succ, List.setIfInBounds_toArray, List.take_succ_cons, List.take_zero, List.drop_succ_cons, List.drop_zero, List.nil_append, List.cons_append, List.append_nil, List.drop_nil, List.take_nil, List.length_cons, List.length_nil, Nat.zero_add, Nat.add_zero, Nat.reduceAdd] at hS) | ((with_reducible refine wpList_storerow_st 0 hS rfl rfl rfl rfl (by kernel_rfl) rfl rfl rfl rfl ?_); intro w1 hS1; clear hS; replace hS := hS1; clear hS1; try simp only [List.set_cons_zero, List.set_cons_succ, List.setIfInBounds_toArray, List.take_succ_cons, List.take_zero, List.drop_succ_cons, List.drop_zero, List.nil_append, List.cons_append, List.append_nil, List.drop_nil, List.take_nil, List.length_cons, List.length_nil, Nat.zero_add, Nat.add_zero, Nat.reduceAdd] at hS))
      go_ret2
      exact ⟨rfl, hS.below⟩
    | false =>
      rw [if_neg (by simp)] at hr ⊢
      by_cases h1 : i < 0
      · rw [if_pos (.inl h1)]
        clear hr
        go_enter Try.func68, Try.ntmps68
        go_wp2_with (first
          | ((with_reducible refine wpList_box_st hS rfl rfl rfl ?_); intro g1 w1 hS1; clear hS; have hS := hS1; clear hS1; have hcl := hS.cell 0 rfl)
          | (with_reducible refine wpList_box_st hS rfl rfl rfl ?_; intro g1 w1 hS1; clear hS; replace hS := hS1; clear hS1) | (with_reducible refine wpList_box1_st hS rfl rfl rfl ?_; intro g1 w1 hS1; clear hS; replace hS := hS1; clear hS1) | (with_reducible refine wpList_alloc_st hS rfl rfl (by assumption) ?_; intro g1 w1 hS1; clear hS; replace hS := hS1; clear hS1) | (with_reducible refine wpList_alloc1_st hS rfl rfl (by assumption) rfl ?_; intro g1 w1 hS1; clear hS; replace hS := hS1; clear hS1) | ((with_reducible refine wpList_load_st 0 hS rfl rfl rfl rfl ?_ rfl ?_); focus (simp [scalarB, go_sem]; done)) | ((with_reducible refine wpList_loadall_st 0 hS rfl rfl rfl rfl ?_ (by kernel_rfl) ?_); focus (simp [rowB, go_sem]; done)) | ((with_reducible refine wpList_store_st 0 hS rfl rfl rfl rfl (by kernel_rfl) rfl rfl ?_); intro w1 hS1; clear hS; replace hS := hS1; clear hS1; try simp only [List.set_cons_zero, List.set_cons_succ, List.setIfInBounds_toArray, List.take_succ_cons, List.take_zero, List.drop_succ_cons, List.drop_zero, List.nil_append, List.cons_append, List.append_nil, List.drop_nil, List.take_nil, List.length_cons, List.length_nil, Nat.zero_add, Nat.add_zero, Nat.reduceAdd] at hS) | ((with_reducible refine wpList_storerow_st 0 hS rfl rfl rfl rfl (by kernel_rfl) rfl rfl rfl rfl ?_); intro w1 hS1; clear hS; replace hS := hS1; clear hS1; try simp only [List.set_cons_zero, List.set_cons_succ, List.setIfInBounds_toArray, List.take_succ_cons, List.take_zero, List.drop_succ_cons, List.drop_zero, List.nil_append, List.cons_append, List.append_nil, List.drop_nil, List.take_nil, List.length_cons, List.length_nil, Nat.zero_add, Nat.add_zero, Nat.reduceAdd] at hS))
        go_ret2
        exact ⟨rfl, hS.below⟩
      · by_cases h2 : (n : Int) ≤ i
        · rw [if_pos (.inr h2)]
          clear hr
          go_enter Try.func68, Try.ntmps68
          go_wp2_with (first
            | ((with_reducible refine wpList_box_st hS rfl rfl rfl ?_); intro g1 w1 hS1; clear hS; have hS := hS1; clear hS1; have hcl := hS.cell 0 rfl)
            | (with_reducible refine wpList_box_st hS rfl rfl rfl ?_; intro g1 w1 hS1; clear hS; replace hS := hS1; clear hS1) | (with_reducible refine wpList_box1_st hS rfl rfl rfl ?_; intro g1 w1 hS1; clear hS; replace hS := hS1; clear hS1) | (with_reducible refine wpList_alloc_st hS rfl rfl (by assumption) ?_; intro g1 w1 hS1; clear hS; replace hS := hS1; clear hS1) | (with_reducible refine wpList_alloc1_st hS rfl rfl (by assumption) rfl ?_; intro g1 w1 hS1; clear hS; replace hS := hS1; clear hS1) | ((with_reducible refine wpList_load_st 0 hS rfl rfl rfl rfl ?_ rfl ?_); focus (simp [scalarB, go_sem]; done)) | ((with_reducible refine wpList_loadall_st 0 hS rfl rfl rfl rfl ?_ (by kernel_rfl) ?_); focus (simp [rowB, go_sem]; done)) | ((with_reducible refine wpList_store_st 0 hS rfl rfl rfl rfl (by kernel_rfl) rfl rfl ?_); intro w1 hS1; clear hS; replace hS := hS1; clear hS1; try simp only [List.set_cons_zero, List.set_cons_succ, List.setIfInBounds_toArray, List.take_succ_cons, List.take_zero, List.drop_succ_cons, List.drop_zero, List.nil_append, List.cons_append, List.append_nil, List.drop_nil, List.take_nil, List.length_cons, List.length_nil, Nat.zero_add, Nat.add_zero, Nat.reduceAdd] at hS) | ((with_reducible refine wpList_storerow_st 0 hS rfl rfl rfl rfl (by kernel_rfl) rfl rfl rfl rfl ?_); intro w1 hS1; clear hS; replace hS := hS1; clear hS1; try simp only [List.set_cons_zero, List.set_cons_succ, List.setIfInBounds_toArray, List.take_succ_cons, List.take_zero, List.drop_succ_cons, List.drop_zero, List.nil_append, List.cons_append, List.append_nil, List.drop_nil, List.take_nil, List.length_cons, List.length_nil, Nat.zero_add, Nat.add_zero, Nat.reduceAdd] at hS))
          go_ret2
          exact ⟨rfl, hS.below⟩
        · exact absurd (if_neg (by omega)) hr
end Go.Proofs.Ytlhpibniecfofaa
