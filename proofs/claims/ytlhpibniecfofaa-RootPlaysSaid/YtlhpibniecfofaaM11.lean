/- Texts laid together: DiskRef4 Root7R. -/
import Derived.Test.YtlhpibniecfofaaM10
import Derived.Test.YtlhpibniecfofaaM2
import Derived.Test.YtlhpibniecfofaaM5
import Derived.Test.YtlhpibniecfofaaM7
section
/- The reference's disks: Sync. -/
set_option linter.unusedSimpArgs false
set_option linter.unusedVariables false
namespace Go.Proofs.Ytlhpibniecfofaa
open Go.RowKit Go.Ofp
set_option linter.unusedVariables false
set_option maxRecDepth 100000
set_option maxHeartbeats 4000000

theorem rsync_main (g : Nat) (sv wv : Value) (d : Dk) (w : World) (h : St w (feet (rdk g sv wv d)) (rdk g sv wv d) w) (hok : d.Ok) (hdd : d.dead = false) (hsd : d.step.dead = false) (hl : d.sec.length ≤ 100000) (hw : d.wait.length ≤ 100000) (hf : -9223372036854775808 ≤ d.fuse ∧ d.fuse ≤ 9223372036854775807) :
    Calls Try.prog 67 #[.pointer (some ⟨g, 0, none⟩)] w fun e w' => e = .returned (.int .i64 0) ∧ ∃ sv' wv', St w (feet (rdk g sv wv d)) (rdk g sv' wv' { d.step with sec := Dk.done d.sec d.wait, wait := [] }) w' := by
  have cS := rstep_any g sv wv d w h hf hdd
  rw [hsd] at cS
  have hcell := rwt_cell d.wait
  have hwok := hok.wait
  have cP : ∀ (sv' : Value) (l : List Sc) (q : Nat) (x : List UInt8) (W : World), St W (feet (rdk g sv' wv { d.step with sec := l })) (rdk g sv' wv { d.step with sec := l }) W → q < l.length → l.length ≤ 100000 →
      Calls Try.prog 80 #[.pointer (some ⟨g, 0, none⟩), .int .i64 q, .string (str x)] W fun e w' => e = .returned (.tuple #[]) ∧ ∃ sv'', St W (feet (rdk g sv' wv { d.step with sec := l })) (rdk g sv'' wv { d.step with sec := l.set q ⟨x, false⟩ }) w' :=
    fun sv' l q x W h hq hl => rput_d g sv' wv { d.step with sec := l } q (str x) ⟨x, false⟩ W h hq hl (by simp [rsc])
  generalize feet (rdk g sv wv d) = F at cS h ⊢
  have hS0 := h
  unfold rdk at cS cP hS0 ⊢
  simp only [Dk.step_sec, Dk.step_wait, Dk.done_length, List.length_set, List.map_nil, List.flatten_nil, List.length_nil, hsd, hdd] at cS cP hS0 ⊢
  have c := hS0.cell 0 rfl
  clear h hok hf hS0
  generalize d.step.fuse = fz at cS cP ⊢
  clear hsd
  generalize d.wait = wl at *
  generalize d.sec = sec at *
  generalize (wl.map rwt).flatten = R2 at *
  obtain ⟨n, hn⟩ : ∃ n, wl.length = n := ⟨_, rfl⟩
  obtain ⟨ns, hns⟩ : ∃ n, sec.length = n := ⟨_, rfl⟩
  rw [hn] at hw
  rw [hns] at hwok hl ⊢
  rw [hn, hns] at cS
  rw [hn] at cP
  replace cS := Lib.hid cS
  replace cP := Lib.hid cP
  replace hcell := Lib.hid hcell
  replace hwok := Lib.hid hwok
  replace hn := Lib.hid hn
  replace hns := Lib.hid hns
  go_enter Try.func67, Try.ntmps67
  go_wp2_with (first
    | (go_at_call 81; (with_reducible refine cS.out.mono ?_); rintro _ w4 ⟨rfl, hS⟩; obtain ⟨av, cv, rfl, -⟩ := hS.row 1 rfl; obtain ⟨aw, cw, rfl, -⟩ := hS.row 2 rfl))
  clear cS
  go_loopg [3] n (fun gk vx wr => ∃ (j : Nat) (l : List Sc) (sv' : Value), j + gk = n ∧ vx = .int .i64 j ∧ Hid (l = Dk.done sec (wl.take j)) ∧ St w F [Ch.blk g 29 #[sv', .slice aw n cw, .int .i64 fz, .bool false], Ch.row 9 1 sv' l.length (l.map rsc), Ch.row 141 2 (.slice aw n cw) n R2] wr)
  case atStart => exact ⟨0, sec, _, Nat.zero_add _, rfl, Lib.hid rfl, by rw [hns.out]; exact hS⟩
  case round =>
    clear hS
    obtain ⟨j, l, sv', hjn, rfl, hl', hS⟩ := hrel
    have hll : l.length = ns := by rw [hl'.out, Dk.done_length, hns.out]
    by_cases hlt : j < n
    · have hj' : j < wl.length := by have := hn.out; omega
      obtain ⟨hc0, hc1⟩ := hcell.out j hj'
      obtain ⟨hp1, hp2, hw2⟩ := hwok.out wl[j] (List.getElem_mem hj')
      have hnext := done_next sec wl j hj'
      rw [← hl'.out] at hnext
      obtain ⟨gw, cw', hwv, -⟩ := hS.rowat 2 rfl (by omega)
      cases hwv
      generalize wl[j] = x at *
      obtain ⟨xp, xb⟩ := x
      simp only at hc0 hc1 hp1 hp2 hnext
      obtain ⟨q, rfl⟩ := Int.eq_ofNat_of_zero_le hp1
      rw [Int.toNat_natCast] at hnext
      have hq : q < l.length := by omega
      have cPj := fun W h => cP.out sv' l q xb W h hq (by omega)
      replace cPj := Lib.hid cPj
      replace hc0 := Lib.hid hc0
      replace hc1 := Lib.hid hc1
      replace hnext := Lib.hid hnext
      replace hll := Lib.hid hll
      obtain ⟨av', cv', hsv, -⟩ := hS.row 1 rfl
      subst hsv
      clear hcell hwok hl' hp1 hp2
      go_wp2_with (first | (with_reducible refine wpList_box_st hS rfl rfl rfl ?_; intro g1 w1 hS1; clear hS; replace hS := hS1; clear hS1) | (with_reducible refine wpList_box1_st hS rfl rfl rfl ?_; intro g1 w1 hS1; clear hS; replace hS := hS1; clear hS1) | (with_reducible refine wpList_alloc_st hS rfl rfl (by assumption) ?_; intro g1 w1 hS1; clear hS; replace hS := hS1; clear hS1) | (with_reducible refine wpList_alloc1_st hS rfl rfl (by assumption) rfl ?_; intro g1 w1 hS1; clear hS; replace hS := hS1; clear hS1) | ((with_reducible refine wpList_load_st 0 hS rfl rfl rfl rfl ?_ rfl ?_); focus (simp [scalarB, go_sem]; done)) | ((with_reducible refine wpList_loadall_st 0 hS rfl rfl rfl rfl ?_ (by kernel_rfl) ?_); focus (simp [rowB, go_sem]; done)) | ((with_reducible refine wpList_store_st 0 hS rfl rfl rfl rfl (by kernel_rfl) rfl rfl ?_); intro w1 hS1; clear hS; replace hS := hS1; clear hS1; try simp only [List.set_cons_zero, List.set_cons_succ, List.setIfInBounds_toArray, List.take_succ_cons, List.take_zero, List.drop_succ_cons, List.drop_zero, List.nil_append, List.cons_append, List.append_nil, List.drop_nil, List.take_nil, List.length_cons, List.length_nil, Nat.zero_add, Nat.add_zero, Nat.reduceAdd] at hS) | ((with_reducible refine wpList_storerow_st 0 hS rfl rfl rfl rfl (by kernel_rfl) rfl rfl rfl rfl ?_); intro w1 hS1; clear hS; replace hS := hS1; clear hS1; try simp only [List.set_cons_zero, List.set_cons_succ, List.setIfInBounds_toArray, List.take_succ_cons, List.take_zero, List.drop_succ_cons, List.drop_zero, List.nil_append, List.cons_append, List.append_nil, List.drop_nil, List.take_nil, List.length_cons, List.length_nil, Nat.zero_add, Nat.add_zero, Nat.reduceAdd] at hS))
      have hsi : scalarB Try.prog 3 = true := by simp [scalarB, go_sem]
      have hss : scalarB Try.prog 9 = true := by simp [scalarB, go_sem]
      refine mixs_beginE (by kernel_rfl) hS ?_
      clear hS
      intro w2 hS hC
      refine mixs_take 0 (v := ?_) rfl (by kernel_rfl) (fun _ _ _ h => h) (by kernel_rfl) (by assumption) (fun s => ?hy) ?_; case hy => (go_simp <;> with_reducible rfl)
      try simp only [List.getElem_toArray, List.getElem_cons_succ, List.getElem_cons_zero, Act.put, List.setIfInBounds_toArray, List.set_cons_zero, List.set_cons_succ]
      refine mixs_take 1 (v := ?_) rfl (by kernel_rfl) (fun _ _ _ h => h) (by kernel_rfl) (by assumption) (fun s => ?hy) ?_; case hy => (go_simp <;> with_reducible rfl)
      try simp only [List.getElem_toArray, List.getElem_cons_succ, List.getElem_cons_zero, Act.put, List.setIfInBounds_toArray, List.set_cons_zero, List.set_cons_succ]
      refine mixs_take 2 (v := ?_) rfl (by kernel_rfl) (fun _ _ _ h => h) (by kernel_rfl) (by assumption) (fun s => ?hy) ?_; case hy => (go_simp <;> with_reducible rfl)
      try simp only [List.getElem_toArray, List.getElem_cons_succ, List.getElem_cons_zero, Act.put, List.setIfInBounds_toArray, List.set_cons_zero, List.set_cons_succ]
      refine mixs_take 3 (v := ?_) rfl (by kernel_rfl) (fun _ _ _ h => h) (by kernel_rfl) (by assumption) (fun s => ?hy) ?_; case hy => (go_simp <;> with_reducible rfl)
      try simp only [List.getElem_toArray, List.getElem_cons_succ, List.getElem_cons_zero, Act.put, List.setIfInBounds_toArray, List.set_cons_zero, List.set_cons_succ]
      refine mixs_take 5 (v := ?_) rfl (by kernel_rfl) (fun _ _ _ h => h) (by kernel_rfl) (by assumption) (fun s => ?hy) ?_; case hy => (go_simp <;> with_reducible rfl)
      try simp only [List.getElem_toArray, List.getElem_cons_succ, List.getElem_cons_zero, Act.put, List.setIfInBounds_toArray, List.set_cons_zero, List.set_cons_succ]
      refine mixs_take 9 (v := ?_) rfl (by kernel_rfl) (fun _ _ _ h => h) (by kernel_rfl) (by assumption) (fun s => ?hy) ?_; case hy => (go_simp <;> with_reducible rfl)
      try simp only [List.getElem_toArray, List.getElem_cons_succ, List.getElem_cons_zero, Act.put, List.setIfInBounds_toArray, List.set_cons_zero, List.set_cons_succ]
      refine mixs_take 10 (v := ?_) rfl (by kernel_rfl) (fun _ _ _ h => h) (by kernel_rfl) (by assumption) (fun s => ?hy) ?_; case hy => (go_simp <;> with_reducible rfl)
      try simp only [List.getElem_toArray, List.getElem_cons_succ, List.getElem_cons_zero, Act.put, List.setIfInBounds_toArray, List.set_cons_zero, List.set_cons_succ]
      refine mixs_take 11 (v := ?_) rfl (by kernel_rfl) (fun _ _ _ h => h) (by kernel_rfl) (by assumption) (fun s => ?hy) ?_; case hy => (go_simp <;> with_reducible rfl)
      try simp only [List.getElem_toArray, List.getElem_cons_succ, List.getElem_cons_zero, Act.put, List.setIfInBounds_toArray, List.set_cons_zero, List.set_cons_succ]
      refine mixs_take 13 (v := ?_) rfl (by kernel_rfl) (fun _ _ _ h => h) (by kernel_rfl) (by assumption) (fun s => ?hy) ?_; case hy => (go_simp <;> with_reducible rfl)
      try simp only [List.getElem_toArray, List.getElem_cons_succ, List.getElem_cons_zero, Act.put, List.setIfInBounds_toArray, List.set_cons_zero, List.set_cons_succ]
      refine mixs_two 4 12 (by kernel_rfl) rfl rfl (fun K hK => ?_) (fun K hK => ?_)
      ·
        refine op_load_st (by kernel_rfl) 0 hS rfl rfl rfl (by simp [scalarB, go_sem]) rfl ?_
        try clear hC
        refine hK.out _ _ _ (fun _ h => h) (by first | exact hS | exact hS.drop | exact hS.drop.drop | exact hS.drop.drop.drop | exact hS.drop.drop.drop.drop | exact hS.empty | exact hS.one 0 rfl | exact hS.one 1 rfl | exact hS.one 2 rfl | exact hS.one 3 rfl | exact hS.one 4 rfl | exact hS.one 5 rfl | exact hS.one 6 rfl | exact hS.one 7 rfl | exact hS.one 8 rfl | exact hS.one 9 rfl | exact hS.one 10 rfl | exact hS.one 11 rfl) (fun hC => ?_)
        clear hK K
        try simp only [List.getElem_toArray, List.getElem_cons_succ, List.getElem_cons_zero, Act.put, List.setIfInBounds_toArray, List.set_cons_zero, List.set_cons_succ]
        refine mixs_take 6 (v := ?_) rfl (by kernel_rfl) (fun _ _ _ h => h) (by kernel_rfl) (by assumption) (fun s => ?hy) ?_; case hy => (go_simp <;> with_reducible rfl)
        try simp only [List.getElem_toArray, List.getElem_cons_succ, List.getElem_cons_zero, Act.put, List.setIfInBounds_toArray, List.set_cons_zero, List.set_cons_succ]
        refine mixs_take 7 (v := ?_) rfl (by kernel_rfl) (fun _ _ _ h => h) (by kernel_rfl) (by assumption) (fun s => ?hy) ?_; case hy => (go_simp <;> with_reducible rfl)
        try simp only [List.getElem_toArray, List.getElem_cons_succ, List.getElem_cons_zero, Act.put, List.setIfInBounds_toArray, List.set_cons_zero, List.set_cons_succ]
        refine mixs_two 8 12 (by kernel_rfl) rfl rfl (fun K hK => ?_) (fun K hK => ?_)
        ·
          ( first | (refine op_loadcell_st (by kernel_rfl) 2 hS rfl rfl rfl hsi hc0.out ?_) | (refine op_loadcell_st (by kernel_rfl) 2 hS rfl rfl rfl hss hc1.out ?_) | (go_at_call 80; (with_reducible refine (cPj.out _ hS.pre0).mono ?_); rintro _ w5 ⟨rfl, sv5, hk⟩; have hS1 := hS.call0 hk; clear hS hk; have hS := hS1; clear hS1) )
          try clear hC
          refine hK.out _ _ _ (fun _ h => h) (by first | exact hS | exact hS.drop | exact hS.drop.drop | exact hS.drop.drop.drop | exact hS.drop.drop.drop.drop | exact hS.empty | exact hS.one 0 rfl | exact hS.one 1 rfl | exact hS.one 2 rfl | exact hS.one 3 rfl | exact hS.one 4 rfl | exact hS.one 5 rfl | exact hS.one 6 rfl | exact hS.one 7 rfl | exact hS.one 8 rfl | exact hS.one 9 rfl | exact hS.one 10 rfl | exact hS.one 11 rfl) (fun hC => ?_)
          clear hK K
          try simp only [List.getElem_toArray, List.getElem_cons_succ, List.getElem_cons_zero, Act.put, List.setIfInBounds_toArray, List.set_cons_zero, List.set_cons_succ]
          refine mixs_one 12 (by kernel_rfl) rfl (fun K hK => ?_)
          refine op_load_st (by kernel_rfl) 0 hS rfl rfl rfl (by simp [scalarB, go_sem]) rfl ?_
          try clear hC
          refine hK.out _ _ _ (fun _ h => h) (by first | exact hS | exact hS.drop | exact hS.drop.drop | exact hS.drop.drop.drop | exact hS.drop.drop.drop.drop | exact hS.empty | exact hS.one 0 rfl | exact hS.one 1 rfl | exact hS.one 2 rfl | exact hS.one 3 rfl | exact hS.one 4 rfl | exact hS.one 5 rfl | exact hS.one 6 rfl | exact hS.one 7 rfl | exact hS.one 8 rfl | exact hS.one 9 rfl | exact hS.one 10 rfl | exact hS.one 11 rfl) (fun hC => ?_)
          clear hK K
          try simp only [List.getElem_toArray, List.getElem_cons_succ, List.getElem_cons_zero, Act.put, List.setIfInBounds_toArray, List.set_cons_zero, List.set_cons_succ]
          refine mixs_take 14 (v := ?_) rfl (by kernel_rfl) (fun _ _ _ h => h) (by kernel_rfl) (by assumption) (fun s => ?hy) ?_; case hy => (go_simp <;> with_reducible rfl)
          try simp only [List.getElem_toArray, List.getElem_cons_succ, List.getElem_cons_zero, Act.put, List.setIfInBounds_toArray, List.set_cons_zero, List.set_cons_succ]
          refine mixs_take 15 (v := ?_) rfl (by kernel_rfl) (fun _ _ _ h => h) (by kernel_rfl) (by assumption) (fun s => ?hy) ?_; case hy => (go_simp <;> with_reducible rfl)
          try simp only [List.getElem_toArray, List.getElem_cons_succ, List.getElem_cons_zero, Act.put, List.setIfInBounds_toArray, List.set_cons_zero, List.set_cons_succ]
          refine mixs_one 16 (by kernel_rfl) rfl (fun K hK => ?_)
          ( first | (refine op_loadcell_st (by kernel_rfl) 2 hS rfl rfl rfl hsi hc0.out ?_) | (refine op_loadcell_st (by kernel_rfl) 2 hS rfl rfl rfl hss hc1.out ?_) | (go_at_call 80; (with_reducible refine (cPj.out _ hS.pre0).mono ?_); rintro _ w5 ⟨rfl, sv5, hk⟩; have hS1 := hS.call0 hk; clear hS hk; have hS := hS1; clear hS1) )
          try clear hC
          refine hK.out _ _ _ (fun _ h => h) (by first | exact hS | exact hS.drop | exact hS.drop.drop | exact hS.drop.drop.drop | exact hS.drop.drop.drop.drop | exact hS.empty | exact hS.one 0 rfl | exact hS.one 1 rfl | exact hS.one 2 rfl | exact hS.one 3 rfl | exact hS.one 4 rfl | exact hS.one 5 rfl | exact hS.one 6 rfl | exact hS.one 7 rfl | exact hS.one 8 rfl | exact hS.one 9 rfl | exact hS.one 10 rfl | exact hS.one 11 rfl) (fun hC => ?_)
          clear hK K
          try simp only [List.getElem_toArray, List.getElem_cons_succ, List.getElem_cons_zero, Act.put, List.setIfInBounds_toArray, List.set_cons_zero, List.set_cons_succ]
          refine mixs_one 17 (by kernel_rfl) rfl (fun K hK => ?_)
          go_simp
          ( first | (refine op_loadcell_st (by kernel_rfl) 2 hS rfl rfl rfl hsi hc0.out ?_) | (refine op_loadcell_st (by kernel_rfl) 2 hS rfl rfl rfl hss hc1.out ?_) | (go_at_call 80; (with_reducible refine (cPj.out _ hS.pre0).mono ?_); rintro _ w5 ⟨rfl, sv5, hk⟩; have hS1 := hS.call0 hk; clear hS hk; have hS := hS1; clear hS1) )
          try clear hC
          refine hK.out _ _ _ (fun _ h => h) (by first | exact hS | exact hS.drop | exact hS.drop.drop | exact hS.drop.drop.drop | exact hS.drop.drop.drop.drop | exact hS.empty | exact hS.one 0 rfl | exact hS.one 1 rfl | exact hS.one 2 rfl | exact hS.one 3 rfl | exact hS.one 4 rfl | exact hS.one 5 rfl | exact hS.one 6 rfl | exact hS.one 7 rfl | exact hS.one 8 rfl | exact hS.one 9 rfl | exact hS.one 10 rfl | exact hS.one 11 rfl) (fun hC => ?_)
          clear hK K
          try simp only [List.getElem_toArray, List.getElem_cons_succ, List.getElem_cons_zero, Act.put, List.setIfInBounds_toArray, List.set_cons_zero, List.set_cons_succ]
          refine wpAnyH_done (by kernel_rfl) ?_ _
          try clear hC
          go_wp2_with fail
          go_roundg (n - (j + 1))
          case measure => omega
          case rel => exact ⟨j + 1, l.set q ⟨xb, false⟩, _, by omega, by go_num, Lib.hid hnext.out.symm, by rw [List.length_set]; exact hS⟩
        ·
          refine op_load_st (by kernel_rfl) 0 hS rfl rfl rfl (by simp [scalarB, go_sem]) rfl ?_
          try clear hC
          refine hK.out _ _ _ (fun _ h => h) (by first | exact hS | exact hS.drop | exact hS.drop.drop | exact hS.drop.drop.drop | exact hS.drop.drop.drop.drop | exact hS.empty | exact hS.one 0 rfl | exact hS.one 1 rfl | exact hS.one 2 rfl | exact hS.one 3 rfl | exact hS.one 4 rfl | exact hS.one 5 rfl | exact hS.one 6 rfl | exact hS.one 7 rfl | exact hS.one 8 rfl | exact hS.one 9 rfl | exact hS.one 10 rfl | exact hS.one 11 rfl) (fun hC => ?_)
          clear hK K
          try simp only [List.getElem_toArray, List.getElem_cons_succ, List.getElem_cons_zero, Act.put, List.setIfInBounds_toArray, List.set_cons_zero, List.set_cons_succ]
          refine mixs_take 14 (v := ?_) rfl (by kernel_rfl) (fun _ _ _ h => h) (by kernel_rfl) (by assumption) (fun s => ?hy) ?_; case hy => (go_simp <;> with_reducible rfl)
          try simp only [List.getElem_toArray, List.getElem_cons_succ, List.getElem_cons_zero, Act.put, List.setIfInBounds_toArray, List.set_cons_zero, List.set_cons_succ]
          refine mixs_take 15 (v := ?_) rfl (by kernel_rfl) (fun _ _ _ h => h) (by kernel_rfl) (by assumption) (fun s => ?hy) ?_; case hy => (go_simp <;> with_reducible rfl)
          try simp only [List.getElem_toArray, List.getElem_cons_succ, List.getElem_cons_zero, Act.put, List.setIfInBounds_toArray, List.set_cons_zero, List.set_cons_succ]
          refine mixs_two 8 16 (by kernel_rfl) rfl rfl (fun K hK => ?_) (fun K hK => ?_)
          ·
            ( first | (refine op_loadcell_st (by kernel_rfl) 2 hS rfl rfl rfl hsi hc0.out ?_) | (refine op_loadcell_st (by kernel_rfl) 2 hS rfl rfl rfl hss hc1.out ?_) | (go_at_call 80; (with_reducible refine (cPj.out _ hS.pre0).mono ?_); rintro _ w5 ⟨rfl, sv5, hk⟩; have hS1 := hS.call0 hk; clear hS hk; have hS := hS1; clear hS1) )
            try clear hC
            refine hK.out _ _ _ (fun _ h => h) (by first | exact hS | exact hS.drop | exact hS.drop.drop | exact hS.drop.drop.drop | exact hS.drop.drop.drop.drop | exact hS.empty | exact hS.one 0 rfl | exact hS.one 1 rfl | exact hS.one 2 rfl | exact hS.one 3 rfl | exact hS.one 4 rfl | exact hS.one 5 rfl | exact hS.one 6 rfl | exact hS.one 7 rfl | exact hS.one 8 rfl | exact hS.one 9 rfl | exact hS.one 10 rfl | exact hS.one 11 rfl) (fun hC => ?_)
            clear hK K
            try simp only [List.getElem_toArray, List.getElem_cons_succ, List.getElem_cons_zero, Act.put, List.setIfInBounds_toArray, List.set_cons_zero, List.set_cons_succ]
            refine mixs_one 16 (by kernel_rfl) rfl (fun K hK => ?_)
            ( first | (refine op_loadcell_st (by kernel_rfl) 2 hS rfl rfl rfl hsi hc0.out ?_) | (refine op_loadcell_st (by kernel_rfl) 2 hS rfl rfl rfl hss hc1.out ?_) | (go_at_call 80; (with_reducible refine (cPj.out _ hS.pre0).mono ?_); rintro _ w5 ⟨rfl, sv5, hk⟩; have hS1 := hS.call0 hk; clear hS hk; have hS := hS1; clear hS1) )
            try clear hC
            refine hK.out _ _ _ (fun _ h => h) (by first | exact hS | exact hS.drop | exact hS.drop.drop | exact hS.drop.drop.drop | exact hS.drop.drop.drop.drop | exact hS.empty | exact hS.one 0 rfl | exact hS.one 1 rfl | exact hS.one 2 rfl | exact hS.one 3 rfl | exact hS.one 4 rfl | exact hS.one 5 rfl | exact hS.one 6 rfl | exact hS.one 7 rfl | exact hS.one 8 rfl | exact hS.one 9 rfl | exact hS.one 10 rfl | exact hS.one 11 rfl) (fun hC => ?_)
            clear hK K
            try simp only [List.getElem_toArray, List.getElem_cons_succ, List.getElem_cons_zero, Act.put, List.setIfInBounds_toArray, List.set_cons_zero, List.set_cons_succ]
            refine mixs_one 17 (by kernel_rfl) rfl (fun K hK => ?_)
            go_simp
            ( first | (refine op_loadcell_st (by kernel_rfl) 2 hS rfl rfl rfl hsi hc0.out ?_) | (refine op_loadcell_st (by kernel_rfl) 2 hS rfl rfl rfl hss hc1.out ?_) | (go_at_call 80; (with_reducible refine (cPj.out _ hS.pre0).mono ?_); rintro _ w5 ⟨rfl, sv5, hk⟩; have hS1 := hS.call0 hk; clear hS hk; have hS := hS1; clear hS1) )
            try clear hC
            refine hK.out _ _ _ (fun _ h => h) (by first | exact hS | exact hS.drop | exact hS.drop.drop | exact hS.drop.drop.drop | exact hS.drop.drop.drop.drop | exact hS.empty | exact hS.one 0 rfl | exact hS.one 1 rfl | exact hS.one 2 rfl | exact hS.one 3 rfl | exact hS.one 4 rfl | exact hS.one 5 rfl | exact hS.one 6 rfl | exact hS.one 7 rfl | exact hS.one 8 rfl | exact hS.one 9 rfl | exact hS.one 10 rfl | exact hS.one 11 rfl) (fun hC => ?_)
            clear hK K
            try simp only [List.getElem_toArray, List.getElem_cons_succ, List.getElem_cons_zero, Act.put, List.setIfInBounds_toArray, List.set_cons_zero, List.set_cons_succ]
            refine wpAnyH_done (by kernel_rfl) ?_ _
            try clear hC
            go_wp2_with fail
            go_roundg (n - (j + 1))
            case measure => omega
            case rel => exact ⟨j + 1, l.set q ⟨xb, false⟩, _, by omega, by go_num, Lib.hid hnext.out.symm, by rw [List.length_set]; exact hS⟩
          ·
            ( first | (refine op_loadcell_st (by kernel_rfl) 2 hS rfl rfl rfl hsi hc0.out ?_) | (refine op_loadcell_st (by kernel_rfl) 2 hS rfl rfl rfl hss hc1.out ?_) | (go_at_call 80; (with_reducible refine (cPj.out _ hS.pre0).mono ?_); rintro _ w5 ⟨rfl, sv5, hk⟩; have hS1 := hS.call0 hk; clear hS hk; have hS := hS1; clear hS1) )
            try clear hC
            refine hK.out _ _ _ (fun _ h => h) (by first | exact hS | exact hS.drop | exact hS.drop.drop | exact hS.drop.drop.drop | exact hS.drop.drop.drop.drop | exact hS.empty | exact hS.one 0 rfl | exact hS.one 1 rfl | exact hS.one 2 rfl | exact hS.one 3 rfl | exact hS.one 4 rfl | exact hS.one 5 rfl | exact hS.one 6 rfl | exact hS.one 7 rfl | exact hS.one 8 rfl | exact hS.one 9 rfl | exact hS.one 10 rfl | exact hS.one 11 rfl) (fun hC => ?_)
            clear hK K
            try simp only [List.getElem_toArray, List.getElem_cons_succ, List.getElem_cons_zero, Act.put, List.setIfInBounds_toArray, List.set_cons_zero, List.set_cons_succ]
            refine mixs_one 8 (by kernel_rfl) rfl (fun K hK => ?_)
            ( first | (refine op_loadcell_st (by kernel_rfl) 2 hS rfl rfl rfl hsi hc0.out ?_) | (refine op_loadcell_st (by kernel_rfl) 2 hS rfl rfl rfl hss hc1.out ?_) | (go_at_call 80; (with_reducible refine (cPj.out _ hS.pre0).mono ?_); rintro _ w5 ⟨rfl, sv5, hk⟩; have hS1 := hS.call0 hk; clear hS hk; have hS := hS1; clear hS1) )
            try clear hC
            refine hK.out _ _ _ (fun _ h => h) (by first | exact hS | exact hS.drop | exact hS.drop.drop | exact hS.drop.drop.drop | exact hS.drop.drop.drop.drop | exact hS.empty | exact hS.one 0 rfl | exact hS.one 1 rfl | exact hS.one 2 rfl | exact hS.one 3 rfl | exact hS.one 4 rfl | exact hS.one 5 rfl | exact hS.one 6 rfl | exact hS.one 7 rfl | exact hS.one 8 rfl | exact hS.one 9 rfl | exact hS.one 10 rfl | exact hS.one 11 rfl) (fun hC => ?_)
            clear hK K
            try simp only [List.getElem_toArray, List.getElem_cons_succ, List.getElem_cons_zero, Act.put, List.setIfInBounds_toArray, List.set_cons_zero, List.set_cons_succ]
            refine mixs_one 17 (by kernel_rfl) rfl (fun K hK => ?_)
            go_simp
            ( first | (refine op_loadcell_st (by kernel_rfl) 2 hS rfl rfl rfl hsi hc0.out ?_) | (refine op_loadcell_st (by kernel_rfl) 2 hS rfl rfl rfl hss hc1.out ?_) | (go_at_call 80; (with_reducible refine (cPj.out _ hS.pre0).mono ?_); rintro _ w5 ⟨rfl, sv5, hk⟩; have hS1 := hS.call0 hk; clear hS hk; have hS := hS1; clear hS1) )
            try clear hC
            refine hK.out _ _ _ (fun _ h => h) (by first | exact hS | exact hS.drop | exact hS.drop.drop | exact hS.drop.drop.drop | exact hS.drop.drop.drop.drop | exact hS.empty | exact hS.one 0 rfl | exact hS.one 1 rfl | exact hS.one 2 rfl | exact hS.one 3 rfl | exact hS.one 4 rfl | exact hS.one 5 rfl | exact hS.one 6 rfl | exact hS.one 7 rfl | exact hS.one 8 rfl | exact hS.one 9 rfl | exact hS.one 10 rfl | exact hS.one 11 rfl) (fun hC => ?_)
            clear hK K
            try simp only [List.getElem_toArray, List.getElem_cons_succ, List.getElem_cons_zero, Act.put, List.setIfInBounds_toArray, List.set_cons_zero, List.set_cons_succ]
            refine wpAnyH_done (by kernel_rfl) ?_ _
            try clear hC
            go_wp2_with fail
            go_roundg (n - (j + 1))
            case measure => omega
            case rel => exact ⟨j + 1, l.set q ⟨xb, false⟩, _, by omega, by go_num, Lib.hid hnext.out.symm, by rw [List.length_set]; exact hS⟩
      ·
        refine op_load_st (by kernel_rfl) 0 hS rfl rfl rfl (by simp [scalarB, go_sem]) rfl ?_
        try clear hC
        refine hK.out _ _ _ (fun _ h => h) (by first | exact hS | exact hS.drop | exact hS.drop.drop | exact hS.drop.drop.drop | exact hS.drop.drop.drop.drop | exact hS.empty | exact hS.one 0 rfl | exact hS.one 1 rfl | exact hS.one 2 rfl | exact hS.one 3 rfl | exact hS.one 4 rfl | exact hS.one 5 rfl | exact hS.one 6 rfl | exact hS.one 7 rfl | exact hS.one 8 rfl | exact hS.one 9 rfl | exact hS.one 10 rfl | exact hS.one 11 rfl) (fun hC => ?_)
        clear hK K
        try simp only [List.getElem_toArray, List.getElem_cons_succ, List.getElem_cons_zero, Act.put, List.setIfInBounds_toArray, List.set_cons_zero, List.set_cons_succ]
        refine mixs_take 14 (v := ?_) rfl (by kernel_rfl) (fun _ _ _ h => h) (by kernel_rfl) (by assumption) (fun s => ?hy) ?_; case hy => (go_simp <;> with_reducible rfl)
        try simp only [List.getElem_toArray, List.getElem_cons_succ, List.getElem_cons_zero, Act.put, List.setIfInBounds_toArray, List.set_cons_zero, List.set_cons_succ]
        refine mixs_take 15 (v := ?_) rfl (by kernel_rfl) (fun _ _ _ h => h) (by kernel_rfl) (by assumption) (fun s => ?hy) ?_; case hy => (go_simp <;> with_reducible rfl)
        try simp only [List.getElem_toArray, List.getElem_cons_succ, List.getElem_cons_zero, Act.put, List.setIfInBounds_toArray, List.set_cons_zero, List.set_cons_succ]
        refine mixs_two 4 16 (by kernel_rfl) rfl rfl (fun K hK => ?_) (fun K hK => ?_)
        ·
          refine op_load_st (by kernel_rfl) 0 hS rfl rfl rfl (by simp [scalarB, go_sem]) rfl ?_
          try clear hC
          refine hK.out _ _ _ (fun _ h => h) (by first | exact hS | exact hS.drop | exact hS.drop.drop | exact hS.drop.drop.drop | exact hS.drop.drop.drop.drop | exact hS.empty | exact hS.one 0 rfl | exact hS.one 1 rfl | exact hS.one 2 rfl | exact hS.one 3 rfl | exact hS.one 4 rfl | exact hS.one 5 rfl | exact hS.one 6 rfl | exact hS.one 7 rfl | exact hS.one 8 rfl | exact hS.one 9 rfl | exact hS.one 10 rfl | exact hS.one 11 rfl) (fun hC => ?_)
          clear hK K
          try simp only [List.getElem_toArray, List.getElem_cons_succ, List.getElem_cons_zero, Act.put, List.setIfInBounds_toArray, List.set_cons_zero, List.set_cons_succ]
          refine mixs_take 6 (v := ?_) rfl (by kernel_rfl) (fun _ _ _ h => h) (by kernel_rfl) (by assumption) (fun s => ?hy) ?_; case hy => (go_simp <;> with_reducible rfl)
          try simp only [List.getElem_toArray, List.getElem_cons_succ, List.getElem_cons_zero, Act.put, List.setIfInBounds_toArray, List.set_cons_zero, List.set_cons_succ]
          refine mixs_take 7 (v := ?_) rfl (by kernel_rfl) (fun _ _ _ h => h) (by kernel_rfl) (by assumption) (fun s => ?hy) ?_; case hy => (go_simp <;> with_reducible rfl)
          try simp only [List.getElem_toArray, List.getElem_cons_succ, List.getElem_cons_zero, Act.put, List.setIfInBounds_toArray, List.set_cons_zero, List.set_cons_succ]
          refine mixs_two 8 16 (by kernel_rfl) rfl rfl (fun K hK => ?_) (fun K hK => ?_)
          ·
            ( first | (refine op_loadcell_st (by kernel_rfl) 2 hS rfl rfl rfl hsi hc0.out ?_) | (refine op_loadcell_st (by kernel_rfl) 2 hS rfl rfl rfl hss hc1.out ?_) | (go_at_call 80; (with_reducible refine (cPj.out _ hS.pre0).mono ?_); rintro _ w5 ⟨rfl, sv5, hk⟩; have hS1 := hS.call0 hk; clear hS hk; have hS := hS1; clear hS1) )
            try clear hC
            refine hK.out _ _ _ (fun _ h => h) (by first | exact hS | exact hS.drop | exact hS.drop.drop | exact hS.drop.drop.drop | exact hS.drop.drop.drop.drop | exact hS.empty | exact hS.one 0 rfl | exact hS.one 1 rfl | exact hS.one 2 rfl | exact hS.one 3 rfl | exact hS.one 4 rfl | exact hS.one 5 rfl | exact hS.one 6 rfl | exact hS.one 7 rfl | exact hS.one 8 rfl | exact hS.one 9 rfl | exact hS.one 10 rfl | exact hS.one 11 rfl) (fun hC => ?_)
            clear hK K
            try simp only [List.getElem_toArray, List.getElem_cons_succ, List.getElem_cons_zero, Act.put, List.setIfInBounds_toArray, List.set_cons_zero, List.set_cons_succ]
            refine mixs_one 16 (by kernel_rfl) rfl (fun K hK => ?_)
            ( first | (refine op_loadcell_st (by kernel_rfl) 2 hS rfl rfl rfl hsi hc0.out ?_) | (refine op_loadcell_st (by kernel_rfl) 2 hS rfl rfl rfl hss hc1.out ?_) | (go_at_call 80; (with_reducible refine (cPj.out _ hS.pre0).mono ?_); rintro _ w5 ⟨rfl, sv5, hk⟩; have hS1 := hS.call0 hk; clear hS hk; have hS := hS1; clear hS1) )
            try clear hC
            refine hK.out _ _ _ (fun _ h => h) (by first | exact hS | exact hS.drop | exact hS.drop.drop | exact hS.drop.drop.drop | exact hS.drop.drop.drop.drop | exact hS.empty | exact hS.one 0 rfl | exact hS.one 1 rfl | exact hS.one 2 rfl | exact hS.one 3 rfl | exact hS.one 4 rfl | exact hS.one 5 rfl | exact hS.one 6 rfl | exact hS.one 7 rfl | exact hS.one 8 rfl | exact hS.one 9 rfl | exact hS.one 10 rfl | exact hS.one 11 rfl) (fun hC => ?_)
            clear hK K
            try simp only [List.getElem_toArray, List.getElem_cons_succ, List.getElem_cons_zero, Act.put, List.setIfInBounds_toArray, List.set_cons_zero, List.set_cons_succ]
            refine mixs_one 17 (by kernel_rfl) rfl (fun K hK => ?_)
            go_simp
            ( first | (refine op_loadcell_st (by kernel_rfl) 2 hS rfl rfl rfl hsi hc0.out ?_) | (refine op_loadcell_st (by kernel_rfl) 2 hS rfl rfl rfl hss hc1.out ?_) | (go_at_call 80; (with_reducible refine (cPj.out _ hS.pre0).mono ?_); rintro _ w5 ⟨rfl, sv5, hk⟩; have hS1 := hS.call0 hk; clear hS hk; have hS := hS1; clear hS1) )
            try clear hC
            refine hK.out _ _ _ (fun _ h => h) (by first | exact hS | exact hS.drop | exact hS.drop.drop | exact hS.drop.drop.drop | exact hS.drop.drop.drop.drop | exact hS.empty | exact hS.one 0 rfl | exact hS.one 1 rfl | exact hS.one 2 rfl | exact hS.one 3 rfl | exact hS.one 4 rfl | exact hS.one 5 rfl | exact hS.one 6 rfl | exact hS.one 7 rfl | exact hS.one 8 rfl | exact hS.one 9 rfl | exact hS.one 10 rfl | exact hS.one 11 rfl) (fun hC => ?_)
            clear hK K
            try simp only [List.getElem_toArray, List.getElem_cons_succ, List.getElem_cons_zero, Act.put, List.setIfInBounds_toArray, List.set_cons_zero, List.set_cons_succ]
            refine wpAnyH_done (by kernel_rfl) ?_ _
            try clear hC
            go_wp2_with fail
            go_roundg (n - (j + 1))
            case measure => omega
            case rel => exact ⟨j + 1, l.set q ⟨xb, false⟩, _, by omega, by go_num, Lib.hid hnext.out.symm, by rw [List.length_set]; exact hS⟩
          ·
            ( first | (refine op_loadcell_st (by kernel_rfl) 2 hS rfl rfl rfl hsi hc0.out ?_) | (refine op_loadcell_st (by kernel_rfl) 2 hS rfl rfl rfl hss hc1.out ?_) | (go_at_call 80; (with_reducible refine (cPj.out _ hS.pre0).mono ?_); rintro _ w5 ⟨rfl, sv5, hk⟩; have hS1 := hS.call0 hk; clear hS hk; have hS := hS1; clear hS1) )
            try clear hC
            refine hK.out _ _ _ (fun _ h => h) (by first | exact hS | exact hS.drop | exact hS.drop.drop | exact hS.drop.drop.drop | exact hS.drop.drop.drop.drop | exact hS.empty | exact hS.one 0 rfl | exact hS.one 1 rfl | exact hS.one 2 rfl | exact hS.one 3 rfl | exact hS.one 4 rfl | exact hS.one 5 rfl | exact hS.one 6 rfl | exact hS.one 7 rfl | exact hS.one 8 rfl | exact hS.one 9 rfl | exact hS.one 10 rfl | exact hS.one 11 rfl) (fun hC => ?_)
            clear hK K
            try simp only [List.getElem_toArray, List.getElem_cons_succ, List.getElem_cons_zero, Act.put, List.setIfInBounds_toArray, List.set_cons_zero, List.set_cons_succ]
            refine mixs_one 8 (by kernel_rfl) rfl (fun K hK => ?_)
            ( first | (refine op_loadcell_st (by kernel_rfl) 2 hS rfl rfl rfl hsi hc0.out ?_) | (refine op_loadcell_st (by kernel_rfl) 2 hS rfl rfl rfl hss hc1.out ?_) | (go_at_call 80; (with_reducible refine (cPj.out _ hS.pre0).mono ?_); rintro _ w5 ⟨rfl, sv5, hk⟩; have hS1 := hS.call0 hk; clear hS hk; have hS := hS1; clear hS1) )
            try clear hC
            refine hK.out _ _ _ (fun _ h => h) (by first | exact hS | exact hS.drop | exact hS.drop.drop | exact hS.drop.drop.drop | exact hS.drop.drop.drop.drop | exact hS.empty | exact hS.one 0 rfl | exact hS.one 1 rfl | exact hS.one 2 rfl | exact hS.one 3 rfl | exact hS.one 4 rfl | exact hS.one 5 rfl | exact hS.one 6 rfl | exact hS.one 7 rfl | exact hS.one 8 rfl | exact hS.one 9 rfl | exact hS.one 10 rfl | exact hS.one 11 rfl) (fun hC => ?_)
            clear hK K
            try simp only [List.getElem_toArray, List.getElem_cons_succ, List.getElem_cons_zero, Act.put, List.setIfInBounds_toArray, List.set_cons_zero, List.set_cons_succ]
            refine mixs_one 17 (by kernel_rfl) rfl (fun K hK => ?_)
            go_simp
            ( first | (refine op_loadcell_st (by kernel_rfl) 2 hS rfl rfl rfl hsi hc0.out ?_) | (refine op_loadcell_st (by kernel_rfl) 2 hS rfl rfl rfl hss hc1.out ?_) | (go_at_call 80; (with_reducible refine (cPj.out _ hS.pre0).mono ?_); rintro _ w5 ⟨rfl, sv5, hk⟩; have hS1 := hS.call0 hk; clear hS hk; have hS := hS1; clear hS1) )
            try clear hC
            refine hK.out _ _ _ (fun _ h => h) (by first | exact hS | exact hS.drop | exact hS.drop.drop | exact hS.drop.drop.drop | exact hS.drop.drop.drop.drop | exact hS.empty | exact hS.one 0 rfl | exact hS.one 1 rfl | exact hS.one 2 rfl | exact hS.one 3 rfl | exact hS.one 4 rfl | exact hS.one 5 rfl | exact hS.one 6 rfl | exact hS.one 7 rfl | exact hS.one 8 rfl | exact hS.one 9 rfl | exact hS.one 10 rfl | exact hS.one 11 rfl) (fun hC => ?_)
            clear hK K
            try simp only [List.getElem_toArray, List.getElem_cons_succ, List.getElem_cons_zero, Act.put, List.setIfInBounds_toArray, List.set_cons_zero, List.set_cons_succ]
            refine wpAnyH_done (by kernel_rfl) ?_ _
            try clear hC
            go_wp2_with fail
            go_roundg (n - (j + 1))
            case measure => omega
            case rel => exact ⟨j + 1, l.set q ⟨xb, false⟩, _, by omega, by go_num, Lib.hid hnext.out.symm, by rw [List.length_set]; exact hS⟩
        ·
          ( first | (refine op_loadcell_st (by kernel_rfl) 2 hS rfl rfl rfl hsi hc0.out ?_) | (refine op_loadcell_st (by kernel_rfl) 2 hS rfl rfl rfl hss hc1.out ?_) | (go_at_call 80; (with_reducible refine (cPj.out _ hS.pre0).mono ?_); rintro _ w5 ⟨rfl, sv5, hk⟩; have hS1 := hS.call0 hk; clear hS hk; have hS := hS1; clear hS1) )
          try clear hC
          refine hK.out _ _ _ (fun _ h => h) (by first | exact hS | exact hS.drop | exact hS.drop.drop | exact hS.drop.drop.drop | exact hS.drop.drop.drop.drop | exact hS.empty | exact hS.one 0 rfl | exact hS.one 1 rfl | exact hS.one 2 rfl | exact hS.one 3 rfl | exact hS.one 4 rfl | exact hS.one 5 rfl | exact hS.one 6 rfl | exact hS.one 7 rfl | exact hS.one 8 rfl | exact hS.one 9 rfl | exact hS.one 10 rfl | exact hS.one 11 rfl) (fun hC => ?_)
          clear hK K
          try simp only [List.getElem_toArray, List.getElem_cons_succ, List.getElem_cons_zero, Act.put, List.setIfInBounds_toArray, List.set_cons_zero, List.set_cons_succ]
          refine mixs_one 4 (by kernel_rfl) rfl (fun K hK => ?_)
          refine op_load_st (by kernel_rfl) 0 hS rfl rfl rfl (by simp [scalarB, go_sem]) rfl ?_
          try clear hC
          refine hK.out _ _ _ (fun _ h => h) (by first | exact hS | exact hS.drop | exact hS.drop.drop | exact hS.drop.drop.drop | exact hS.drop.drop.drop.drop | exact hS.empty | exact hS.one 0 rfl | exact hS.one 1 rfl | exact hS.one 2 rfl | exact hS.one 3 rfl | exact hS.one 4 rfl | exact hS.one 5 rfl | exact hS.one 6 rfl | exact hS.one 7 rfl | exact hS.one 8 rfl | exact hS.one 9 rfl | exact hS.one 10 rfl | exact hS.one 11 rfl) (fun hC => ?_)
          clear hK K
          try simp only [List.getElem_toArray, List.getElem_cons_succ, List.getElem_cons_zero, Act.put, List.setIfInBounds_toArray, List.set_cons_zero, List.set_cons_succ]
          refine mixs_take 6 (v := ?_) rfl (by kernel_rfl) (fun _ _ _ h => h) (by kernel_rfl) (by assumption) (fun s => ?hy) ?_; case hy => (go_simp <;> with_reducible rfl)
          try simp only [List.getElem_toArray, List.getElem_cons_succ, List.getElem_cons_zero, Act.put, List.setIfInBounds_toArray, List.set_cons_zero, List.set_cons_succ]
          refine mixs_take 7 (v := ?_) rfl (by kernel_rfl) (fun _ _ _ h => h) (by kernel_rfl) (by assumption) (fun s => ?hy) ?_; case hy => (go_simp <;> with_reducible rfl)
          try simp only [List.getElem_toArray, List.getElem_cons_succ, List.getElem_cons_zero, Act.put, List.setIfInBounds_toArray, List.set_cons_zero, List.set_cons_succ]
          refine mixs_one 8 (by kernel_rfl) rfl (fun K hK => ?_)
          ( first | (refine op_loadcell_st (by kernel_rfl) 2 hS rfl rfl rfl hsi hc0.out ?_) | (refine op_loadcell_st (by kernel_rfl) 2 hS rfl rfl rfl hss hc1.out ?_) | (go_at_call 80; (with_reducible refine (cPj.out _ hS.pre0).mono ?_); rintro _ w5 ⟨rfl, sv5, hk⟩; have hS1 := hS.call0 hk; clear hS hk; have hS := hS1; clear hS1) )
          try clear hC
          refine hK.out _ _ _ (fun _ h => h) (by first | exact hS | exact hS.drop | exact hS.drop.drop | exact hS.drop.drop.drop | exact hS.drop.drop.drop.drop | exact hS.empty | exact hS.one 0 rfl | exact hS.one 1 rfl | exact hS.one 2 rfl | exact hS.one 3 rfl | exact hS.one 4 rfl | exact hS.one 5 rfl | exact hS.one 6 rfl | exact hS.one 7 rfl | exact hS.one 8 rfl | exact hS.one 9 rfl | exact hS.one 10 rfl | exact hS.one 11 rfl) (fun hC => ?_)
          clear hK K
          try simp only [List.getElem_toArray, List.getElem_cons_succ, List.getElem_cons_zero, Act.put, List.setIfInBounds_toArray, List.set_cons_zero, List.set_cons_succ]
          refine mixs_one 17 (by kernel_rfl) rfl (fun K hK => ?_)
          go_simp
          ( first | (refine op_loadcell_st (by kernel_rfl) 2 hS rfl rfl rfl hsi hc0.out ?_) | (refine op_loadcell_st (by kernel_rfl) 2 hS rfl rfl rfl hss hc1.out ?_) | (go_at_call 80; (with_reducible refine (cPj.out _ hS.pre0).mono ?_); rintro _ w5 ⟨rfl, sv5, hk⟩; have hS1 := hS.call0 hk; clear hS hk; have hS := hS1; clear hS1) )
          try clear hC
          refine hK.out _ _ _ (fun _ h => h) (by first | exact hS | exact hS.drop | exact hS.drop.drop | exact hS.drop.drop.drop | exact hS.drop.drop.drop.drop | exact hS.empty | exact hS.one 0 rfl | exact hS.one 1 rfl | exact hS.one 2 rfl | exact hS.one 3 rfl | exact hS.one 4 rfl | exact hS.one 5 rfl | exact hS.one 6 rfl | exact hS.one 7 rfl | exact hS.one 8 rfl | exact hS.one 9 rfl | exact hS.one 10 rfl | exact hS.one 11 rfl) (fun hC => ?_)
          clear hK K
          try simp only [List.getElem_toArray, List.getElem_cons_succ, List.getElem_cons_zero, Act.put, List.setIfInBounds_toArray, List.set_cons_zero, List.set_cons_succ]
          refine wpAnyH_done (by kernel_rfl) ?_ _
          try clear hC
          go_wp2_with fail
          go_roundg (n - (j + 1))
          case measure => omega
          case rel => exact ⟨j + 1, l.set q ⟨xb, false⟩, _, by omega, by go_num, Lib.hid hnext.out.symm, by rw [List.length_set]; exact hS⟩
    · have hT : wl.take j = wl := List.take_of_length_le (by have := hn.out; omega)
      rw [hT] at hl'
      obtain ⟨av', cv', hsv, -⟩ := hS.row 1 rfl
      subst hsv
      go_wp2_with (first | (with_reducible refine wpList_box_st hS rfl rfl rfl ?_; intro g1 w1 hS1; clear hS; replace hS := hS1; clear hS1) | (with_reducible refine wpList_box1_st hS rfl rfl rfl ?_; intro g1 w1 hS1; clear hS; replace hS := hS1; clear hS1) | (with_reducible refine wpList_alloc_st hS rfl rfl (by assumption) ?_; intro g1 w1 hS1; clear hS; replace hS := hS1; clear hS1) | (with_reducible refine wpList_alloc1_st hS rfl rfl (by assumption) rfl ?_; intro g1 w1 hS1; clear hS; replace hS := hS1; clear hS1) | ((with_reducible refine wpList_load_st 0 hS rfl rfl rfl rfl ?_ rfl ?_); focus (simp [scalarB, go_sem]; done)) | ((with_reducible refine wpList_loadall_st 0 hS rfl rfl rfl rfl ?_ (by kernel_rfl) ?_); focus (simp [rowB, go_sem]; done)) | ((with_reducible refine wpList_store_st 0 hS rfl rfl rfl rfl (by kernel_rfl) rfl rfl ?_); intro w1 hS1; clear hS; replace hS := hS1; clear hS1; try simp only [List.set_cons_zero, List.set_cons_succ, List.setIfInBounds_toArray, List.take_succ_cons, List.take_zero, List.drop_succ_cons, List.drop_zero, List.nil_append, List.cons_append, List.append_nil, List.drop_nil, List.take_nil, List.length_cons, List.length_nil, Nat.zero_add, Nat.add_zero, Nat.reduceAdd] at hS) | ((with_reducible refine wpList_storerow_st 0 hS rfl rfl rfl rfl (by kernel_rfl) rfl rfl rfl rfl ?_); intro w1 hS1; clear hS; replace hS := hS1; clear hS1; try simp only [List.set_cons_zero, List.set_cons_succ, List.setIfInBounds_toArray, List.take_succ_cons, List.take_zero, List.drop_succ_cons, List.drop_zero, List.nil_append, List.cons_append, List.append_nil, List.drop_nil, List.take_nil, List.length_cons, List.length_nil, Nat.zero_add, Nat.add_zero, Nat.reduceAdd] at hS))
      go_ret
      rw [hl'.out, Dk.done_length, hns.out] at hS
      exact ⟨rfl, _, _, (hS.nilrow 141 2).rot3.front (A := [_, _, _])⟩

theorem rsync_any (g : Nat) (sv wv : Value) (d : Dk) (w : World) (h : St w (feet (rdk g sv wv d)) (rdk g sv wv d) w) (hok : d.Ok) (hl : d.sec.length ≤ 100000) (hw : d.wait.length ≤ 100000) (hf : -9223372036854775808 ≤ d.fuse ∧ d.fuse ≤ 9223372036854775807) :
    Calls Try.prog 67 #[.pointer (some ⟨g, 0, none⟩)] w fun e w' => e = .returned (.int .i64 d.sync.2) ∧ ∃ sv' wv', St w (feet (rdk g sv wv d)) (rdk g sv' wv' d.sync.1) w' := by
  have hpos := hok.pos
  by_cases hdd : d.dead = true
  · have hd : d.sync = (d, 15) := by
      have hr : d.ready 0 = 15 := by rw [Dk.ready, if_pos hdd]
      rw [Dk.sync, hr, if_neg (by omega)]
    rw [hd]
    have hS := h
    unfold rdk at hS
    rw [hdd] at hS
    have c := hS.cell 0 rfl
    have hkeep := Lib.hid h
    clear h hS hd hok hf
    obtain ⟨av, cv, rfl, -⟩ := hkeep.out.row 1 rfl
    obtain ⟨aw, cw, rfl, -⟩ := hkeep.out.row 2 rfl
    go_enter Try.func67, Try.ntmps67
    go_wp2_with fail
    go_ret
    exact ⟨rfl, _, _, hkeep.out⟩
  · replace hdd : d.dead = false := by simpa using hdd
    have hr : d.ready 0 = 0 := by rw [Dk.ready, if_neg (by simp [hdd]), if_neg (by omega)]
    cases hsd : d.step.dead with
    | false =>
      have hd : d.sync = ({ d.step with sec := Dk.done d.sec d.wait, wait := [] }, 0) := by rw [Dk.sync, if_pos hr, if_neg (by simp [hsd])]
      rw [hd]
      exact rsync_main g sv wv d w h hok hdd hsd hl hw hf
    | true =>
      have hd : d.sync = (d.step, 15) := by rw [Dk.sync, if_pos hr, if_pos hsd]
      rw [hd]
      have cS := rstep_any g sv wv d w h hf hdd
      rw [hsd] at cS
      have hS := h
      unfold rdk at hS
      rw [hdd] at hS
      have c := hS.cell 0 rfl
      obtain ⟨av, cv, rfl, -⟩ := h.row 1 rfl
      obtain ⟨aw, cw, rfl, -⟩ := h.row 2 rfl
      clear hd hok hf hS h hr hsd
      replace cS := Lib.hid cS
      go_enter Try.func67, Try.ntmps67
      go_wp2_with (first
        | (go_at_call 81; (with_reducible refine cS.out.mono ?_); rintro _ w4 ⟨rfl, hk⟩; replace hk := Lib.hid hk))
      go_ret
      exact ⟨rfl, _, _, hk.out⟩
end Go.Proofs.Ytlhpibniecfofaa
end

section
/- Roots: Store, in the reference. -/
set_option linter.unusedSimpArgs false
set_option linter.unusedVariables false
namespace Go.Proofs.Ytlhpibniecfofaa
open Go.RowKit Go.Ofp
set_option linter.unusedVariables false
set_option maxRecDepth 100000
set_option maxHeartbeats 4000000

theorem rtstore_any (bd : Nat) (sv wv : Value) (d : Dk) (n k : Nat) (x : Rt) (w : World) (h : St w (feet (rdk bd sv wv d)) (rdk bd sv wv d) w) (hfit : d.Fit n k) (hn : n ≤ 100000) (hk : k ≤ 99999) :
    Calls Try.prog 36 #[.pointer (some ⟨bd, 0, none⟩), .agg #[.int .i64 x.seq, .int .i64 x.life, .int .i64 x.head]] w fun e w' => e = .returned (.int .i64 (d.store x).2) ∧ ∃ sv' wv', St w (feet (rdk bd sv wv d)) (rdk bd sv' wv' (d.store x).1) w' := by
  have hS := h
  have hok := hfit.ok
  have hl : d.sec.length ≤ 100000 := by have := hfit.sec; omega
  have hw : d.wait.length ≤ 100000 := by have := hfit.wait; omega
  have cK := fun W => rtcheck_any x W
  have cP := fun W => rtput_any x W
  obtain ⟨a1, c1, rfl, -⟩ := h.row 1 rfl
  generalize feet (rdk bd (.slice a1 d.sec.length c1) wv d) = F at hS h ⊢
  clear h
  have hS1 : St w F (rdk bd (.slice a1 d.sec.length c1) wv d ++ []) w := by rw [List.append_nil]; exact hS
  clear hS
  have hS := hS1
  clear hS1
  replace cP := Lib.hid cP
  by_cases hxo : x.ok = true
  · rw [hxo] at cK
    replace cK := Lib.hid cK
    by_cases hs2 : d.sec.length < 2
    · have hd : d.store x = (d, 1) := by rw [Dk.store, if_pos (.inr hs2)]
      have ds2 : decide ((d.sec.length : Int) < 2) = true := decide_eq_true (by omega)
      clear hs2 hfit hok hl hw hxo
      replace hd := Lib.hid hd
      skip
      go_enter Try.func36, Try.ntmps36
      go_wp2_with (first
        | ((with_reducible refine wpList_box_st hS rfl rfl rfl ?_); intro g1 w1 hS1; clear hS; have hS := hS1; clear hS1; have hcl := hS.cell 1 rfl)
        | (go_at_call 31; (with_reducible refine (cK.out _).mono ?_); rintro _ w3 ⟨rfl, hb3⟩; have hS1 := hS.keepB hb3; clear hb3 hS; have hS := hS1; clear hS1; have hcl := hS.cell 1 rfl)
        | (with_reducible refine wpList_box_st hS rfl rfl rfl ?_; intro g1 w1 hS1; clear hS; replace hS := hS1; clear hS1) | (with_reducible refine wpList_box1_st hS rfl rfl rfl ?_; intro g1 w1 hS1; clear hS; replace hS := hS1; clear hS1) | (with_reducible refine wpList_alloc_st hS rfl rfl (by assumption) ?_; intro g1 w1 hS1; clear hS; replace hS := hS1; clear hS1) | (with_reducible refine wpList_alloc1_st hS rfl rfl (by assumption) rfl ?_; intro g1 w1 hS1; clear hS; replace hS := hS1; clear hS1) | ((with_reducible refine wpList_load_st 0 hS rfl rfl rfl rfl ?_ rfl ?_); focus (simp [scalarB, go_sem]; done)) | ((with_reducible refine wpList_loadall_st 0 hS rfl rfl rfl rfl ?_ (by kernel_rfl) ?_); focus (simp [rowB, go_sem]; done)) | ((with_reducible refine wpList_store_st 0 hS rfl rfl rfl rfl (by kernel_rfl) rfl rfl ?_); intro w1 hS1; clear hS; replace hS := hS1; clear hS1; try simp only [List.set_cons_zero, List.set_cons_succ, List.setIfInBounds_toArray, List.take_succ_cons, List.take_zero, List.drop_succ_cons, List.drop_zero, List.nil_append, List.cons_append, List.append_nil, List.drop_nil, List.take_nil, List.length_cons, List.length_nil, Nat.zero_add, Nat.add_zero, Nat.reduceAdd] at hS) | ((with_reducible refine wpList_storerow_st 0 hS rfl rfl rfl rfl (by kernel_rfl) rfl rfl rfl rfl ?_); intro w1 hS1; clear hS; replace hS := hS1; clear hS1; try simp only [List.set_cons_zero, List.set_cons_succ, List.setIfInBounds_toArray, List.take_succ_cons, List.take_zero, List.drop_succ_cons, List.drop_zero, List.nil_append, List.cons_append, List.append_nil, List.drop_nil, List.take_nil, List.length_cons, List.length_nil, Nat.zero_add, Nat.add_zero, Nat.reduceAdd] at hS))
      go_ret
      exact ⟨by first | (rw [hd.out]; done) | (rw [hd.out]; rfl), _, _, by rw [hd.out]; simpa using hS.drop⟩
    · obtain ⟨q1, q2, -⟩ := (Rt.ok_iff x).1 hxo
      have hseq : x.seq.tmod 2 = x.seq % 2 := Int.tmod_eq_emod_of_nonneg (by omega)
      have ds2 : decide ((d.sec.length : Int) < 2) = false := decide_eq_false (by omega)
      have hpl : (str x.putB).size ≤ maxLen := by rw [str_size, Rt.putB, if_pos hxo, Rt.secB_length]; unfold maxLen; omega
      have cW := fun W hh => rwrite_any bd (.slice a1 d.sec.length c1) wv d (x.seq % 2) (str x.putB) W hh hpl hl hw hfit.fuse
      rw [str_data] at cW
      have hfw := hfit.write (x.seq % 2) x.putB
      have hd : d.store x = if (d.write (x.seq % 2) x.putB).2 = 0 then (d.write (x.seq % 2) x.putB).1.sync else ((d.write (x.seq % 2) x.putB).1, (d.write (x.seq % 2) x.putB).2) := by
        rw [Dk.store, if_neg]
        intro hh
        rcases hh with hh | hh
        · rw [hxo] at hh; cases hh
        · exact hs2 hh
      obtain ⟨d1, e1, hde⟩ : ∃ d1 e1, d.write (x.seq % 2) x.putB = (d1, e1) := ⟨_, _, rfl⟩
      rw [hde] at cW hfw hd
      simp only at cW hfw hd
      have cS := fun (wv' : Value) W hh => rsync_any bd (.slice a1 d.sec.length c1) wv' d1 W hh hfw.ok (by have := hfw.sec; omega) (by have := hfw.wait; omega) hfw.fuse
      clear hfit hok hl hw hxo hs2 hfw hde hpl q1 q2
      replace cW := Lib.hid cW
      replace cS := Lib.hid cS
      skip
      go_enter Try.func36, Try.ntmps36
      go_wp2_with (first
        | ((with_reducible refine wpList_box_st hS rfl rfl rfl ?_); intro g1 w1 hS1; clear hS; have hS := hS1; clear hS1; have hcl := hS.cell 1 rfl)
        | (go_at_call 31; (with_reducible refine (cK.out _).mono ?_); rintro _ w3 ⟨rfl, hb3⟩; have hS1 := hS.keepB hb3; clear hb3 hS; have hS := hS1; clear hS1; have hcl := hS.cell 1 rfl)
        | (with_reducible refine wpList_box_st hS rfl rfl rfl ?_; intro g1 w1 hS1; clear hS; replace hS := hS1; clear hS1) | (with_reducible refine wpList_box1_st hS rfl rfl rfl ?_; intro g1 w1 hS1; clear hS; replace hS := hS1; clear hS1) | (with_reducible refine wpList_alloc_st hS rfl rfl (by assumption) ?_; intro g1 w1 hS1; clear hS; replace hS := hS1; clear hS1) | (with_reducible refine wpList_alloc1_st hS rfl rfl (by assumption) rfl ?_; intro g1 w1 hS1; clear hS; replace hS := hS1; clear hS1) | ((with_reducible refine wpList_load_st 0 hS rfl rfl rfl rfl ?_ rfl ?_); focus (simp [scalarB, go_sem]; done)) | ((with_reducible refine wpList_loadall_st 0 hS rfl rfl rfl rfl ?_ (by kernel_rfl) ?_); focus (simp [rowB, go_sem]; done)) | ((with_reducible refine wpList_store_st 0 hS rfl rfl rfl rfl (by kernel_rfl) rfl rfl ?_); intro w1 hS1; clear hS; replace hS := hS1; clear hS1; try simp only [List.set_cons_zero, List.set_cons_succ, List.setIfInBounds_toArray, List.take_succ_cons, List.take_zero, List.drop_succ_cons, List.drop_zero, List.nil_append, List.cons_append, List.append_nil, List.drop_nil, List.take_nil, List.length_cons, List.length_nil, Nat.zero_add, Nat.add_zero, Nat.reduceAdd] at hS) | ((with_reducible refine wpList_storerow_st 0 hS rfl rfl rfl rfl (by kernel_rfl) rfl rfl rfl rfl ?_); intro w1 hS1; clear hS; replace hS := hS1; clear hS1; try simp only [List.set_cons_zero, List.set_cons_succ, List.setIfInBounds_toArray, List.take_succ_cons, List.take_zero, List.drop_succ_cons, List.drop_zero, List.nil_append, List.cons_append, List.append_nil, List.drop_nil, List.take_nil, List.length_cons, List.length_nil, Nat.zero_add, Nat.add_zero, Nat.reduceAdd] at hS))
      refine mixs_beginC 0 (by kernel_rfl) hS rfl ?_
      clear hS
      intro w2 hS hC
      have kC := hC.kblk 0 rfl
      refine mixs_take 0 (v := ?_) rfl (by kernel_rfl) (fun _ _ _ h => h) (by kernel_rfl) (by assumption) (fun s => ?hy) ?_; case hy => (go_simp <;> with_reducible rfl)
      try simp only [List.getElem_toArray, List.getElem_cons_succ, List.getElem_cons_zero, Act.put, List.setIfInBounds_toArray, List.set_cons_zero, List.set_cons_succ]
      refine mixs_take 1 (v := ?_) rfl (by kernel_rfl) (fun _ _ _ h => h) (by kernel_rfl) (by assumption) (fun s => ?hy) ?_; case hy => (go_simp <;> with_reducible rfl)
      try simp only [List.getElem_toArray, List.getElem_cons_succ, List.getElem_cons_zero, Act.put, List.setIfInBounds_toArray, List.set_cons_zero, List.set_cons_succ]
      refine mixs_take 2 (v := ?_) rfl (by kernel_rfl) (fun _ _ _ h => h) (by kernel_rfl) (by assumption) (fun s => ?hy) ?_; case hy => (go_simp <;> with_reducible rfl)
      try simp only [List.getElem_toArray, List.getElem_cons_succ, List.getElem_cons_zero, Act.put, List.setIfInBounds_toArray, List.set_cons_zero, List.set_cons_succ]
      refine mixs_take 3 (v := ?_) rfl (by kernel_rfl) (fun _ _ _ h => h) (by kernel_rfl) (by assumption) (fun s => ?hy) ?_; case hy => (go_simp <;> with_reducible rfl)
      try simp only [List.getElem_toArray, List.getElem_cons_succ, List.getElem_cons_zero, Act.put, List.setIfInBounds_toArray, List.set_cons_zero, List.set_cons_succ]
      refine mixs_take 4 (v := ?_) rfl (by kernel_rfl) (fun _ _ _ h => h) (by kernel_rfl) (by assumption) (fun s => ?hy) ?_; case hy => (go_simp <;> with_reducible rfl)
      try simp only [List.getElem_toArray, List.getElem_cons_succ, List.getElem_cons_zero, Act.put, List.setIfInBounds_toArray, List.set_cons_zero, List.set_cons_succ]
      refine mixs_one 5 (by kernel_rfl) rfl (fun K hK => ?_)
      go_simp
      ( first | (go_at_call 33; (with_reducible refine (cP.out _).mono ?_); rintro _ w4 ⟨rfl, hb4⟩; have hS1 := hS.keepB hb4; clear hb4 hS; have hS := hS1; clear hS1) | (go_at_call 38; (with_reducible refine (cW.out _ hS.pre1).mono ?_); rintro _ w5 ⟨rfl, wv5, hk⟩; have hS1 := hS.call1 hk; clear hS hk; have hS := hS1; clear hS1) )
      try clear hC
      refine hK.out _ _ _ (fun _ h => h) (by first | exact hS | exact hS.drop | exact hS.drop.drop | exact hS.drop.drop.drop | exact hS.drop.drop.drop.drop | exact hS.empty | exact hS.one 0 rfl | exact hS.one 1 rfl | exact hS.one 2 rfl | exact hS.one 3 rfl | exact hS.one 4 rfl | exact hS.one 5 rfl | exact hS.one 6 rfl | exact hS.one 7 rfl | exact hS.one 8 rfl | exact hS.one 9 rfl | exact hS.one 10 rfl | exact hS.one 11 rfl) (fun hC => ?_)
      clear hK K
      try simp only [List.getElem_toArray, List.getElem_cons_succ, List.getElem_cons_zero, Act.put, List.setIfInBounds_toArray, List.set_cons_zero, List.set_cons_succ]
      refine mixs_one 6 (by kernel_rfl) rfl (fun K hK => ?_)
      go_simp
      ( first | (go_at_call 33; (with_reducible refine (cP.out _).mono ?_); rintro _ w4 ⟨rfl, hb4⟩; have hS1 := hS.keepB hb4; clear hb4 hS; have hS := hS1; clear hS1) | (go_at_call 38; (with_reducible refine (cW.out _ hS.pre1).mono ?_); rintro _ w5 ⟨rfl, wv5, hk⟩; have hS1 := hS.call1 hk; clear hS hk; have hS := hS1; clear hS1) )
      try clear hC
      refine hK.out _ _ _ (fun _ h => h) (by first | exact hS | exact hS.drop | exact hS.drop.drop | exact hS.drop.drop.drop | exact hS.drop.drop.drop.drop | exact hS.empty | exact hS.one 0 rfl | exact hS.one 1 rfl | exact hS.one 2 rfl | exact hS.one 3 rfl | exact hS.one 4 rfl | exact hS.one 5 rfl | exact hS.one 6 rfl | exact hS.one 7 rfl | exact hS.one 8 rfl | exact hS.one 9 rfl | exact hS.one 10 rfl | exact hS.one 11 rfl) (fun hC => ?_)
      clear hK K
      try simp only [List.getElem_toArray, List.getElem_cons_succ, List.getElem_cons_zero, Act.put, List.setIfInBounds_toArray, List.set_cons_zero, List.set_cons_succ]
      refine mixs_take 7 (v := ?_) rfl (by kernel_rfl) (fun _ _ _ h => h) (by kernel_rfl) (by assumption) (fun s => ?hy) ?_; case hy => (go_simp <;> with_reducible rfl)
      try simp only [List.getElem_toArray, List.getElem_cons_succ, List.getElem_cons_zero, Act.put, List.setIfInBounds_toArray, List.set_cons_zero, List.set_cons_succ]
      refine wpAnyH_done (by kernel_rfl) ?_ _
      try clear hC
      try clear kC
      by_cases he : e1 = 0
      · have hd2 : d.store x = d1.sync := hd.trans (if_pos he)
        subst he
        replace hd2 := Lib.hid hd2
        clear hd
        go_wp2_with (first
          | (go_at_call 67; (with_reducible refine (cS.out _ _ hS.pre1).mono ?_); rintro _ w6 ⟨rfl, sv6, wv6, hk⟩; have hS1 := hS.call1 hk; clear hS hk; have hS := hS1; clear hS1))
        go_ret
        exact ⟨by first | (rw [hd2.out]; done) | (rw [hd2.out]; rfl), _, _, by rw [hd2.out]; simpa using hS.drop⟩
      · have hd2 : d.store x = (d1, e1) := hd.trans (if_neg he)
        have hen : (e1 != 0) = true := by simp [he]
        clear he
        replace hd2 := Lib.hid hd2
        clear hd
        go_wp2_with fail
        go_ret
        exact ⟨by first | (rw [hd2.out]; done) | (rw [hd2.out]; rfl), _, _, by rw [hd2.out]; simpa using hS.drop⟩
  · have hxf : x.ok = false := by simpa using hxo
    have hd : d.store x = (d, 1) := by rw [Dk.store, if_pos (.inl hxf)]
    rw [hxf] at cK
    clear hfit hok hl hw hxo hxf
    replace cK := Lib.hid cK
    replace hd := Lib.hid hd
    skip
    go_enter Try.func36, Try.ntmps36
    go_wp2_with (first
      | (go_at_call 31; (with_reducible refine (cK.out _).mono ?_); rintro _ w3 ⟨rfl, hb3⟩; have hS1 := hS.keepB hb3; clear hb3 hS; have hS := hS1; clear hS1)
      | (with_reducible refine wpList_box_st hS rfl rfl rfl ?_; intro g1 w1 hS1; clear hS; replace hS := hS1; clear hS1) | (with_reducible refine wpList_box1_st hS rfl rfl rfl ?_; intro g1 w1 hS1; clear hS; replace hS := hS1; clear hS1) | (with_reducible refine wpList_alloc_st hS rfl rfl (by assumption) ?_; intro g1 w1 hS1; clear hS; replace hS := hS1; clear hS1) | (with_reducible refine wpList_alloc1_st hS rfl rfl (by assumption) rfl ?_; intro g1 w1 hS1; clear hS; replace hS := hS1; clear hS1) | ((with_reducible refine wpList_load_st 0 hS rfl rfl rfl rfl ?_ rfl ?_); focus (simp [scalarB, go_sem]; done)) | ((with_reducible refine wpList_loadall_st 0 hS rfl rfl rfl rfl ?_ (by kernel_rfl) ?_); focus (simp [rowB, go_sem]; done)) | ((with_reducible refine wpList_store_st 0 hS rfl rfl rfl rfl (by kernel_rfl) rfl rfl ?_); intro w1 hS1; clear hS; replace hS := hS1; clear hS1; try simp only [List.set_cons_zero, List.set_cons_succ, List.setIfInBounds_toArray, List.take_succ_cons, List.take_zero, List.drop_succ_cons, List.drop_zero, List.nil_append, List.cons_append, List.append_nil, List.drop_nil, List.take_nil, List.length_cons, List.length_nil, Nat.zero_add, Nat.add_zero, Nat.reduceAdd] at hS) | ((with_reducible refine wpList_storerow_st 0 hS rfl rfl rfl rfl (by kernel_rfl) rfl rfl rfl rfl ?_); intro w1 hS1; clear hS; replace hS := hS1; clear hS1; try simp only [List.set_cons_zero, List.set_cons_succ, List.setIfInBounds_toArray, List.take_succ_cons, List.take_zero, List.drop_succ_cons, List.drop_zero, List.nil_append, List.cons_append, List.append_nil, List.drop_nil, List.take_nil, List.length_cons, List.length_nil, Nat.zero_add, Nat.add_zero, Nat.reduceAdd] at hS))
    go_ret
    exact ⟨by first | (rw [hd.out]; done) | (rw [hd.out]; rfl), _, _, by rw [hd.out]; simpa using hS.drop⟩
end Go.Proofs.Ytlhpibniecfofaa
end
