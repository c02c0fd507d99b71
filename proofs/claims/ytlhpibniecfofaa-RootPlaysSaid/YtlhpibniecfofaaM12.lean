/- Texts laid together: DiskRef5. -/
import Derived.Test.YtlhpibniecfofaaM11
import Derived.Test.YtlhpibniecfofaaM2
section
/- The reference's disks: Crash. -/
set_option linter.unusedSimpArgs false
set_option linter.unusedVariables false
namespace Go.Proofs.Ytlhpibniecfofaa
open Go.RowKit Go.Ofp
set_option linter.unusedVariables false
set_option maxRecDepth 100000
set_option maxHeartbeats 4000000

theorem modify_bad (l : List Sc) (q : Nat) (hq : q < l.length) : l.modify q (fun s => { s with bad := true }) = l.set q ⟨l[q].b, true⟩ := by
  apply List.ext_getElem (by simp)
  intro i h1 h2
  rw [List.getElem_modify, List.getElem_set]
  split
  · rename_i e; subst e; rfl
  · rfl

theorem rcrash_any (g : Nat) (sv wv : Value) (d : Dk) (ak : Option Addr) (keep : List Int) (nk ck : Nat) (w : World) (h : St w (feet (rdk g sv wv d)) (rdk g sv wv d) w) (hok : d.Ok) (hl : d.sec.length ≤ 100000) (hw : d.wait.length ≤ 100000)
    (hks : Sl w ak (keep.map vi)) (hkb : ∀ z ∈ keep, z ≤ 9223372036854775807) (hkn : keep.length = nk) (hkm : nk ≤ maxLen) (hap : 0 < nk → ∀ b o, ak = some ⟨b, o, none⟩ → b ∉ feet (rdk g sv wv d)) :
    Calls Try.prog 37 #[.pointer (some ⟨g, 0, none⟩), .slice ak nk ck] w fun e w' => e = .returned (.tuple #[]) ∧ ∃ sv' wv', St w (feet (rdk g sv wv d)) (rdk g sv' wv' (d.crash keep)) w' := by
  have hcell := rwt_cell d.wait
  have hwok := hok.wait
  have hfl := (Dk.fall_ok keep d.wait 0 d.sec hok.sec fun w hw => (hok.wait w hw).2.2).2
  have cP : ∀ (sv' : Value) (l : List Sc) (q : Nat) (x : List UInt8) (W : World), St W (feet (rdk g sv' wv { d with sec := l })) (rdk g sv' wv { d with sec := l }) W → q < l.length → l.length ≤ 100000 →
      Calls Try.prog 80 #[.pointer (some ⟨g, 0, none⟩), .int .i64 q, .string (str x)] W fun e w' => e = .returned (.tuple #[]) ∧ ∃ sv'', St W (feet (rdk g sv' wv { d with sec := l })) (rdk g sv'' wv { d with sec := l.set q ⟨x, false⟩ }) w' :=
    fun sv' l q x W h hq hl => rput_d g sv' wv { d with sec := l } q (str x) ⟨x, false⟩ W h hq hl (by simp [rsc])
  have cB : ∀ (sv' : Value) (l : List Sc) (q : Nat) (x : List UInt8) (W : World), St W (feet (rdk g sv' wv { d with sec := l })) (rdk g sv' wv { d with sec := l }) W → q < l.length → l.length ≤ 100000 →
      Calls Try.prog 80 #[.pointer (some ⟨g, 0, none⟩), .int .i64 q, .string ⟨#[]⟩] W fun e w' => e = .returned (.tuple #[]) ∧ ∃ sv'', St W (feet (rdk g sv' wv { d with sec := l })) (rdk g sv'' wv { d with sec := l.set q ⟨x, true⟩ }) w' :=
    fun sv' l q x W h hq hl => rput_d g sv' wv { d with sec := l } q ⟨#[]⟩ ⟨x, true⟩ W h hq hl (by simp [rsc]; rfl)
  have hS := h
  generalize feet (rdk g sv wv d) = F at hS hap ⊢
  clear h hok
  unfold rdk at cP cB hS ⊢
  unfold Dk.crash
  simp only [hfl, List.map_nil, List.flatten_nil, List.length_nil, List.length_set] at cP cB hS ⊢
  clear hfl
  obtain ⟨av, cv, rfl, -⟩ := hS.row 1 rfl
  obtain ⟨aw, cw, rfl, -⟩ := hS.row 2 rfl
  generalize d.wait = wl at *
  generalize d.sec = sec at *
  generalize d.fuse = fz at *
  generalize d.dead = dd at *
  generalize (wl.map rwt).flatten = R2 at *
  obtain ⟨n, hn⟩ : ∃ n, wl.length = n := ⟨_, rfl⟩
  obtain ⟨ns, hns⟩ : ∃ n, sec.length = n := ⟨_, rfl⟩
  rw [hn] at hw hS cP cB
  rw [hns] at hwok hl hS ⊢
  unfold maxLen at hkm
  replace cP := Lib.hid cP
  replace cB := Lib.hid cB
  replace hcell := Lib.hid hcell
  replace hwok := Lib.hid hwok
  replace hn := Lib.hid hn
  replace hns := Lib.hid hns
  replace hkn := Lib.hid hkn
  replace hks := Lib.hid hks
  replace hap := Lib.hid hap
  replace hkb := Lib.hid hkb
  have hsi : scalarB Try.prog 3 = true := by simp [scalarB, go_sem]
  have hss : scalarB Try.prog 9 = true := by simp [scalarB, go_sem]
  go_enter Try.func37, Try.ntmps37
  go_wp2_with fail
  go_loopg [4] n (fun gk vx wr => ∃ (j : Nat) (l : List Sc) (sv' : Value), j + gk = n ∧ vx = .int .i64 j ∧ Hid (Dk.fall keep 0 sec wl = Dk.fall keep j l (wl.drop j) ∧ l.length = ns) ∧ St w F [Ch.blk g 29 #[sv', .slice aw n cw, .int .i64 fz, .bool dd], Ch.row 9 1 sv' l.length (l.map rsc), Ch.row 141 2 (.slice aw n cw) n R2] wr)
  case atStart => exact ⟨0, sec, _, Nat.zero_add _, rfl, Lib.hid ⟨rfl, hns.out⟩, by rw [hns.out]; exact hS⟩
  case round =>
    clear hS
    obtain ⟨j, l, sv', hjn, rfl, hl', hS⟩ := hrel
    obtain ⟨av', cv', hsv, -⟩ := hS.row 1 rfl
    subst hsv
    obtain ⟨hfa, hll⟩ := hl'.out
    clear hl'
    by_cases hlt : j < n
    · have hj' : j < wl.length := by have := hn.out; omega
      obtain ⟨hc0, hc1⟩ := hcell.out j hj'
      obtain ⟨hp1, hp2, hw2⟩ := hwok.out wl[j] (List.getElem_mem hj')
      rw [List.drop_eq_getElem_cons hj', fall_cons] at hfa
      obtain ⟨gw, cw', hwv, -⟩ := hS.rowat 2 rfl (by omega)
      cases hwv
      generalize wl[j] = x at *
      obtain ⟨xp, xb⟩ := x
      simp only at hc0 hc1 hp1 hp2
      obtain ⟨q, rfl⟩ := Int.eq_ofNat_of_zero_le hp1
      have hq : q < l.length := by omega
      have hmod := modify_bad l q hq
      have hf1 : Dk.fall1 keep l j ⟨q, xb⟩ = if Dk.fate keep j = 1 then l.set q ⟨xb, false⟩ else if Dk.fate keep j = 2 then l.set q ⟨l[q].b, true⟩ else l := by
        rw [Dk.fall1, Int.toNat_natCast, hmod]
      rw [hf1] at hfa
      have cPj := fun W h => cP.out (.slice av' l.length cv') l q xb W h hq (by omega)
      have cBj := fun W h => cB.out (.slice av' l.length cv') l q l[q].b W h hq (by omega)
      have hl1 : (l.set q ⟨xb, false⟩).length = ns := by rw [List.length_set, hll]
      have hl2 : (l.set q ⟨l[q].b, true⟩).length = ns := by rw [List.length_set, hll]
      have hl1' : (l.set q ⟨xb, false⟩).length = l.length := List.length_set ..
      have hl2' : (l.set q ⟨l[q].b, true⟩).length = l.length := List.length_set ..
      generalize l.set q ⟨xb, false⟩ = L1 at *
      generalize l.set q ⟨l[q].b, true⟩ = L2 at *
      replace cPj := Lib.hid cPj
      replace cBj := Lib.hid cBj
      replace hc0 := Lib.hid hc0
      replace hc1 := Lib.hid hc1
      replace hll := Lib.hid hll
      replace hl1 := Lib.hid hl1
      replace hl2 := Lib.hid hl2
      replace hl1' := Lib.hid hl1'
      replace hl2' := Lib.hid hl2'
      clear hcell hwok hp1 hp2 hmod hf1
      by_cases hjk : j < nk
      · have hjl : j < keep.length := by rw [hkn.out]; exact hjk
        obtain ⟨bk, ok, rfl, hcz⟩ := sl_int hks.out j hjl
        have hft : Dk.fate keep j = if 0 ≤ keep[j] then keep[j] % 3 else 0 := by
          unfold Dk.fate
          have : keep.getD j 0 = keep[j] := by rw [List.getD_eq_getElem?_getD, List.getElem?_eq_getElem hjl]; rfl
          rw [this]
          simp [hjl]
        have hzb := hkb.out keep[j] (List.getElem_mem hjl)
        have hcz2 := hS.old hcz (hap.out (by omega) bk ok rfl)
        generalize keep[j] = z at hcz hcz2 hft hzb
        clear hks hkb hkn hcz
        by_cases h0 : 0 ≤ z
        · rw [if_pos h0] at hft
          have h3 : z % 3 = 0 ∨ z % 3 = 1 ∨ z % 3 = 2 := by omega
          rcases h3 with h3 | h3 | h3
          · have hfv : Dk.fate keep j = 0 := hft.trans h3
            rw [hfv, if_neg (by omega), if_neg (by omega)] at hfa
            replace hfa := Lib.hid hfa
            clear hft hfv
            go_wp2_with (first | (with_reducible refine wpList_box_st hS rfl rfl rfl ?_; intro g1 w1 hS1; clear hS; replace hS := hS1; clear hS1) | (with_reducible refine wpList_box1_st hS rfl rfl rfl ?_; intro g1 w1 hS1; clear hS; replace hS := hS1; clear hS1) | (with_reducible refine wpList_alloc_st hS rfl rfl (by assumption) ?_; intro g1 w1 hS1; clear hS; replace hS := hS1; clear hS1) | (with_reducible refine wpList_alloc1_st hS rfl rfl (by assumption) rfl ?_; intro g1 w1 hS1; clear hS; replace hS := hS1; clear hS1) | ((with_reducible refine wpList_load_st 0 hS rfl rfl rfl rfl ?_ rfl ?_); focus (simp [scalarB, go_sem]; done)) | ((with_reducible refine wpList_loadall_st 0 hS rfl rfl rfl rfl ?_ (by kernel_rfl) ?_); focus (simp [rowB, go_sem]; done)) | ((with_reducible refine wpList_store_st 0 hS rfl rfl rfl rfl (by kernel_rfl) rfl rfl ?_); intro w1 hS1; clear hS; replace hS := hS1; clear hS1; try simp only [List.set_cons_zero, List.set_cons_succ, List.setIfInBounds_toArray, List.take_succ_cons, List.take_zero, List.drop_succ_cons, List.drop_zero, List.nil_append, List.cons_append, List.append_nil, List.drop_nil, List.take_nil, List.length_cons, List.length_nil, Nat.zero_add, Nat.add_zero, Nat.reduceAdd] at hS) | ((with_reducible refine wpList_storerow_st 0 hS rfl rfl rfl rfl (by kernel_rfl) rfl rfl rfl rfl ?_); intro w1 hS1; clear hS; replace hS := hS1; clear hS1; try simp only [List.set_cons_zero, List.set_cons_succ, List.setIfInBounds_toArray, List.take_succ_cons, List.take_zero, List.drop_succ_cons, List.drop_zero, List.nil_append, List.cons_append, List.append_nil, List.drop_nil, List.take_nil, List.length_cons, List.length_nil, Nat.zero_add, Nat.add_zero, Nat.reduceAdd] at hS))
            go_roundg (n - (j + 1))
            case measure => omega
            case rel => exact ⟨j + 1, l, _, by omega, by go_num, Lib.hid ⟨hfa.out, hll.out⟩, hS⟩
          · have hfv : Dk.fate keep j = 1 := hft.trans h3
            rw [hfv, if_pos rfl] at hfa
            replace hfa := Lib.hid hfa
            clear hft hfv
            go_wp2_with (first | (with_reducible refine wpList_box_st hS rfl rfl rfl ?_; intro g1 w1 hS1; clear hS; replace hS := hS1; clear hS1) | (with_reducible refine wpList_box1_st hS rfl rfl rfl ?_; intro g1 w1 hS1; clear hS; replace hS := hS1; clear hS1) | (with_reducible refine wpList_alloc_st hS rfl rfl (by assumption) ?_; intro g1 w1 hS1; clear hS; replace hS := hS1; clear hS1) | (with_reducible refine wpList_alloc1_st hS rfl rfl (by assumption) rfl ?_; intro g1 w1 hS1; clear hS; replace hS := hS1; clear hS1) | ((with_reducible refine wpList_load_st 0 hS rfl rfl rfl rfl ?_ rfl ?_); focus (simp [scalarB, go_sem]; done)) | ((with_reducible refine wpList_loadall_st 0 hS rfl rfl rfl rfl ?_ (by kernel_rfl) ?_); focus (simp [rowB, go_sem]; done)) | ((with_reducible refine wpList_store_st 0 hS rfl rfl rfl rfl (by kernel_rfl) rfl rfl ?_); intro w1 hS1; clear hS; replace hS := hS1; clear hS1; try simp only [List.set_cons_zero, List.set_cons_succ, List.setIfInBounds_toArray, List.take_succ_cons, List.take_zero, List.drop_succ_cons, List.drop_zero, List.nil_append, List.cons_append, List.append_nil, List.drop_nil, List.take_nil, List.length_cons, List.length_nil, Nat.zero_add, Nat.add_zero, Nat.reduceAdd] at hS) | ((with_reducible refine wpList_storerow_st 0 hS rfl rfl rfl rfl (by kernel_rfl) rfl rfl rfl rfl ?_); intro w1 hS1; clear hS; replace hS := hS1; clear hS1; try simp only [List.set_cons_zero, List.set_cons_succ, List.setIfInBounds_toArray, List.take_succ_cons, List.take_zero, List.drop_succ_cons, List.drop_zero, List.nil_append, List.cons_append, List.append_nil, List.drop_nil, List.take_nil, List.length_cons, List.length_nil, Nat.zero_add, Nat.add_zero, Nat.reduceAdd] at hS))
            refine mixs_beginE (by kernel_rfl) hS ?_
            clear hS
            intro w2 hS hC
            refine mixs_take 0 (v := ?_) rfl (by kernel_rfl) (fun _ _ _ h => h) (by kernel_rfl) (by assumption) (fun s => ?hy) ?_; case hy => (go_simp <;> with_reducible rfl)
            try simp only [List.getElem_toArray, List.getElem_cons_succ, List.getElem_cons_zero, Act.put, List.setIfInBounds_toArray, List.set_cons_zero, List.set_cons_succ]
            refine mixs_take 1 (v := ?_) rfl (by kernel_rfl) (fun _ _ _ h => h) (by kernel_rfl) (by assumption) (fun s => ?hy) ?_; case hy => (go_simp <;> with_reducible rfl)
            try simp only [List.getElem_toArray, List.getElem_cons_succ, List.getElem_cons_zero, Act.put, List.setIfInBounds_toArray, List.set_cons_zero, List.set_cons_succ]
            refine mixs_take 2 (v := ?_) rfl (by kernel_rfl) (fun _ _ _ h => h) (by kernel_rfl) (by assumption) (fun s => ?hy) ?_; case hy => (go_simp <;> with_reducible rfl)
            try simp only [List.getElem_toArray, List.getElem_cons_succ, List.getElem_cons_zero, Act.put, List.setIfInBounds_toArray, List.set_cons_zero, List.set_cons_succ]
            refine mixs_take 3 (v := ?_) rfl (by kernel_rfl) (fun _ _ _ h => h) (by kernel_rfl) (by assumption) (fun s => ?hy) ?_; case hy => (go_simp <;> with_reducible rfl)
            try simp only [List.getElem_toArray, List.getElem_cons_succ, List.getElem_cons_zero, Act.put, List.setIfInBounds_toArray, List.set_cons_zero, List.set_cons_succ]
            refine mixs_take 5 (v := ?_) rfl (by kernel_rfl) (fun _ _ _ h => h) (by kernel_rfl) (by assumption) (fun s => ?hy) ?_; case hy => (go_simp <;> with_reducible rfl)
            try simp only [List.getElem_toArray, List.getElem_cons_succ, List.getElem_cons_zero, Act.put, List.setIfInBounds_toArray, List.set_cons_zero, List.set_cons_succ]
            refine mixs_take 9 (v := ?_) rfl (by kernel_rfl) (fun _ _ _ h => h) (by kernel_rfl) (by assumption) (fun s => ?hy) ?_; case hy => (go_simp <;> with_reducible rfl)
            try simp only [List.getElem_toArray, List.getElem_cons_succ, List.getElem_cons_zero, Act.put, List.setIfInBounds_toArray, List.set_cons_zero, List.set_cons_succ]
            refine mixs_take 10 (v := ?_) rfl (by kernel_rfl) (fun _ _ _ h => h) (by kernel_rfl) (by assumption) (fun s => ?hy) ?_; case hy => (go_simp <;> with_reducible rfl)
            try simp only [List.getElem_toArray, List.getElem_cons_succ, List.getElem_cons_zero, Act.put, List.setIfInBounds_toArray, List.set_cons_zero, List.set_cons_succ]
            refine mixs_take 11 (v := ?_) rfl (by kernel_rfl) (fun _ _ _ h => h) (by kernel_rfl) (by assumption) (fun s => ?hy) ?_; case hy => (go_simp <;> with_reducible rfl)
            try simp only [List.getElem_toArray, List.getElem_cons_succ, List.getElem_cons_zero, Act.put, List.setIfInBounds_toArray, List.set_cons_zero, List.set_cons_succ]
            refine mixs_take 13 (v := ?_) rfl (by kernel_rfl) (fun _ _ _ h => h) (by kernel_rfl) (by assumption) (fun s => ?hy) ?_; case hy => (go_simp <;> with_reducible rfl)
            try simp only [List.getElem_toArray, List.getElem_cons_succ, List.getElem_cons_zero, Act.put, List.setIfInBounds_toArray, List.set_cons_zero, List.set_cons_succ]
            refine mixs_two 4 12 (by kernel_rfl) rfl rfl (fun K hK => ?_) (fun K hK => ?_)
            ·
              refine op_load_st (by kernel_rfl) 0 hS rfl rfl rfl (by simp [scalarB, go_sem]) rfl ?_
              try clear hC
              refine hK.out _ _ _ (fun _ h => h) (by first | exact hS | exact hS.drop | exact hS.drop.drop | exact hS.drop.drop.drop | exact hS.drop.drop.drop.drop | exact hS.empty | exact hS.one 0 rfl | exact hS.one 1 rfl | exact hS.one 2 rfl | exact hS.one 3 rfl | exact hS.one 4 rfl | exact hS.one 5 rfl | exact hS.one 6 rfl | exact hS.one 7 rfl | exact hS.one 8 rfl | exact hS.one 9 rfl | exact hS.one 10 rfl | exact hS.one 11 rfl) (fun hC => ?_)
              clear hK K
              try simp only [List.getElem_toArray, List.getElem_cons_succ, List.getElem_cons_zero, Act.put, List.setIfInBounds_toArray, List.set_cons_zero, List.set_cons_succ]
              refine mixs_take 6 (v := ?_) rfl (by kernel_rfl) (fun _ _ _ h => h) (by kernel_rfl) (by assumption) (fun s => ?hy) ?_; case hy => (go_simp <;> with_reducible rfl)
              try simp only [List.getElem_toArray, List.getElem_cons_succ, List.getElem_cons_zero, Act.put, List.setIfInBounds_toArray, List.set_cons_zero, List.set_cons_succ]
              refine mixs_take 7 (v := ?_) rfl (by kernel_rfl) (fun _ _ _ h => h) (by kernel_rfl) (by assumption) (fun s => ?hy) ?_; case hy => (go_simp <;> with_reducible rfl)
              try simp only [List.getElem_toArray, List.getElem_cons_succ, List.getElem_cons_zero, Act.put, List.setIfInBounds_toArray, List.set_cons_zero, List.set_cons_succ]
              refine mixs_two 8 12 (by kernel_rfl) rfl rfl (fun K hK => ?_) (fun K hK => ?_)
              ·
                ( first | (refine op_loadcell_st (by kernel_rfl) 2 hS rfl rfl rfl hsi hc0.out ?_) | (refine op_loadcell_st (by kernel_rfl) 2 hS rfl rfl rfl hss hc1.out ?_) | (go_at_call 80; (with_reducible refine (cPj.out _ hS.pre0).mono ?_); rintro _ w5 ⟨rfl, sv5, hk⟩; have hS1 := hS.call0 hk; clear hS hk; have hS := hS1; clear hS1) )
                try clear hC
                refine hK.out _ _ _ (fun _ h => h) (by first | exact hS | exact hS.drop | exact hS.drop.drop | exact hS.drop.drop.drop | exact hS.drop.drop.drop.drop | exact hS.empty | exact hS.one 0 rfl | exact hS.one 1 rfl | exact hS.one 2 rfl | exact hS.one 3 rfl | exact hS.one 4 rfl | exact hS.one 5 rfl | exact hS.one 6 rfl | exact hS.one 7 rfl | exact hS.one 8 rfl | exact hS.one 9 rfl | exact hS.one 10 rfl | exact hS.one 11 rfl) (fun hC => ?_)
                clear hK K
                try simp only [List.getElem_toArray, List.getElem_cons_succ, List.getElem_cons_zero, Act.put, List.setIfInBounds_toArray, List.set_cons_zero, List.set_cons_succ]
                refine mixs_one 12 (by kernel_rfl) rfl (fun K hK => ?_)
                refine op_load_st (by kernel_rfl) 0 hS rfl rfl rfl (by simp [scalarB, go_sem]) rfl ?_
                try clear hC
                refine hK.out _ _ _ (fun _ h => h) (by first | exact hS | exact hS.drop | exact hS.drop.drop | exact hS.drop.drop.drop | exact hS.drop.drop.drop.drop | exact hS.empty | exact hS.one 0 rfl | exact hS.one 1 rfl | exact hS.one 2 rfl | exact hS.one 3 rfl | exact hS.one 4 rfl | exact hS.one 5 rfl | exact hS.one 6 rfl | exact hS.one 7 rfl | exact hS.one 8 rfl | exact hS.one 9 rfl | exact hS.one 10 rfl | exact hS.one 11 rfl) (fun hC => ?_)
                clear hK K
                try simp only [List.getElem_toArray, List.getElem_cons_succ, List.getElem_cons_zero, Act.put, List.setIfInBounds_toArray, List.set_cons_zero, List.set_cons_succ]
                refine mixs_take 14 (v := ?_) rfl (by kernel_rfl) (fun _ _ _ h => h) (by kernel_rfl) (by assumption) (fun s => ?hy) ?_; case hy => (go_simp <;> with_reducible rfl)
                try simp only [List.getElem_toArray, List.getElem_cons_succ, List.getElem_cons_zero, Act.put, List.setIfInBounds_toArray, List.set_cons_zero, List.set_cons_succ]
                refine mixs_take 15 (v := ?_) rfl (by kernel_rfl) (fun _ _ _ h => h) (by kernel_rfl) (by assumption) (fun s => ?hy) ?_; case hy => (go_simp <;> with_reducible rfl)
                try simp only [List.getElem_toArray, List.getElem_cons_succ, List.getElem_cons_zero, Act.put, List.setIfInBounds_toArray, List.set_cons_zero, List.set_cons_succ]
                refine mixs_one 16 (by kernel_rfl) rfl (fun K hK => ?_)
                ( first | (refine op_loadcell_st (by kernel_rfl) 2 hS rfl rfl rfl hsi hc0.out ?_) | (refine op_loadcell_st (by kernel_rfl) 2 hS rfl rfl rfl hss hc1.out ?_) | (go_at_call 80; (with_reducible refine (cPj.out _ hS.pre0).mono ?_); rintro _ w5 ⟨rfl, sv5, hk⟩; have hS1 := hS.call0 hk; clear hS hk; have hS := hS1; clear hS1) )
                try clear hC
                refine hK.out _ _ _ (fun _ h => h) (by first | exact hS | exact hS.drop | exact hS.drop.drop | exact hS.drop.drop.drop | exact hS.drop.drop.drop.drop | exact hS.empty | exact hS.one 0 rfl | exact hS.one 1 rfl | exact hS.one 2 rfl | exact hS.one 3 rfl | exact hS.one 4 rfl | exact hS.one 5 rfl | exact hS.one 6 rfl | exact hS.one 7 rfl | exact hS.one 8 rfl | exact hS.one 9 rfl | exact hS.one 10 rfl | exact hS.one 11 rfl) (fun hC => ?_)
                clear hK K
                try simp only [List.getElem_toArray, List.getElem_cons_succ, List.getElem_cons_zero, Act.put, List.setIfInBounds_toArray, List.set_cons_zero, List.set_cons_succ]
                refine mixs_one 17 (by kernel_rfl) rfl (fun K hK => ?_)
                go_simp
                ( first | (refine op_loadcell_st (by kernel_rfl) 2 hS rfl rfl rfl hsi hc0.out ?_) | (refine op_loadcell_st (by kernel_rfl) 2 hS rfl rfl rfl hss hc1.out ?_) | (go_at_call 80; (with_reducible refine (cPj.out _ hS.pre0).mono ?_); rintro _ w5 ⟨rfl, sv5, hk⟩; have hS1 := hS.call0 hk; clear hS hk; have hS := hS1; clear hS1) )
                try clear hC
                refine hK.out _ _ _ (fun _ h => h) (by first | exact hS | exact hS.drop | exact hS.drop.drop | exact hS.drop.drop.drop | exact hS.drop.drop.drop.drop | exact hS.empty | exact hS.one 0 rfl | exact hS.one 1 rfl | exact hS.one 2 rfl | exact hS.one 3 rfl | exact hS.one 4 rfl | exact hS.one 5 rfl | exact hS.one 6 rfl | exact hS.one 7 rfl | exact hS.one 8 rfl | exact hS.one 9 rfl | exact hS.one 10 rfl | exact hS.one 11 rfl) (fun hC => ?_)
                clear hK K
                try simp only [List.getElem_toArray, List.getElem_cons_succ, List.getElem_cons_zero, Act.put, List.setIfInBounds_toArray, List.set_cons_zero, List.set_cons_succ]
                refine wpAnyH_done (by kernel_rfl) ?_ _
                try clear hC
                go_wp2_with fail
                go_roundg (n - (j + 1))
                case measure => omega
                case rel => exact ⟨j + 1, L1, _, by omega, by go_num, Lib.hid ⟨hfa.out, hl1.out⟩, by rw [hl1'.out]; exact hS⟩
              ·
                refine op_load_st (by kernel_rfl) 0 hS rfl rfl rfl (by simp [scalarB, go_sem]) rfl ?_
                try clear hC
                refine hK.out _ _ _ (fun _ h => h) (by first | exact hS | exact hS.drop | exact hS.drop.drop | exact hS.drop.drop.drop | exact hS.drop.drop.drop.drop | exact hS.empty | exact hS.one 0 rfl | exact hS.one 1 rfl | exact hS.one 2 rfl | exact hS.one 3 rfl | exact hS.one 4 rfl | exact hS.one 5 rfl | exact hS.one 6 rfl | exact hS.one 7 rfl | exact hS.one 8 rfl | exact hS.one 9 rfl | exact hS.one 10 rfl | exact hS.one 11 rfl) (fun hC => ?_)
                clear hK K
                try simp only [List.getElem_toArray, List.getElem_cons_succ, List.getElem_cons_zero, Act.put, List.setIfInBounds_toArray, List.set_cons_zero, List.set_cons_succ]
                refine mixs_take 14 (v := ?_) rfl (by kernel_rfl) (fun _ _ _ h => h) (by kernel_rfl) (by assumption) (fun s => ?hy) ?_; case hy => (go_simp <;> with_reducible rfl)
                try simp only [List.getElem_toArray, List.getElem_cons_succ, List.getElem_cons_zero, Act.put, List.setIfInBounds_toArray, List.set_cons_zero, List.set_cons_succ]
                refine mixs_take 15 (v := ?_) rfl (by kernel_rfl) (fun _ _ _ h => h) (by kernel_rfl) (by assumption) (fun s => ?hy) ?_; case hy => (go_simp <;> with_reducible rfl)
                try simp only [List.getElem_toArray, List.getElem_cons_succ, List.getElem_cons_zero, Act.put, List.setIfInBounds_toArray, List.set_cons_zero, List.set_cons_succ]
                refine mixs_two 8 16 (by kernel_rfl) rfl rfl (fun K hK => ?_) (fun K hK => ?_)
                ·
                  ( first | (refine op_loadcell_st (by kernel_rfl) 2 hS rfl rfl rfl hsi hc0.out ?_) | (refine op_loadcell_st (by kernel_rfl) 2 hS rfl rfl rfl hss hc1.out ?_) | (go_at_call 80; (with_reducible refine (cPj.out _ hS.pre0).mono ?_); rintro _ w5 ⟨rfl, sv5, hk⟩; have hS1 := hS.call0 hk; clear hS hk; have hS := hS1; clear hS1) )
                  try clear hC
                  refine hK.out _ _ _ (fun _ h => h) (by first | exact hS | exact hS.drop | exact hS.drop.drop | exact hS.drop.drop.drop | exact hS.drop.drop.drop.drop | exact hS.empty | exact hS.one 0 rfl | exact hS.one 1 rfl | exact hS.one 2 rfl | exact hS.one 3 rfl | exact hS.one 4 rfl | exact hS.one 5 rfl | exact hS.one 6 rfl | exact hS.one 7 rfl | exact hS.one 8 rfl | exact hS.one 9 rfl | exact hS.one 10 rfl | exact hS.one 11 rfl) (fun hC => ?_)
                  clear hK K
                  try simp only [List.getElem_toArray, List.getElem_cons_succ, List.getElem_cons_zero, Act.put, List.setIfInBounds_toArray, List.set_cons_zero, List.set_cons_succ]
                  refine mixs_one 16 (by kernel_rfl) rfl (fun K hK => ?_)
                  ( first | (refine op_loadcell_st (by kernel_rfl) 2 hS rfl rfl rfl hsi hc0.out ?_) | (refine op_loadcell_st (by kernel_rfl) 2 hS rfl rfl rfl hss hc1.out ?_) | (go_at_call 80; (with_reducible refine (cPj.out _ hS.pre0).mono ?_); rintro _ w5 ⟨rfl, sv5, hk⟩; have hS1 := hS.call0 hk; clear hS hk; have hS := hS1; clear hS1) )
                  try clear hC
                  refine hK.out _ _ _ (fun _ h => h) (by first | exact hS | exact hS.drop | exact hS.drop.drop | exact hS.drop.drop.drop | exact hS.drop.drop.drop.drop | exact hS.empty | exact hS.one 0 rfl | exact hS.one 1 rfl | exact hS.one 2 rfl | exact hS.one 3 rfl | exact hS.one 4 rfl | exact hS.one 5 rfl | exact hS.one 6 rfl | exact hS.one 7 rfl | exact hS.one 8 rfl | exact hS.one 9 rfl | exact hS.one 10 rfl | exact hS.one 11 rfl) (fun hC => ?_)
                  clear hK K
                  try simp only [List.getElem_toArray, List.getElem_cons_succ, List.getElem_cons_zero, Act.put, List.setIfInBounds_toArray, List.set_cons_zero, List.set_cons_succ]
                  refine mixs_one 17 (by kernel_rfl) rfl (fun K hK => ?_)
                  go_simp
                  ( first | (refine op_loadcell_st (by kernel_rfl) 2 hS rfl rfl rfl hsi hc0.out ?_) | (refine op_loadcell_st (by kernel_rfl) 2 hS rfl rfl rfl hss hc1.out ?_) | (go_at_call 80; (with_reducible refine (cPj.out _ hS.pre0).mono ?_); rintro _ w5 ⟨rfl, sv5, hk⟩; have hS1 := hS.call0 hk; clear hS hk; have hS := hS1; clear hS1) )
                  try clear hC
                  refine hK.out _ _ _ (fun _ h => h) (by first | exact hS | exact hS.drop | exact hS.drop.drop | exact hS.drop.drop.drop | exact hS.drop.drop.drop.drop | exact hS.empty | exact hS.one 0 rfl | exact hS.one 1 rfl | exact hS.one 2 rfl | exact hS.one 3 rfl | exact hS.one 4 rfl | exact hS.one 5 rfl | exact hS.one 6 rfl | exact hS.one 7 rfl | exact hS.one 8 rfl | exact hS.one 9 rfl | exact hS.one 10 rfl | exact hS.one 11 rfl) (fun hC => ?_)
                  clear hK K
                  try simp only [List.getElem_toArray, List.getElem_cons_succ, List.getElem_cons_zero, Act.put, List.setIfInBounds_toArray, List.set_cons_zero, List.set_cons_succ]
                  refine wpAnyH_done (by kernel_rfl) ?_ _
                  try clear hC
                  go_wp2_with fail
                  go_roundg (n - (j + 1))
                  case measure => omega
                  case rel => exact ⟨j + 1, L1, _, by omega, by go_num, Lib.hid ⟨hfa.out, hl1.out⟩, by rw [hl1'.out]; exact hS⟩
                ·
                  ( first | (refine op_loadcell_st (by kernel_rfl) 2 hS rfl rfl rfl hsi hc0.out ?_) | (refine op_loadcell_st (by kernel_rfl) 2 hS rfl rfl rfl hss hc1.out ?_) | (go_at_call 80; (with_reducible refine (cPj.out _ hS.pre0).mono ?_); rintro _ w5 ⟨rfl, sv5, hk⟩; have hS1 := hS.call0 hk; clear hS hk; have hS := hS1; clear hS1) )
                  try clear hC
                  refine hK.out _ _ _ (fun _ h => h) (by first | exact hS | exact hS.drop | exact hS.drop.drop | exact hS.drop.drop.drop | exact hS.drop.drop.drop.drop | exact hS.empty | exact hS.one 0 rfl | exact hS.one 1 rfl | exact hS.one 2 rfl | exact hS.one 3 rfl | exact hS.one 4 rfl | exact hS.one 5 rfl | exact hS.one 6 rfl | exact hS.one 7 rfl | exact hS.one 8 rfl | exact hS.one 9 rfl | exact hS.one 10 rfl | exact hS.one 11 rfl) (fun hC => ?_)
                  clear hK K
                  try simp only [List.getElem_toArray, List.getElem_cons_succ, List.getElem_cons_zero, Act.put, List.setIfInBounds_toArray, List.set_cons_zero, List.set_cons_succ]
                  refine mixs_one 8 (by kernel_rfl) rfl (fun K hK => ?_)
                  ( first | (refine op_loadcell_st (by kernel_rfl) 2 hS rfl rfl rfl hsi hc0.out ?_) | (refine op_loadcell_st (by kernel_rfl) 2 hS rfl rfl rfl hss hc1.out ?_) | (go_at_call 80; (with_reducible refine (cPj.out _ hS.pre0).mono ?_); rintro _ w5 ⟨rfl, sv5, hk⟩; have hS1 := hS.call0 hk; clear hS hk; have hS := hS1; clear hS1) )
                  try clear hC
                  refine hK.out _ _ _ (fun _ h => h) (by first | exact hS | exact hS.drop | exact hS.drop.drop | exact hS.drop.drop.drop | exact hS.drop.drop.drop.drop | exact hS.empty | exact hS.one 0 rfl | exact hS.one 1 rfl | exact hS.one 2 rfl | exact hS.one 3 rfl | exact hS.one 4 rfl | exact hS.one 5 rfl | exact hS.one 6 rfl | exact hS.one 7 rfl | exact hS.one 8 rfl | exact hS.one 9 rfl | exact hS.one 10 rfl | exact hS.one 11 rfl) (fun hC => ?_)
                  clear hK K
                  try simp only [List.getElem_toArray, List.getElem_cons_succ, List.getElem_cons_zero, Act.put, List.setIfInBounds_toArray, List.set_cons_zero, List.set_cons_succ]
                  refine mixs_one 17 (by kernel_rfl) rfl (fun K hK => ?_)
                  go_simp
                  ( first | (refine op_loadcell_st (by kernel_rfl) 2 hS rfl rfl rfl hsi hc0.out ?_) | (refine op_loadcell_st (by kernel_rfl) 2 hS rfl rfl rfl hss hc1.out ?_) | (go_at_call 80; (with_reducible refine (cPj.out _ hS.pre0).mono ?_); rintro _ w5 ⟨rfl, sv5, hk⟩; have hS1 := hS.call0 hk; clear hS hk; have hS := hS1; clear hS1) )
                  try clear hC
                  refine hK.out _ _ _ (fun _ h => h) (by first | exact hS | exact hS.drop | exact hS.drop.drop | exact hS.drop.drop.drop | exact hS.drop.drop.drop.drop | exact hS.empty | exact hS.one 0 rfl | exact hS.one 1 rfl | exact hS.one 2 rfl | exact hS.one 3 rfl | exact hS.one 4 rfl | exact hS.one 5 rfl | exact hS.one 6 rfl | exact hS.one 7 rfl | exact hS.one 8 rfl | exact hS.one 9 rfl | exact hS.one 10 rfl | exact hS.one 11 rfl) (fun hC => ?_)
                  clear hK K
                  try simp only [List.getElem_toArray, List.getElem_cons_succ, List.getElem_cons_zero, Act.put, List.setIfInBounds_toArray, List.set_cons_zero, List.set_cons_succ]
                  refine wpAnyH_done (by kernel_rfl) ?_ _
                  try clear hC
                  go_wp2_with fail
                  go_roundg (n - (j + 1))
                  case measure => omega
                  case rel => exact ⟨j + 1, L1, _, by omega, by go_num, Lib.hid ⟨hfa.out, hl1.out⟩, by rw [hl1'.out]; exact hS⟩
            ·
              refine op_load_st (by kernel_rfl) 0 hS rfl rfl rfl (by simp [scalarB, go_sem]) rfl ?_
              try clear hC
              refine hK.out _ _ _ (fun _ h => h) (by first | exact hS | exact hS.drop | exact hS.drop.drop | exact hS.drop.drop.drop | exact hS.drop.drop.drop.drop | exact hS.empty | exact hS.one 0 rfl | exact hS.one 1 rfl | exact hS.one 2 rfl | exact hS.one 3 rfl | exact hS.one 4 rfl | exact hS.one 5 rfl | exact hS.one 6 rfl | exact hS.one 7 rfl | exact hS.one 8 rfl | exact hS.one 9 rfl | exact hS.one 10 rfl | exact hS.one 11 rfl) (fun hC => ?_)
              clear hK K
              try simp only [List.getElem_toArray, List.getElem_cons_succ, List.getElem_cons_zero, Act.put, List.setIfInBounds_toArray, List.set_cons_zero, List.set_cons_succ]
              refine mixs_take 14 (v := ?_) rfl (by kernel_rfl) (fun _ _ _ h => h) (by kernel_rfl) (by assumption) (fun s => ?hy) ?_; case hy => (go_simp <;> with_reducible rfl)
              try simp only [List.getElem_toArray, List.getElem_cons_succ, List.getElem_cons_zero, Act.put, List.setIfInBounds_toArray, List.set_cons_zero, List.set_cons_succ]
              refine mixs_take 15 (v := ?_) rfl (by kernel_rfl) (fun _ _ _ h => h) (by kernel_rfl) (by assumption) (fun s => ?hy) ?_; case hy => (go_simp <;> with_reducible rfl)
              try simp only [List.getElem_toArray, List.getElem_cons_succ, List.getElem_cons_zero, Act.put, List.setIfInBounds_toArray, List.set_cons_zero, List.set_cons_succ]
              refine mixs_two 4 16 (by kernel_rfl) rfl rfl (fun K hK => ?_) (fun K hK => ?_)
              ·
                refine op_load_st (by kernel_rfl) 0 hS rfl rfl rfl (by simp [scalarB, go_sem]) rfl ?_
                try clear hC
                refine hK.out _ _ _ (fun _ h => h) (by first | exact hS | exact hS.drop | exact hS.drop.drop | exact hS.drop.drop.drop | exact hS.drop.drop.drop.drop | exact hS.empty | exact hS.one 0 rfl | exact hS.one 1 rfl | exact hS.one 2 rfl | exact hS.one 3 rfl | exact hS.one 4 rfl | exact hS.one 5 rfl | exact hS.one 6 rfl | exact hS.one 7 rfl | exact hS.one 8 rfl | exact hS.one 9 rfl | exact hS.one 10 rfl | exact hS.one 11 rfl) (fun hC => ?_)
                clear hK K
                try simp only [List.getElem_toArray, List.getElem_cons_succ, List.getElem_cons_zero, Act.put, List.setIfInBounds_toArray, List.set_cons_zero, List.set_cons_succ]
                refine mixs_take 6 (v := ?_) rfl (by kernel_rfl) (fun _ _ _ h => h) (by kernel_rfl) (by assumption) (fun s => ?hy) ?_; case hy => (go_simp <;> with_reducible rfl)
                try simp only [List.getElem_toArray, List.getElem_cons_succ, List.getElem_cons_zero, Act.put, List.setIfInBounds_toArray, List.set_cons_zero, List.set_cons_succ]
                refine mixs_take 7 (v := ?_) rfl (by kernel_rfl) (fun _ _ _ h => h) (by kernel_rfl) (by assumption) (fun s => ?hy) ?_; case hy => (go_simp <;> with_reducible rfl)
                try simp only [List.getElem_toArray, List.getElem_cons_succ, List.getElem_cons_zero, Act.put, List.setIfInBounds_toArray, List.set_cons_zero, List.set_cons_succ]
                refine mixs_two 8 16 (by kernel_rfl) rfl rfl (fun K hK => ?_) (fun K hK => ?_)
                ·
                  ( first | (refine op_loadcell_st (by kernel_rfl) 2 hS rfl rfl rfl hsi hc0.out ?_) | (refine op_loadcell_st (by kernel_rfl) 2 hS rfl rfl rfl hss hc1.out ?_) | (go_at_call 80; (with_reducible refine (cPj.out _ hS.pre0).mono ?_); rintro _ w5 ⟨rfl, sv5, hk⟩; have hS1 := hS.call0 hk; clear hS hk; have hS := hS1; clear hS1) )
                  try clear hC
                  refine hK.out _ _ _ (fun _ h => h) (by first | exact hS | exact hS.drop | exact hS.drop.drop | exact hS.drop.drop.drop | exact hS.drop.drop.drop.drop | exact hS.empty | exact hS.one 0 rfl | exact hS.one 1 rfl | exact hS.one 2 rfl | exact hS.one 3 rfl | exact hS.one 4 rfl | exact hS.one 5 rfl | exact hS.one 6 rfl | exact hS.one 7 rfl | exact hS.one 8 rfl | exact hS.one 9 rfl | exact hS.one 10 rfl | exact hS.one 11 rfl) (fun hC => ?_)
                  clear hK K
                  try simp only [List.getElem_toArray, List.getElem_cons_succ, List.getElem_cons_zero, Act.put, List.setIfInBounds_toArray, List.set_cons_zero, List.set_cons_succ]
                  refine mixs_one 16 (by kernel_rfl) rfl (fun K hK => ?_)
                  ( first | (refine op_loadcell_st (by kernel_rfl) 2 hS rfl rfl rfl hsi hc0.out ?_) | (refine op_loadcell_st (by kernel_rfl) 2 hS rfl rfl rfl hss hc1.out ?_) | (go_at_call 80; (with_reducible refine (cPj.out _ hS.pre0).mono ?_); rintro _ w5 ⟨rfl, sv5, hk⟩; have hS1 := hS.call0 hk; clear hS hk; have hS := hS1; clear hS1) )
                  try clear hC
                  refine hK.out _ _ _ (fun _ h => h) (by first | exact hS | exact hS.drop | exact hS.drop.drop | exact hS.drop.drop.drop | exact hS.drop.drop.drop.drop | exact hS.empty | exact hS.one 0 rfl | exact hS.one 1 rfl | exact hS.one 2 rfl | exact hS.one 3 rfl | exact hS.one 4 rfl | exact hS.one 5 rfl | exact hS.one 6 rfl | exact hS.one 7 rfl | exact hS.one 8 rfl | exact hS.one 9 rfl | exact hS.one 10 rfl | exact hS.one 11 rfl) (fun hC => ?_)
                  clear hK K
                  try simp only [List.getElem_toArray, List.getElem_cons_succ, List.getElem_cons_zero, Act.put, List.setIfInBounds_toArray, List.set_cons_zero, List.set_cons_succ]
                  refine mixs_one 17 (by kernel_rfl) rfl (fun K hK => ?_)
                  go_simp
                  ( first | (refine op_loadcell_st (by kernel_rfl) 2 hS rfl rfl rfl hsi hc0.out ?_) | (refine op_loadcell_st (by kernel_rfl) 2 hS rfl rfl rfl hss hc1.out ?_) | (go_at_call 80; (with_reducible refine (cPj.out _ hS.pre0).mono ?_); rintro _ w5 ⟨rfl, sv5, hk⟩; have hS1 := hS.call0 hk; clear hS hk; have hS := hS1; clear hS1) )
                  try clear hC
                  refine hK.out _ _ _ (fun _ h => h) (by first | exact hS | exact hS.drop | exact hS.drop.drop | exact hS.drop.drop.drop | exact hS.drop.drop.drop.drop | exact hS.empty | exact hS.one 0 rfl | exact hS.one 1 rfl | exact hS.one 2 rfl | exact hS.one 3 rfl | exact hS.one 4 rfl | exact hS.one 5 rfl | exact hS.one 6 rfl | exact hS.one 7 rfl | exact hS.one 8 rfl | exact hS.one 9 rfl | exact hS.one 10 rfl | exact hS.one 11 rfl) (fun hC => ?_)
                  clear hK K
                  try simp only [List.getElem_toArray, List.getElem_cons_succ, List.getElem_cons_zero, Act.put, List.setIfInBounds_toArray, List.set_cons_zero, List.set_cons_succ]
                  refine wpAnyH_done (by kernel_rfl) ?_ _
                  try clear hC
                  go_wp2_with fail
                  go_roundg (n - (j + 1))
                  case measure => omega
                  case rel => exact ⟨j + 1, L1, _, by omega, by go_num, Lib.hid ⟨hfa.out, hl1.out⟩, by rw [hl1'.out]; exact hS⟩
                ·
                  ( first | (refine op_loadcell_st (by kernel_rfl) 2 hS rfl rfl rfl hsi hc0.out ?_) | (refine op_loadcell_st (by kernel_rfl) 2 hS rfl rfl rfl hss hc1.out ?_) | (go_at_call 80; (with_reducible refine (cPj.out _ hS.pre0).mono ?_); rintro _ w5 ⟨rfl, sv5, hk⟩; have hS1 := hS.call0 hk; clear hS hk; have hS := hS1; clear hS1) )
                  try clear hC
                  refine hK.out _ _ _ (fun _ h => h) (by first | exact hS | exact hS.drop | exact hS.drop.drop | exact hS.drop.drop.drop | exact hS.drop.drop.drop.drop | exact hS.empty | exact hS.one 0 rfl | exact hS.one 1 rfl | exact hS.one 2 rfl | exact hS.one 3 rfl | exact hS.one 4 rfl | exact hS.one 5 rfl | exact hS.one 6 rfl | exact hS.one 7 rfl | exact hS.one 8 rfl | exact hS.one 9 rfl | exact hS.one 10 rfl | exact hS.one 11 rfl) (fun hC => ?_)
                  clear hK K
                  try simp only [List.getElem_toArray, List.getElem_cons_succ, List.getElem_cons_zero, Act.put, List.setIfInBounds_toArray, List.set_cons_zero, List.set_cons_succ]
                  refine mixs_one 8 (by kernel_rfl) rfl (fun K hK => ?_)
                  ( first | (refine op_loadcell_st (by kernel_rfl) 2 hS rfl rfl rfl hsi hc0.out ?_) | (refine op_loadcell_st (by kernel_rfl) 2 hS rfl rfl rfl hss hc1.out ?_) | (go_at_call 80; (with_reducible refine (cPj.out _ hS.pre0).mono ?_); rintro _ w5 ⟨rfl, sv5, hk⟩; have hS1 := hS.call0 hk; clear hS hk; have hS := hS1; clear hS1) )
                  try clear hC
                  refine hK.out _ _ _ (fun _ h => h) (by first | exact hS | exact hS.drop | exact hS.drop.drop | exact hS.drop.drop.drop | exact hS.drop.drop.drop.drop | exact hS.empty | exact hS.one 0 rfl | exact hS.one 1 rfl | exact hS.one 2 rfl | exact hS.one 3 rfl | exact hS.one 4 rfl | exact hS.one 5 rfl | exact hS.one 6 rfl | exact hS.one 7 rfl | exact hS.one 8 rfl | exact hS.one 9 rfl | exact hS.one 10 rfl | exact hS.one 11 rfl) (fun hC => ?_)
                  clear hK K
                  try simp only [List.getElem_toArray, List.getElem_cons_succ, List.getElem_cons_zero, Act.put, List.setIfInBounds_toArray, List.set_cons_zero, List.set_cons_succ]
                  refine mixs_one 17 (by kernel_rfl) rfl (fun K hK => ?_)
                  go_simp
                  ( first | (refine op_loadcell_st (by kernel_rfl) 2 hS rfl rfl rfl hsi hc0.out ?_) | (refine op_loadcell_st (by kernel_rfl) 2 hS rfl rfl rfl hss hc1.out ?_) | (go_at_call 80; (with_reducible refine (cPj.out _ hS.pre0).mono ?_); rintro _ w5 ⟨rfl, sv5, hk⟩; have hS1 := hS.call0 hk; clear hS hk; have hS := hS1; clear hS1) )
                  try clear hC
                  refine hK.out _ _ _ (fun _ h => h) (by first | exact hS | exact hS.drop | exact hS.drop.drop | exact hS.drop.drop.drop | exact hS.drop.drop.drop.drop | exact hS.empty | exact hS.one 0 rfl | exact hS.one 1 rfl | exact hS.one 2 rfl | exact hS.one 3 rfl | exact hS.one 4 rfl | exact hS.one 5 rfl | exact hS.one 6 rfl | exact hS.one 7 rfl | exact hS.one 8 rfl | exact hS.one 9 rfl | exact hS.one 10 rfl | exact hS.one 11 rfl) (fun hC => ?_)
                  clear hK K
                  try simp only [List.getElem_toArray, List.getElem_cons_succ, List.getElem_cons_zero, Act.put, List.setIfInBounds_toArray, List.set_cons_zero, List.set_cons_succ]
                  refine wpAnyH_done (by kernel_rfl) ?_ _
                  try clear hC
                  go_wp2_with fail
                  go_roundg (n - (j + 1))
                  case measure => omega
                  case rel => exact ⟨j + 1, L1, _, by omega, by go_num, Lib.hid ⟨hfa.out, hl1.out⟩, by rw [hl1'.out]; exact hS⟩
              ·
                ( first | (refine op_loadcell_st (by kernel_rfl) 2 hS rfl rfl rfl hsi hc0.out ?_) | (refine op_loadcell_st (by kernel_rfl) 2 hS rfl rfl rfl hss hc1.out ?_) | (go_at_call 80; (with_reducible refine (cPj.out _ hS.pre0).mono ?_); rintro _ w5 ⟨rfl, sv5, hk⟩; have hS1 := hS.call0 hk; clear hS hk; have hS := hS1; clear hS1) )
                try clear hC
                refine hK.out _ _ _ (fun _ h => h) (by first | exact hS | exact hS.drop | exact hS.drop.drop | exact hS.drop.drop.drop | exact hS.drop.drop.drop.drop | exact hS.empty | exact hS.one 0 rfl | exact hS.one 1 rfl | exact hS.one 2 rfl | exact hS.one 3 rfl | exact hS.one 4 rfl | exact hS.one 5 rfl | exact hS.one 6 rfl | exact hS.one 7 rfl | exact hS.one 8 rfl | exact hS.one 9 rfl | exact hS.one 10 rfl | exact hS.one 11 rfl) (fun hC => ?_)
                clear hK K
                try simp only [List.getElem_toArray, List.getElem_cons_succ, List.getElem_cons_zero, Act.put, List.setIfInBounds_toArray, List.set_cons_zero, List.set_cons_succ]
                refine mixs_one 4 (by kernel_rfl) rfl (fun K hK => ?_)
                refine op_load_st (by kernel_rfl) 0 hS rfl rfl rfl (by simp [scalarB, go_sem]) rfl ?_
                try clear hC
                refine hK.out _ _ _ (fun _ h => h) (by first | exact hS | exact hS.drop | exact hS.drop.drop | exact hS.drop.drop.drop | exact hS.drop.drop.drop.drop | exact hS.empty | exact hS.one 0 rfl | exact hS.one 1 rfl | exact hS.one 2 rfl | exact hS.one 3 rfl | exact hS.one 4 rfl | exact hS.one 5 rfl | exact hS.one 6 rfl | exact hS.one 7 rfl | exact hS.one 8 rfl | exact hS.one 9 rfl | exact hS.one 10 rfl | exact hS.one 11 rfl) (fun hC => ?_)
                clear hK K
                try simp only [List.getElem_toArray, List.getElem_cons_succ, List.getElem_cons_zero, Act.put, List.setIfInBounds_toArray, List.set_cons_zero, List.set_cons_succ]
                refine mixs_take 6 (v := ?_) rfl (by kernel_rfl) (fun _ _ _ h => h) (by kernel_rfl) (by assumption) (fun s => ?hy) ?_; case hy => (go_simp <;> with_reducible rfl)
                try simp only [List.getElem_toArray, List.getElem_cons_succ, List.getElem_cons_zero, Act.put, List.setIfInBounds_toArray, List.set_cons_zero, List.set_cons_succ]
                refine mixs_take 7 (v := ?_) rfl (by kernel_rfl) (fun _ _ _ h => h) (by kernel_rfl) (by assumption) (fun s => ?hy) ?_; case hy => (go_simp <;> with_reducible rfl)
                try simp only [List.getElem_toArray, List.getElem_cons_succ, List.getElem_cons_zero, Act.put, List.setIfInBounds_toArray, List.set_cons_zero, List.set_cons_succ]
                refine mixs_one 8 (by kernel_rfl) rfl (fun K hK => ?_)
                ( first | (refine op_loadcell_st (by kernel_rfl) 2 hS rfl rfl rfl hsi hc0.out ?_) | (refine op_loadcell_st (by kernel_rfl) 2 hS rfl rfl rfl hss hc1.out ?_) | (go_at_call 80; (with_reducible refine (cPj.out _ hS.pre0).mono ?_); rintro _ w5 ⟨rfl, sv5, hk⟩; have hS1 := hS.call0 hk; clear hS hk; have hS := hS1; clear hS1) )
                try clear hC
                refine hK.out _ _ _ (fun _ h => h) (by first | exact hS | exact hS.drop | exact hS.drop.drop | exact hS.drop.drop.drop | exact hS.drop.drop.drop.drop | exact hS.empty | exact hS.one 0 rfl | exact hS.one 1 rfl | exact hS.one 2 rfl | exact hS.one 3 rfl | exact hS.one 4 rfl | exact hS.one 5 rfl | exact hS.one 6 rfl | exact hS.one 7 rfl | exact hS.one 8 rfl | exact hS.one 9 rfl | exact hS.one 10 rfl | exact hS.one 11 rfl) (fun hC => ?_)
                clear hK K
                try simp only [List.getElem_toArray, List.getElem_cons_succ, List.getElem_cons_zero, Act.put, List.setIfInBounds_toArray, List.set_cons_zero, List.set_cons_succ]
                refine mixs_one 17 (by kernel_rfl) rfl (fun K hK => ?_)
                go_simp
                ( first | (refine op_loadcell_st (by kernel_rfl) 2 hS rfl rfl rfl hsi hc0.out ?_) | (refine op_loadcell_st (by kernel_rfl) 2 hS rfl rfl rfl hss hc1.out ?_) | (go_at_call 80; (with_reducible refine (cPj.out _ hS.pre0).mono ?_); rintro _ w5 ⟨rfl, sv5, hk⟩; have hS1 := hS.call0 hk; clear hS hk; have hS := hS1; clear hS1) )
                try clear hC
                refine hK.out _ _ _ (fun _ h => h) (by first | exact hS | exact hS.drop | exact hS.drop.drop | exact hS.drop.drop.drop | exact hS.drop.drop.drop.drop | exact hS.empty | exact hS.one 0 rfl | exact hS.one 1 rfl | exact hS.one 2 rfl | exact hS.one 3 rfl | exact hS.one 4 rfl | exact hS.one 5 rfl | exact hS.one 6 rfl | exact hS.one 7 rfl | exact hS.one 8 rfl | exact hS.one 9 rfl | exact hS.one 10 rfl | exact hS.one 11 rfl) (fun hC => ?_)
                clear hK K
                try simp only [List.getElem_toArray, List.getElem_cons_succ, List.getElem_cons_zero, Act.put, List.setIfInBounds_toArray, List.set_cons_zero, List.set_cons_succ]
                refine wpAnyH_done (by kernel_rfl) ?_ _
                try clear hC
                go_wp2_with fail
                go_roundg (n - (j + 1))
                case measure => omega
                case rel => exact ⟨j + 1, L1, _, by omega, by go_num, Lib.hid ⟨hfa.out, hl1.out⟩, by rw [hl1'.out]; exact hS⟩
          · have hfv : Dk.fate keep j = 2 := hft.trans h3
            rw [hfv, if_neg (by omega), if_pos rfl] at hfa
            replace hfa := Lib.hid hfa
            clear hft hfv
            go_wp2_with (first
              | (with_reducible refine wpList_box_st hS rfl rfl rfl ?_; intro g1 w1 hS1; clear hS; replace hS := hS1; clear hS1) | (with_reducible refine wpList_box1_st hS rfl rfl rfl ?_; intro g1 w1 hS1; clear hS; replace hS := hS1; clear hS1) | (with_reducible refine wpList_alloc_st hS rfl rfl (by assumption) ?_; intro g1 w1 hS1; clear hS; replace hS := hS1; clear hS1) | (with_reducible refine wpList_alloc1_st hS rfl rfl (by assumption) rfl ?_; intro g1 w1 hS1; clear hS; replace hS := hS1; clear hS1) | ((with_reducible refine wpList_load_st 0 hS rfl rfl rfl rfl ?_ rfl ?_); focus (simp [scalarB, go_sem]; done)) | ((with_reducible refine wpList_loadall_st 0 hS rfl rfl rfl rfl ?_ (by kernel_rfl) ?_); focus (simp [rowB, go_sem]; done)) | ((with_reducible refine wpList_store_st 0 hS rfl rfl rfl rfl (by kernel_rfl) rfl rfl ?_); intro w1 hS1; clear hS; replace hS := hS1; clear hS1; try simp only [List.set_cons_zero, List.set_cons_succ, List.setIfInBounds_toArray, List.take_succ_cons, List.take_zero, List.drop_succ_cons, List.drop_zero, List.nil_append, List.cons_append, List.append_nil, List.drop_nil, List.take_nil, List.length_cons, List.length_nil, Nat.zero_add, Nat.add_zero, Nat.reduceAdd] at hS) | ((with_reducible refine wpList_storerow_st 0 hS rfl rfl rfl rfl (by kernel_rfl) rfl rfl rfl rfl ?_); intro w1 hS1; clear hS; replace hS := hS1; clear hS1; try simp only [List.set_cons_zero, List.set_cons_succ, List.setIfInBounds_toArray, List.take_succ_cons, List.take_zero, List.drop_succ_cons, List.drop_zero, List.nil_append, List.cons_append, List.append_nil, List.drop_nil, List.take_nil, List.length_cons, List.length_nil, Nat.zero_add, Nat.add_zero, Nat.reduceAdd] at hS)
              | (with_reducible refine wpList_loadcell_st 2 hS rfl rfl rfl rfl hsi hc0.out ?_)
              | (go_at_call 80; (with_reducible refine (cBj.out _ hS.pre0).mono ?_); rintro _ w5 ⟨rfl, sv5, hk⟩; have hS1 := hS.call0 hk; clear hS hk; have hS := hS1; clear hS1))
            go_roundg (n - (j + 1))
            case measure => omega
            case rel => exact ⟨j + 1, L2, _, by omega, by go_num, Lib.hid ⟨hfa.out, hl2.out⟩, by rw [hl2'.out]; exact hS⟩
        · rw [if_neg h0] at hft
          rw [hft, if_neg (by omega), if_neg (by omega)] at hfa
          have h1 : z < 0 := by omega
          clear h0 hft
          replace hfa := Lib.hid hfa
          go_wp2_with (first | (with_reducible refine wpList_box_st hS rfl rfl rfl ?_; intro g1 w1 hS1; clear hS; replace hS := hS1; clear hS1) | (with_reducible refine wpList_box1_st hS rfl rfl rfl ?_; intro g1 w1 hS1; clear hS; replace hS := hS1; clear hS1) | (with_reducible refine wpList_alloc_st hS rfl rfl (by assumption) ?_; intro g1 w1 hS1; clear hS; replace hS := hS1; clear hS1) | (with_reducible refine wpList_alloc1_st hS rfl rfl (by assumption) rfl ?_; intro g1 w1 hS1; clear hS; replace hS := hS1; clear hS1) | ((with_reducible refine wpList_load_st 0 hS rfl rfl rfl rfl ?_ rfl ?_); focus (simp [scalarB, go_sem]; done)) | ((with_reducible refine wpList_loadall_st 0 hS rfl rfl rfl rfl ?_ (by kernel_rfl) ?_); focus (simp [rowB, go_sem]; done)) | ((with_reducible refine wpList_store_st 0 hS rfl rfl rfl rfl (by kernel_rfl) rfl rfl ?_); intro w1 hS1; clear hS; replace hS := hS1; clear hS1; try simp only [List.set_cons_zero, List.set_cons_succ, List.setIfInBounds_toArray, List.take_succ_cons, List.take_zero, List.drop_succ_cons, List.drop_zero, List.nil_append, List.cons_append, List.append_nil, List.drop_nil, List.take_nil, List.length_cons, List.length_nil, Nat.zero_add, Nat.add_zero, Nat.reduceAdd] at hS) | ((with_reducible refine wpList_storerow_st 0 hS rfl rfl rfl rfl (by kernel_rfl) rfl rfl rfl rfl ?_); intro w1 hS1; clear hS; replace hS := hS1; clear hS1; try simp only [List.set_cons_zero, List.set_cons_succ, List.setIfInBounds_toArray, List.take_succ_cons, List.take_zero, List.drop_succ_cons, List.drop_zero, List.nil_append, List.cons_append, List.append_nil, List.drop_nil, List.take_nil, List.length_cons, List.length_nil, Nat.zero_add, Nat.add_zero, Nat.reduceAdd] at hS))
          go_roundg (n - (j + 1))
          case measure => omega
          case rel => exact ⟨j + 1, l, _, by omega, by go_num, Lib.hid ⟨hfa.out, hll.out⟩, hS⟩
      · have hfv : Dk.fate keep j = 0 := by rw [Dk.fate, if_neg (by rw [hkn.out]; omega)]
        clear hks hkb hkn
        rw [hfv, if_neg (by omega), if_neg (by omega)] at hfa
        clear hfv
        replace hfa := Lib.hid hfa
        go_wp2_with (first | (with_reducible refine wpList_box_st hS rfl rfl rfl ?_; intro g1 w1 hS1; clear hS; replace hS := hS1; clear hS1) | (with_reducible refine wpList_box1_st hS rfl rfl rfl ?_; intro g1 w1 hS1; clear hS; replace hS := hS1; clear hS1) | (with_reducible refine wpList_alloc_st hS rfl rfl (by assumption) ?_; intro g1 w1 hS1; clear hS; replace hS := hS1; clear hS1) | (with_reducible refine wpList_alloc1_st hS rfl rfl (by assumption) rfl ?_; intro g1 w1 hS1; clear hS; replace hS := hS1; clear hS1) | ((with_reducible refine wpList_load_st 0 hS rfl rfl rfl rfl ?_ rfl ?_); focus (simp [scalarB, go_sem]; done)) | ((with_reducible refine wpList_loadall_st 0 hS rfl rfl rfl rfl ?_ (by kernel_rfl) ?_); focus (simp [rowB, go_sem]; done)) | ((with_reducible refine wpList_store_st 0 hS rfl rfl rfl rfl (by kernel_rfl) rfl rfl ?_); intro w1 hS1; clear hS; replace hS := hS1; clear hS1; try simp only [List.set_cons_zero, List.set_cons_succ, List.setIfInBounds_toArray, List.take_succ_cons, List.take_zero, List.drop_succ_cons, List.drop_zero, List.nil_append, List.cons_append, List.append_nil, List.drop_nil, List.take_nil, List.length_cons, List.length_nil, Nat.zero_add, Nat.add_zero, Nat.reduceAdd] at hS) | ((with_reducible refine wpList_storerow_st 0 hS rfl rfl rfl rfl (by kernel_rfl) rfl rfl rfl rfl ?_); intro w1 hS1; clear hS; replace hS := hS1; clear hS1; try simp only [List.set_cons_zero, List.set_cons_succ, List.setIfInBounds_toArray, List.take_succ_cons, List.take_zero, List.drop_succ_cons, List.drop_zero, List.nil_append, List.cons_append, List.append_nil, List.drop_nil, List.take_nil, List.length_cons, List.length_nil, Nat.zero_add, Nat.add_zero, Nat.reduceAdd] at hS))
        go_roundg (n - (j + 1))
        case measure => omega
        case rel => exact ⟨j + 1, l, _, by omega, by go_num, Lib.hid ⟨hfa.out, hll.out⟩, hS⟩
    · have hfin : Dk.fall keep 0 sec wl = l := by
        rw [hfa, List.drop_of_length_le (by have := hn.out; omega)]
        rfl
      rw [hll, ← hfin] at hS
      replace hfin := Lib.hid hfin
      clear hfa hll hwok hcell hn hks hkb hkn
      go_wp2_with (first | (with_reducible refine wpList_box_st hS rfl rfl rfl ?_; intro g1 w1 hS1; clear hS; replace hS := hS1; clear hS1) | (with_reducible refine wpList_box1_st hS rfl rfl rfl ?_; intro g1 w1 hS1; clear hS; replace hS := hS1; clear hS1) | (with_reducible refine wpList_alloc_st hS rfl rfl (by assumption) ?_; intro g1 w1 hS1; clear hS; replace hS := hS1; clear hS1) | (with_reducible refine wpList_alloc1_st hS rfl rfl (by assumption) rfl ?_; intro g1 w1 hS1; clear hS; replace hS := hS1; clear hS1) | ((with_reducible refine wpList_load_st 0 hS rfl rfl rfl rfl ?_ rfl ?_); focus (simp [scalarB, go_sem]; done)) | ((with_reducible refine wpList_loadall_st 0 hS rfl rfl rfl rfl ?_ (by kernel_rfl) ?_); focus (simp [rowB, go_sem]; done)) | ((with_reducible refine wpList_store_st 0 hS rfl rfl rfl rfl (by kernel_rfl) rfl rfl ?_); intro w1 hS1; clear hS; replace hS := hS1; clear hS1; try simp only [List.set_cons_zero, List.set_cons_succ, List.setIfInBounds_toArray, List.take_succ_cons, List.take_zero, List.drop_succ_cons, List.drop_zero, List.nil_append, List.cons_append, List.append_nil, List.drop_nil, List.take_nil, List.length_cons, List.length_nil, Nat.zero_add, Nat.add_zero, Nat.reduceAdd] at hS) | ((with_reducible refine wpList_storerow_st 0 hS rfl rfl rfl rfl (by kernel_rfl) rfl rfl rfl rfl ?_); intro w1 hS1; clear hS; replace hS := hS1; clear hS1; try simp only [List.set_cons_zero, List.set_cons_succ, List.setIfInBounds_toArray, List.take_succ_cons, List.take_zero, List.drop_succ_cons, List.drop_zero, List.nil_append, List.cons_append, List.append_nil, List.drop_nil, List.take_nil, List.length_cons, List.length_nil, Nat.zero_add, Nat.add_zero, Nat.reduceAdd] at hS))
      exact bodyPost_end (results_none rfl _ _ _) rfl ⟨rfl, _, _, (hS.nilrow 141 2).rot3.front (A := [_, _, _])⟩
end Go.Proofs.Ytlhpibniecfofaa
end
