/- Texts laid together: Disk8 Disk9 St8 Cut St9. -/
import Derived.Test.YtlhpibniecfofaaM4
section
/- The walk of Crash. -/
set_option linter.unusedSimpArgs false
set_option linter.unusedVariables false
namespace Go.Proofs.Ytlhpibniecfofaa
open Go.RowKit Go.Ofp
set_option linter.unusedVariables false
set_option maxRecDepth 100000
set_option maxHeartbeats 4000000

def vi (x : Int) : Value := .int .i64 x
theorem sl_int {w : World} {a : Option Addr} {l : List Int} (h : Sl w a (l.map vi)) (i : Nat) (hi : i < l.length) :
    ∃ b off, a = some ⟨b, off, none⟩ ∧ w.cell? ⟨b, off + i, none⟩ = some (.int .i64 (l[i])) := by
  obtain ⟨b, off, ha, hc⟩ := h i (by simpa using hi)
  exact ⟨b, off, ha, by simpa [vi] using hc⟩

theorem fall_cons (keep : List Int) (j : Nat) (l : List Sc) (x : Wt) (r : List Wt) : Dk.fall keep j l (x :: r) = Dk.fall keep (j + 1) (Dk.fall1 keep l j x) r := rfl
theorem sc_setbad (l : List Sc) (hl : ∀ s ∈ l, s.b.length = 64) (q : Nat) (hq : q < l.length) :
    (l.map scRow).flatten.take (q * 65 + 64) ++ [.bool true] ++ (l.map scRow).flatten.drop (q * 65 + 64 + 1) = ((l.modify q (fun s => { s with bad := true })).map scRow).flatten := by
  have he := sc_map_each hl
  have hqb := hl l[q] (List.getElem_mem hq)
  have hm : l.modify q (fun s => { s with bad := true }) = l.set q { l[q] with bad := true } := by
    apply List.ext_getElem (by simp)
    intro i h1 h2
    rw [List.getElem_modify, List.getElem_set]
    split
    · rename_i e; subst e; rfl
    · rfl
  rw [hm, List.map_set, ← flat_set 65 _ he q (by simpa using hq)]
  have h1 : (l.map scRow).flatten.take (q * 65 + 64) = (l.map scRow).flatten.take (q * 65) ++ l[q].b.map vb := by
    have e1 := flat_elem 65 _ he q (by simpa using hq)
    rw [List.getElem_map] at e1
    have e2 := sc_bytes l[q] hqb
    rw [← e1, List.take_take] at e2
    rw [List.take_add, ← e2]
    rfl
  rw [h1]
  simp [scRow, List.append_assoc]

theorem crash_any (bd : Nat) (sv wv : Value) (d : Dk) (ak : Option Addr) (keep : List Int) (nk ck : Nat) (w : World) (h : St w (feet (dks bd sv wv d)) (dks bd sv wv d) w) (hok : d.Ok) (hw : d.wait.length ≤ 100000)
    (hks : Sl w ak (keep.map vi)) (hkb : ∀ z ∈ keep, z ≤ 9223372036854775807) (hkn : keep.length = nk) (hkm : nk ≤ maxLen) (hap : 0 < nk → ∀ b o, ak = some ⟨b, o, none⟩ → b ∉ feet (dks bd sv wv d)) :
    Calls Try.prog 21 #[.pointer (some ⟨bd, 0, none⟩), .slice ak nk ck] w fun e w' => e = .returned (.tuple #[]) ∧ ∃ wv', St w (feet (dks bd sv wv d)) (dks bd sv wv' (d.crash keep)) w' := by
  have hwe := wt_each hok
  have hwl : (d.wait.map wtRow).length = d.wait.length := List.length_map _
  have hwload : ∀ j (hj : j < d.wait.length), (((d.wait.map wtRow).flatten).drop (j * 66)).take 66 = wtRow d.wait[j] := by
    intro j hj
    rw [flat_elem 66 _ hwe j (by rw [hwl]; exact hj), List.getElem_map]
  have hwok := hok.wait
  have hso := hok.sec
  have hpos := hok.pos
  have ew := elem_wt
  have hfl := (Dk.fall_ok keep d.wait 0 d.sec hok.sec fun w hw => (hok.wait w hw).2.2).2
  have hS := h
  generalize feet (dks bd sv wv d) = F at hS hap ⊢
  clear h hok
  unfold dks at hS ⊢
  unfold Dk.crash
  simp only [hfl, List.map_nil, List.flatten_nil, List.length_nil] at hS ⊢
  clear hfl
  obtain ⟨gs, cs, rfl, -⟩ := hS.rowat 1 rfl hpos
  obtain ⟨aw, cw, rfl, -⟩ := hS.row 2 rfl
  generalize d.wait = wl at *
  generalize d.sec = sec at *
  generalize d.fuse = fz at *
  generalize d.dead = dd at *
  generalize (wl.map wtRow).flatten = R2 at *
  obtain ⟨n, hn⟩ : ∃ n, wl.length = n := ⟨_, rfl⟩
  obtain ⟨ns, hns⟩ : ∃ n, sec.length = n := ⟨_, rfl⟩
  rw [hn] at hw hS
  rw [hns] at hpos hwok hS ⊢
  unfold maxLen at hkm
  replace hwload := Lib.hid hwload
  replace hwok := Lib.hid hwok
  replace hso := Lib.hid hso
  replace hn := Lib.hid hn
  replace hns := Lib.hid hns
  replace hkn := Lib.hid hkn
  replace hks := Lib.hid hks
  replace hap := Lib.hid hap
  replace hkb := Lib.hid hkb
  go_enter Try.func21, Try.ntmps21
  go_wp2_with ((with_reducible refine wpList_load_st 0 hS rfl rfl rfl rfl ?_ rfl ?_); focus (simp [scalarB, go_sem]; done))
  go_loopg [14] n (fun gk vx wr => ∃ (j : Nat) (l : List Sc), j + gk = n ∧ vx = .int .i64 j ∧ Hid (Dk.fall keep 0 sec wl = Dk.fall keep j l (wl.drop j) ∧ l.length = ns ∧ ∀ s ∈ l, s.b.length = 64) ∧ St w F [Ch.blk bd 117 #[.slice (some ⟨gs, 0, none⟩) ns cs, .slice aw n cw, .int .i64 fz, .bool dd], Ch.row 122 65 (.slice (some ⟨gs, 0, none⟩) ns cs) ns (l.map scRow).flatten, Ch.row 125 66 (.slice aw n cw) n R2] wr)
  case atStart => exact ⟨0, sec, Nat.zero_add _, rfl, Lib.hid ⟨rfl, hns.out, hso.out⟩, hS⟩
  case round =>
    clear hS
    obtain ⟨j, l, hjn, rfl, hl, hS⟩ := hrel
    by_cases hlt : j < n
    · have hj' : j < wl.length := by have := hn.out; omega
      have hl2 := hwload.out j hj'
      obtain ⟨hp1, hp2, hw2⟩ := hwok.out wl[j] (List.getElem_mem hj')
      obtain ⟨hnext, hll, hle⟩ := hl.out
      rw [List.drop_eq_getElem_cons hj', fall_cons] at hnext
      have hle2 := sc_map_each hle
      obtain ⟨gw, cw', hwv, -⟩ := hS.rowat 2 rfl (by omega)
      cases hwv
      generalize wl[j] = x at hl2 hw2 hnext hp1 hp2
      obtain ⟨q, hq⟩ := Int.eq_ofNat_of_zero_le hp1
      have hqn : q < ns := by omega
      have hp0 : (wtRow x).toArray[0]? = some (.int .i64 q) := by rw [← hq]; rfl
      have hxl := wtRow_length x hw2
      have hxo : (wtRow x).all Value.oneCell' = true := by rw [List.all_eq_true]; exact wt_rowone x
      have hz1 := store_whole (xs := Value.int .i64 0 :: scZero) (ys := wtRow x) (n := 66) (by simp [scZero]) hxl
      have hsec : ((wtRow x).toArray.toList.drop 1).take 65 = scRow ⟨x.b, false⟩ := wt_sector x hw2
      have hset := flat_set 65 _ hle2 q (by rw [List.length_map, hll]; exact hqn) (scRow ⟨x.b, false⟩)
      rw [← List.map_set] at hset
      have hbad := sc_setbad l hle q (by rw [hll]; exact hqn)
      have hsl2 := scRow_length ⟨x.b, false⟩ hw2
      have hso2 := sc_rowone ⟨x.b, false⟩
      have hf1 : Dk.fall1 keep l j x = if Dk.fate keep j = 1 then l.set q ⟨x.b, false⟩ else if Dk.fate keep j = 2 then l.modify q (fun s => { s with bad := true }) else l := by
        rw [Dk.fall1, hq, Int.toNat_natCast]
      have hsl : (l.set q ⟨x.b, false⟩).length = ns := by rw [List.length_set, hll]
      have hml : (l.modify q (fun s => { s with bad := true })).length = ns := by rw [List.length_modify, hll]
      have hse : ∀ s ∈ l.set q ⟨x.b, false⟩, s.b.length = 64 := Dk.set_ok hle hw2
      have hme : ∀ s ∈ l.modify q (fun s => { s with bad := true }), s.b.length = 64 := by
        intro s hs
        obtain ⟨k, hk, rfl⟩ := List.getElem_of_mem hs
        rw [List.getElem_modify]
        have hm := hle _ (List.getElem_mem (l := l) (n := k) (by simpa using hk))
        split
        · exact hm
        · exact hm
      rw [hf1] at hnext
      replace hl2 := Lib.hid hl2
      replace hp0 := Lib.hid hp0
      replace hxl := Lib.hid hxl
      replace hxo := Lib.hid hxo
      replace hz1 := Lib.hid hz1
      replace hsec := Lib.hid hsec
      replace hsl2 := Lib.hid hsl2
      replace hso2 := Lib.hid hso2
      replace hset := Lib.hid hset
      replace hbad := Lib.hid hbad
      replace hll := Lib.hid hll
      replace hle := Lib.hid hle
      replace hsl := Lib.hid hsl
      replace hml := Lib.hid hml
      replace hse := Lib.hid hse
      replace hme := Lib.hid hme
      clear hwok hwload hl hso hle2 hp1 hp2 hq hw2 hf1 hn hns
      generalize hR1 : (l.map scRow).flatten = R1 at *
      replace hR1 := Lib.hid hR1
      by_cases hjk : j < nk
      · have hjl : j < keep.length := by rw [hkn.out]; exact hjk
        obtain ⟨bk, ok, rfl, hcz⟩ := sl_int hks.out j hjl
        have hft : Dk.fate keep j = if 0 ≤ keep[j] then keep[j] % 3 else 0 := by
          unfold Dk.fate
          have : keep.getD j 0 = keep[j] := by rw [List.getD_eq_getElem?_getD, List.getElem?_eq_getElem hjl]; rfl
          rw [this]
          simp [hjl]
        have hzb := hkb.out keep[j] (List.getElem_mem hjl)
        generalize keep[j] = z at hcz hft hzb
        replace hcz := Lib.hid hcz
        clear hks hkb hkn
        by_cases h0 : 0 ≤ z
        · rw [if_pos h0] at hft
          have h3 : z % 3 = 0 ∨ z % 3 = 1 ∨ z % 3 = 2 := by omega
          rcases h3 with h3 | h3 | h3
          · have hfv : Dk.fate keep j = 0 := hft.trans h3
            rw [hfv, if_neg (by omega), if_neg (by omega)] at hnext
            replace hnext := Lib.hid hnext
            go_wp2_with (first
              | ((with_reducible refine wpList_loadelem_st 2 j hS rfl rfl rfl rfl rfl ?_ (by kernel_rfl) hl2.out hxl.out ?_); focus (simp [rowB, go_sem]; done))
              | ((with_reducible refine wpList_alloc_st hS rfl rfl ew ?_); intro g3 w1 hS1; clear hS; have hS := hS1; clear hS1)
              | ((with_reducible refine wpList_storerow_st 0 (vs := wtRow x) (n := 66) hS rfl rfl rfl rfl (by kernel_rfl) rfl hxl.out hxo.out rfl ?_); intro w1 hS1; clear hS; simp only [List.set_cons_zero] at hS1; rw [hz1.out] at hS1; have hS := hS1; clear hS1; have hz := hS.old hcz.out (hap.out (by omega) _ _ rfl)))
            rw [← hR1.out] at hS
            go_roundg (n - (j + 1))
            case measure => omega
            case rel => exact ⟨j + 1, l, by omega, by go_num, Lib.hid ⟨hnext.out, hll.out, hle.out⟩, hS.drop⟩
          · have hfv : Dk.fate keep j = 1 := hft.trans h3
            rw [hfv, if_pos rfl] at hnext
            replace hnext := Lib.hid hnext
            go_wp2_with (first
              | ((with_reducible refine wpList_loadelem_st 2 j hS rfl rfl rfl rfl rfl ?_ (by kernel_rfl) hl2.out hxl.out ?_); focus (simp [rowB, go_sem]; done))
              | ((with_reducible refine wpList_alloc_st hS rfl rfl ew ?_); intro g3 w1 hS1; clear hS; have hS := hS1; clear hS1)
              | ((with_reducible refine wpList_storerow_st 0 (vs := wtRow x) (n := 66) hS rfl rfl rfl rfl (by kernel_rfl) rfl hxl.out hxo.out rfl ?_); intro w1 hS1; clear hS; simp only [List.set_cons_zero] at hS1; rw [hz1.out] at hS1; have hS := hS1; clear hS1; have hz := hS.old hcz.out (hap.out (by omega) _ _ rfl)))
            have hr65 : rowB Try.prog 122 = true := by simp [rowB, go_sem]
            have hsc : scalarB Try.prog 3 = true := by simp [scalarB, go_sem]
            refine mixs_beginE (by kernel_rfl) hS ?_
            clear hS
            intro w2 hS hC
            refine mixs_take 0 (v := ?_) rfl (by kernel_rfl) (fun _ _ _ h => h) (by kernel_rfl) (by assumption) (fun s => ?hy) ?_; case hy => (go_simp <;> with_reducible rfl)
            try simp only [List.getElem_toArray, List.getElem_cons_succ, List.getElem_cons_zero, Act.put, List.setIfInBounds_toArray, List.set_cons_zero, List.set_cons_succ]
            refine mixs_take 1 (v := ?_) rfl (by kernel_rfl) (fun _ _ _ h => h) (by kernel_rfl) (by assumption) (fun s => ?hy) ?_; case hy => (go_simp <;> with_reducible rfl)
            try simp only [List.getElem_toArray, List.getElem_cons_succ, List.getElem_cons_zero, Act.put, List.setIfInBounds_toArray, List.set_cons_zero, List.set_cons_succ]
            refine mixs_take 2 (v := ?_) rfl (by kernel_rfl) (fun _ _ _ h => h) (by kernel_rfl) (by assumption) (fun s => ?hy) ?_; case hy => (go_simp <;> with_reducible rfl)
            try simp only [List.getElem_toArray, List.getElem_cons_succ, List.getElem_cons_zero, Act.put, List.setIfInBounds_toArray, List.set_cons_zero, List.set_cons_succ]
            refine mixs_take 4 (v := ?_) rfl (by kernel_rfl) (fun _ _ _ h => h) (by kernel_rfl) (by assumption) (fun s => ?hy) ?_; case hy => (go_simp <;> with_reducible rfl)
            try simp only [List.getElem_toArray, List.getElem_cons_succ, List.getElem_cons_zero, Act.put, List.setIfInBounds_toArray, List.set_cons_zero, List.set_cons_succ]
            refine mixs_take 6 (v := ?_) rfl (by kernel_rfl) (fun _ _ _ h => h) (by kernel_rfl) (by assumption) (fun s => ?hy) ?_; case hy => (go_simp <;> with_reducible rfl)
            try simp only [List.getElem_toArray, List.getElem_cons_succ, List.getElem_cons_zero, Act.put, List.setIfInBounds_toArray, List.set_cons_zero, List.set_cons_succ]
            refine mixs_three 3 5 7 (by kernel_rfl) rfl rfl rfl (fun K hK => ?_) (fun K hK => ?_) (fun K hK => ?_)
            ·
              refine op_load_st (by kernel_rfl) 1 hS rfl rfl rfl (by simp [scalarB, go_sem]) rfl ?_
              try clear hC
              refine hK.out _ _ _ (fun _ h => h) (by first | exact hS | exact hS.drop | exact hS.drop.drop | exact hS.drop.drop.drop | exact hS.drop.drop.drop.drop | exact hS.empty | exact hS.one 0 rfl | exact hS.one 1 rfl | exact hS.one 2 rfl | exact hS.one 3 rfl | exact hS.one 4 rfl | exact hS.one 5 rfl | exact hS.one 6 rfl | exact hS.one 7 rfl | exact hS.one 8 rfl | exact hS.one 9 rfl | exact hS.one 10 rfl | exact hS.one 11 rfl) (fun hC => ?_)
              clear hK K
              try simp only [List.getElem_toArray, List.getElem_cons_succ, List.getElem_cons_zero, Act.put, List.setIfInBounds_toArray, List.set_cons_zero, List.set_cons_succ]
              refine mixs_two 5 7 (by kernel_rfl) rfl rfl (fun K hK => ?_) (fun K hK => ?_)
              ·
                (refine op_load_st (by kernel_rfl) 0 hS rfl rfl rfl hsc hp0.out ?_)
                try clear hC
                refine hK.out _ _ _ (fun _ h => h) (by first | exact hS | exact hS.drop | exact hS.drop.drop | exact hS.drop.drop.drop | exact hS.drop.drop.drop.drop | exact hS.empty | exact hS.one 0 rfl | exact hS.one 1 rfl | exact hS.one 2 rfl | exact hS.one 3 rfl | exact hS.one 4 rfl | exact hS.one 5 rfl | exact hS.one 6 rfl | exact hS.one 7 rfl | exact hS.one 8 rfl | exact hS.one 9 rfl | exact hS.one 10 rfl | exact hS.one 11 rfl) (fun hC => ?_)
                clear hK K
                try simp only [List.getElem_toArray, List.getElem_cons_succ, List.getElem_cons_zero, Act.put, List.setIfInBounds_toArray, List.set_cons_zero, List.set_cons_succ]
                refine mixs_one 7 (by kernel_rfl) rfl (fun K hK => ?_)
                (refine op_loadrow_st (by kernel_rfl) 0 hS rfl rfl rfl hr65 (by kernel_rfl) hsec.out hsl2.out ?_)
                try clear hC
                refine hK.out _ _ _ (fun _ h => h) (by first | exact hS | exact hS.drop | exact hS.drop.drop | exact hS.drop.drop.drop | exact hS.drop.drop.drop.drop | exact hS.empty | exact hS.one 0 rfl | exact hS.one 1 rfl | exact hS.one 2 rfl | exact hS.one 3 rfl | exact hS.one 4 rfl | exact hS.one 5 rfl | exact hS.one 6 rfl | exact hS.one 7 rfl | exact hS.one 8 rfl | exact hS.one 9 rfl | exact hS.one 10 rfl | exact hS.one 11 rfl) (fun hC => ?_)
                clear hK K
                try simp only [List.getElem_toArray, List.getElem_cons_succ, List.getElem_cons_zero, Act.put, List.setIfInBounds_toArray, List.set_cons_zero, List.set_cons_succ]
                refine mixs_take 8 (v := ?_) rfl (by kernel_rfl) (fun _ _ _ h => h) (by kernel_rfl) (by assumption) (fun s => ?hy) ?_; case hy => (go_simp <;> with_reducible rfl)
                try simp only [List.getElem_toArray, List.getElem_cons_succ, List.getElem_cons_zero, Act.put, List.setIfInBounds_toArray, List.set_cons_zero, List.set_cons_succ]
                refine mixs_one 9 (by kernel_rfl) rfl (fun K hK => ?_)
                (refine op_storeelem_st (by kernel_rfl) 2 q hS rfl rfl rfl rfl (by kernel_rfl) rfl hsl2.out hso2.out hqn ?_; intro w3 hS1; clear hS; simp only [List.set_cons_succ, List.set_cons_zero] at hS1; rw [hset.out] at hS1; have hS := hS1; clear hS1)
                try clear hC
                refine hK.out _ _ _ (fun _ h => h) (by first | exact hS | exact hS.drop | exact hS.drop.drop | exact hS.drop.drop.drop | exact hS.drop.drop.drop.drop | exact hS.empty | exact hS.one 0 rfl | exact hS.one 1 rfl | exact hS.one 2 rfl | exact hS.one 3 rfl | exact hS.one 4 rfl | exact hS.one 5 rfl | exact hS.one 6 rfl | exact hS.one 7 rfl | exact hS.one 8 rfl | exact hS.one 9 rfl | exact hS.one 10 rfl | exact hS.one 11 rfl) (fun hC => ?_)
                clear hK K
                try simp only [List.getElem_toArray, List.getElem_cons_succ, List.getElem_cons_zero, Act.put, List.setIfInBounds_toArray, List.set_cons_zero, List.set_cons_succ]
                refine wpAnyH_done (by kernel_rfl) ?_ _
                try clear hC
                go_wp2_with fail
                go_roundg (n - (j + 1))
                case measure => omega
                case rel => exact ⟨j + 1, _, by omega, by go_num, Lib.hid ⟨hnext.out, hsl.out, hse.out⟩, hS.drop⟩
              ·
                (refine op_loadrow_st (by kernel_rfl) 0 hS rfl rfl rfl hr65 (by kernel_rfl) hsec.out hsl2.out ?_)
                try clear hC
                refine hK.out _ _ _ (fun _ h => h) (by first | exact hS | exact hS.drop | exact hS.drop.drop | exact hS.drop.drop.drop | exact hS.drop.drop.drop.drop | exact hS.empty | exact hS.one 0 rfl | exact hS.one 1 rfl | exact hS.one 2 rfl | exact hS.one 3 rfl | exact hS.one 4 rfl | exact hS.one 5 rfl | exact hS.one 6 rfl | exact hS.one 7 rfl | exact hS.one 8 rfl | exact hS.one 9 rfl | exact hS.one 10 rfl | exact hS.one 11 rfl) (fun hC => ?_)
                clear hK K
                try simp only [List.getElem_toArray, List.getElem_cons_succ, List.getElem_cons_zero, Act.put, List.setIfInBounds_toArray, List.set_cons_zero, List.set_cons_succ]
                refine mixs_one 5 (by kernel_rfl) rfl (fun K hK => ?_)
                (refine op_load_st (by kernel_rfl) 0 hS rfl rfl rfl hsc hp0.out ?_)
                try clear hC
                refine hK.out _ _ _ (fun _ h => h) (by first | exact hS | exact hS.drop | exact hS.drop.drop | exact hS.drop.drop.drop | exact hS.drop.drop.drop.drop | exact hS.empty | exact hS.one 0 rfl | exact hS.one 1 rfl | exact hS.one 2 rfl | exact hS.one 3 rfl | exact hS.one 4 rfl | exact hS.one 5 rfl | exact hS.one 6 rfl | exact hS.one 7 rfl | exact hS.one 8 rfl | exact hS.one 9 rfl | exact hS.one 10 rfl | exact hS.one 11 rfl) (fun hC => ?_)
                clear hK K
                try simp only [List.getElem_toArray, List.getElem_cons_succ, List.getElem_cons_zero, Act.put, List.setIfInBounds_toArray, List.set_cons_zero, List.set_cons_succ]
                refine mixs_take 8 (v := ?_) rfl (by kernel_rfl) (fun _ _ _ h => h) (by kernel_rfl) (by assumption) (fun s => ?hy) ?_; case hy => (go_simp <;> with_reducible rfl)
                try simp only [List.getElem_toArray, List.getElem_cons_succ, List.getElem_cons_zero, Act.put, List.setIfInBounds_toArray, List.set_cons_zero, List.set_cons_succ]
                refine mixs_one 9 (by kernel_rfl) rfl (fun K hK => ?_)
                (refine op_storeelem_st (by kernel_rfl) 2 q hS rfl rfl rfl rfl (by kernel_rfl) rfl hsl2.out hso2.out hqn ?_; intro w3 hS1; clear hS; simp only [List.set_cons_succ, List.set_cons_zero] at hS1; rw [hset.out] at hS1; have hS := hS1; clear hS1)
                try clear hC
                refine hK.out _ _ _ (fun _ h => h) (by first | exact hS | exact hS.drop | exact hS.drop.drop | exact hS.drop.drop.drop | exact hS.drop.drop.drop.drop | exact hS.empty | exact hS.one 0 rfl | exact hS.one 1 rfl | exact hS.one 2 rfl | exact hS.one 3 rfl | exact hS.one 4 rfl | exact hS.one 5 rfl | exact hS.one 6 rfl | exact hS.one 7 rfl | exact hS.one 8 rfl | exact hS.one 9 rfl | exact hS.one 10 rfl | exact hS.one 11 rfl) (fun hC => ?_)
                clear hK K
                try simp only [List.getElem_toArray, List.getElem_cons_succ, List.getElem_cons_zero, Act.put, List.setIfInBounds_toArray, List.set_cons_zero, List.set_cons_succ]
                refine wpAnyH_done (by kernel_rfl) ?_ _
                try clear hC
                go_wp2_with fail
                go_roundg (n - (j + 1))
                case measure => omega
                case rel => exact ⟨j + 1, _, by omega, by go_num, Lib.hid ⟨hnext.out, hsl.out, hse.out⟩, hS.drop⟩
            ·
              (refine op_load_st (by kernel_rfl) 0 hS rfl rfl rfl hsc hp0.out ?_)
              try clear hC
              refine hK.out _ _ _ (fun _ h => h) (by first | exact hS | exact hS.drop | exact hS.drop.drop | exact hS.drop.drop.drop | exact hS.drop.drop.drop.drop | exact hS.empty | exact hS.one 0 rfl | exact hS.one 1 rfl | exact hS.one 2 rfl | exact hS.one 3 rfl | exact hS.one 4 rfl | exact hS.one 5 rfl | exact hS.one 6 rfl | exact hS.one 7 rfl | exact hS.one 8 rfl | exact hS.one 9 rfl | exact hS.one 10 rfl | exact hS.one 11 rfl) (fun hC => ?_)
              clear hK K
              try simp only [List.getElem_toArray, List.getElem_cons_succ, List.getElem_cons_zero, Act.put, List.setIfInBounds_toArray, List.set_cons_zero, List.set_cons_succ]
              refine mixs_two 3 7 (by kernel_rfl) rfl rfl (fun K hK => ?_) (fun K hK => ?_)
              ·
                refine op_load_st (by kernel_rfl) 1 hS rfl rfl rfl (by simp [scalarB, go_sem]) rfl ?_
                try clear hC
                refine hK.out _ _ _ (fun _ h => h) (by first | exact hS | exact hS.drop | exact hS.drop.drop | exact hS.drop.drop.drop | exact hS.drop.drop.drop.drop | exact hS.empty | exact hS.one 0 rfl | exact hS.one 1 rfl | exact hS.one 2 rfl | exact hS.one 3 rfl | exact hS.one 4 rfl | exact hS.one 5 rfl | exact hS.one 6 rfl | exact hS.one 7 rfl | exact hS.one 8 rfl | exact hS.one 9 rfl | exact hS.one 10 rfl | exact hS.one 11 rfl) (fun hC => ?_)
                clear hK K
                try simp only [List.getElem_toArray, List.getElem_cons_succ, List.getElem_cons_zero, Act.put, List.setIfInBounds_toArray, List.set_cons_zero, List.set_cons_succ]
                refine mixs_one 7 (by kernel_rfl) rfl (fun K hK => ?_)
                (refine op_loadrow_st (by kernel_rfl) 0 hS rfl rfl rfl hr65 (by kernel_rfl) hsec.out hsl2.out ?_)
                try clear hC
                refine hK.out _ _ _ (fun _ h => h) (by first | exact hS | exact hS.drop | exact hS.drop.drop | exact hS.drop.drop.drop | exact hS.drop.drop.drop.drop | exact hS.empty | exact hS.one 0 rfl | exact hS.one 1 rfl | exact hS.one 2 rfl | exact hS.one 3 rfl | exact hS.one 4 rfl | exact hS.one 5 rfl | exact hS.one 6 rfl | exact hS.one 7 rfl | exact hS.one 8 rfl | exact hS.one 9 rfl | exact hS.one 10 rfl | exact hS.one 11 rfl) (fun hC => ?_)
                clear hK K
                try simp only [List.getElem_toArray, List.getElem_cons_succ, List.getElem_cons_zero, Act.put, List.setIfInBounds_toArray, List.set_cons_zero, List.set_cons_succ]
                refine mixs_take 8 (v := ?_) rfl (by kernel_rfl) (fun _ _ _ h => h) (by kernel_rfl) (by assumption) (fun s => ?hy) ?_; case hy => (go_simp <;> with_reducible rfl)
                try simp only [List.getElem_toArray, List.getElem_cons_succ, List.getElem_cons_zero, Act.put, List.setIfInBounds_toArray, List.set_cons_zero, List.set_cons_succ]
                refine mixs_one 9 (by kernel_rfl) rfl (fun K hK => ?_)
                (refine op_storeelem_st (by kernel_rfl) 2 q hS rfl rfl rfl rfl (by kernel_rfl) rfl hsl2.out hso2.out hqn ?_; intro w3 hS1; clear hS; simp only [List.set_cons_succ, List.set_cons_zero] at hS1; rw [hset.out] at hS1; have hS := hS1; clear hS1)
                try clear hC
                refine hK.out _ _ _ (fun _ h => h) (by first | exact hS | exact hS.drop | exact hS.drop.drop | exact hS.drop.drop.drop | exact hS.drop.drop.drop.drop | exact hS.empty | exact hS.one 0 rfl | exact hS.one 1 rfl | exact hS.one 2 rfl | exact hS.one 3 rfl | exact hS.one 4 rfl | exact hS.one 5 rfl | exact hS.one 6 rfl | exact hS.one 7 rfl | exact hS.one 8 rfl | exact hS.one 9 rfl | exact hS.one 10 rfl | exact hS.one 11 rfl) (fun hC => ?_)
                clear hK K
                try simp only [List.getElem_toArray, List.getElem_cons_succ, List.getElem_cons_zero, Act.put, List.setIfInBounds_toArray, List.set_cons_zero, List.set_cons_succ]
                refine wpAnyH_done (by kernel_rfl) ?_ _
                try clear hC
                go_wp2_with fail
                go_roundg (n - (j + 1))
                case measure => omega
                case rel => exact ⟨j + 1, _, by omega, by go_num, Lib.hid ⟨hnext.out, hsl.out, hse.out⟩, hS.drop⟩
              ·
                (refine op_loadrow_st (by kernel_rfl) 0 hS rfl rfl rfl hr65 (by kernel_rfl) hsec.out hsl2.out ?_)
                try clear hC
                refine hK.out _ _ _ (fun _ h => h) (by first | exact hS | exact hS.drop | exact hS.drop.drop | exact hS.drop.drop.drop | exact hS.drop.drop.drop.drop | exact hS.empty | exact hS.one 0 rfl | exact hS.one 1 rfl | exact hS.one 2 rfl | exact hS.one 3 rfl | exact hS.one 4 rfl | exact hS.one 5 rfl | exact hS.one 6 rfl | exact hS.one 7 rfl | exact hS.one 8 rfl | exact hS.one 9 rfl | exact hS.one 10 rfl | exact hS.one 11 rfl) (fun hC => ?_)
                clear hK K
                try simp only [List.getElem_toArray, List.getElem_cons_succ, List.getElem_cons_zero, Act.put, List.setIfInBounds_toArray, List.set_cons_zero, List.set_cons_succ]
                refine mixs_one 3 (by kernel_rfl) rfl (fun K hK => ?_)
                refine op_load_st (by kernel_rfl) 1 hS rfl rfl rfl (by simp [scalarB, go_sem]) rfl ?_
                try clear hC
                refine hK.out _ _ _ (fun _ h => h) (by first | exact hS | exact hS.drop | exact hS.drop.drop | exact hS.drop.drop.drop | exact hS.drop.drop.drop.drop | exact hS.empty | exact hS.one 0 rfl | exact hS.one 1 rfl | exact hS.one 2 rfl | exact hS.one 3 rfl | exact hS.one 4 rfl | exact hS.one 5 rfl | exact hS.one 6 rfl | exact hS.one 7 rfl | exact hS.one 8 rfl | exact hS.one 9 rfl | exact hS.one 10 rfl | exact hS.one 11 rfl) (fun hC => ?_)
                clear hK K
                try simp only [List.getElem_toArray, List.getElem_cons_succ, List.getElem_cons_zero, Act.put, List.setIfInBounds_toArray, List.set_cons_zero, List.set_cons_succ]
                refine mixs_take 8 (v := ?_) rfl (by kernel_rfl) (fun _ _ _ h => h) (by kernel_rfl) (by assumption) (fun s => ?hy) ?_; case hy => (go_simp <;> with_reducible rfl)
                try simp only [List.getElem_toArray, List.getElem_cons_succ, List.getElem_cons_zero, Act.put, List.setIfInBounds_toArray, List.set_cons_zero, List.set_cons_succ]
                refine mixs_one 9 (by kernel_rfl) rfl (fun K hK => ?_)
                (refine op_storeelem_st (by kernel_rfl) 2 q hS rfl rfl rfl rfl (by kernel_rfl) rfl hsl2.out hso2.out hqn ?_; intro w3 hS1; clear hS; simp only [List.set_cons_succ, List.set_cons_zero] at hS1; rw [hset.out] at hS1; have hS := hS1; clear hS1)
                try clear hC
                refine hK.out _ _ _ (fun _ h => h) (by first | exact hS | exact hS.drop | exact hS.drop.drop | exact hS.drop.drop.drop | exact hS.drop.drop.drop.drop | exact hS.empty | exact hS.one 0 rfl | exact hS.one 1 rfl | exact hS.one 2 rfl | exact hS.one 3 rfl | exact hS.one 4 rfl | exact hS.one 5 rfl | exact hS.one 6 rfl | exact hS.one 7 rfl | exact hS.one 8 rfl | exact hS.one 9 rfl | exact hS.one 10 rfl | exact hS.one 11 rfl) (fun hC => ?_)
                clear hK K
                try simp only [List.getElem_toArray, List.getElem_cons_succ, List.getElem_cons_zero, Act.put, List.setIfInBounds_toArray, List.set_cons_zero, List.set_cons_succ]
                refine wpAnyH_done (by kernel_rfl) ?_ _
                try clear hC
                go_wp2_with fail
                go_roundg (n - (j + 1))
                case measure => omega
                case rel => exact ⟨j + 1, _, by omega, by go_num, Lib.hid ⟨hnext.out, hsl.out, hse.out⟩, hS.drop⟩
            ·
              (refine op_loadrow_st (by kernel_rfl) 0 hS rfl rfl rfl hr65 (by kernel_rfl) hsec.out hsl2.out ?_)
              try clear hC
              refine hK.out _ _ _ (fun _ h => h) (by first | exact hS | exact hS.drop | exact hS.drop.drop | exact hS.drop.drop.drop | exact hS.drop.drop.drop.drop | exact hS.empty | exact hS.one 0 rfl | exact hS.one 1 rfl | exact hS.one 2 rfl | exact hS.one 3 rfl | exact hS.one 4 rfl | exact hS.one 5 rfl | exact hS.one 6 rfl | exact hS.one 7 rfl | exact hS.one 8 rfl | exact hS.one 9 rfl | exact hS.one 10 rfl | exact hS.one 11 rfl) (fun hC => ?_)
              clear hK K
              try simp only [List.getElem_toArray, List.getElem_cons_succ, List.getElem_cons_zero, Act.put, List.setIfInBounds_toArray, List.set_cons_zero, List.set_cons_succ]
              refine mixs_two 3 5 (by kernel_rfl) rfl rfl (fun K hK => ?_) (fun K hK => ?_)
              ·
                refine op_load_st (by kernel_rfl) 1 hS rfl rfl rfl (by simp [scalarB, go_sem]) rfl ?_
                try clear hC
                refine hK.out _ _ _ (fun _ h => h) (by first | exact hS | exact hS.drop | exact hS.drop.drop | exact hS.drop.drop.drop | exact hS.drop.drop.drop.drop | exact hS.empty | exact hS.one 0 rfl | exact hS.one 1 rfl | exact hS.one 2 rfl | exact hS.one 3 rfl | exact hS.one 4 rfl | exact hS.one 5 rfl | exact hS.one 6 rfl | exact hS.one 7 rfl | exact hS.one 8 rfl | exact hS.one 9 rfl | exact hS.one 10 rfl | exact hS.one 11 rfl) (fun hC => ?_)
                clear hK K
                try simp only [List.getElem_toArray, List.getElem_cons_succ, List.getElem_cons_zero, Act.put, List.setIfInBounds_toArray, List.set_cons_zero, List.set_cons_succ]
                refine mixs_one 5 (by kernel_rfl) rfl (fun K hK => ?_)
                (refine op_load_st (by kernel_rfl) 0 hS rfl rfl rfl hsc hp0.out ?_)
                try clear hC
                refine hK.out _ _ _ (fun _ h => h) (by first | exact hS | exact hS.drop | exact hS.drop.drop | exact hS.drop.drop.drop | exact hS.drop.drop.drop.drop | exact hS.empty | exact hS.one 0 rfl | exact hS.one 1 rfl | exact hS.one 2 rfl | exact hS.one 3 rfl | exact hS.one 4 rfl | exact hS.one 5 rfl | exact hS.one 6 rfl | exact hS.one 7 rfl | exact hS.one 8 rfl | exact hS.one 9 rfl | exact hS.one 10 rfl | exact hS.one 11 rfl) (fun hC => ?_)
                clear hK K
                try simp only [List.getElem_toArray, List.getElem_cons_succ, List.getElem_cons_zero, Act.put, List.setIfInBounds_toArray, List.set_cons_zero, List.set_cons_succ]
                refine mixs_take 8 (v := ?_) rfl (by kernel_rfl) (fun _ _ _ h => h) (by kernel_rfl) (by assumption) (fun s => ?hy) ?_; case hy => (go_simp <;> with_reducible rfl)
                try simp only [List.getElem_toArray, List.getElem_cons_succ, List.getElem_cons_zero, Act.put, List.setIfInBounds_toArray, List.set_cons_zero, List.set_cons_succ]
                refine mixs_one 9 (by kernel_rfl) rfl (fun K hK => ?_)
                (refine op_storeelem_st (by kernel_rfl) 2 q hS rfl rfl rfl rfl (by kernel_rfl) rfl hsl2.out hso2.out hqn ?_; intro w3 hS1; clear hS; simp only [List.set_cons_succ, List.set_cons_zero] at hS1; rw [hset.out] at hS1; have hS := hS1; clear hS1)
                try clear hC
                refine hK.out _ _ _ (fun _ h => h) (by first | exact hS | exact hS.drop | exact hS.drop.drop | exact hS.drop.drop.drop | exact hS.drop.drop.drop.drop | exact hS.empty | exact hS.one 0 rfl | exact hS.one 1 rfl | exact hS.one 2 rfl | exact hS.one 3 rfl | exact hS.one 4 rfl | exact hS.one 5 rfl | exact hS.one 6 rfl | exact hS.one 7 rfl | exact hS.one 8 rfl | exact hS.one 9 rfl | exact hS.one 10 rfl | exact hS.one 11 rfl) (fun hC => ?_)
                clear hK K
                try simp only [List.getElem_toArray, List.getElem_cons_succ, List.getElem_cons_zero, Act.put, List.setIfInBounds_toArray, List.set_cons_zero, List.set_cons_succ]
                refine wpAnyH_done (by kernel_rfl) ?_ _
                try clear hC
                go_wp2_with fail
                go_roundg (n - (j + 1))
                case measure => omega
                case rel => exact ⟨j + 1, _, by omega, by go_num, Lib.hid ⟨hnext.out, hsl.out, hse.out⟩, hS.drop⟩
              ·
                (refine op_load_st (by kernel_rfl) 0 hS rfl rfl rfl hsc hp0.out ?_)
                try clear hC
                refine hK.out _ _ _ (fun _ h => h) (by first | exact hS | exact hS.drop | exact hS.drop.drop | exact hS.drop.drop.drop | exact hS.drop.drop.drop.drop | exact hS.empty | exact hS.one 0 rfl | exact hS.one 1 rfl | exact hS.one 2 rfl | exact hS.one 3 rfl | exact hS.one 4 rfl | exact hS.one 5 rfl | exact hS.one 6 rfl | exact hS.one 7 rfl | exact hS.one 8 rfl | exact hS.one 9 rfl | exact hS.one 10 rfl | exact hS.one 11 rfl) (fun hC => ?_)
                clear hK K
                try simp only [List.getElem_toArray, List.getElem_cons_succ, List.getElem_cons_zero, Act.put, List.setIfInBounds_toArray, List.set_cons_zero, List.set_cons_succ]
                refine mixs_one 3 (by kernel_rfl) rfl (fun K hK => ?_)
                refine op_load_st (by kernel_rfl) 1 hS rfl rfl rfl (by simp [scalarB, go_sem]) rfl ?_
                try clear hC
                refine hK.out _ _ _ (fun _ h => h) (by first | exact hS | exact hS.drop | exact hS.drop.drop | exact hS.drop.drop.drop | exact hS.drop.drop.drop.drop | exact hS.empty | exact hS.one 0 rfl | exact hS.one 1 rfl | exact hS.one 2 rfl | exact hS.one 3 rfl | exact hS.one 4 rfl | exact hS.one 5 rfl | exact hS.one 6 rfl | exact hS.one 7 rfl | exact hS.one 8 rfl | exact hS.one 9 rfl | exact hS.one 10 rfl | exact hS.one 11 rfl) (fun hC => ?_)
                clear hK K
                try simp only [List.getElem_toArray, List.getElem_cons_succ, List.getElem_cons_zero, Act.put, List.setIfInBounds_toArray, List.set_cons_zero, List.set_cons_succ]
                refine mixs_take 8 (v := ?_) rfl (by kernel_rfl) (fun _ _ _ h => h) (by kernel_rfl) (by assumption) (fun s => ?hy) ?_; case hy => (go_simp <;> with_reducible rfl)
                try simp only [List.getElem_toArray, List.getElem_cons_succ, List.getElem_cons_zero, Act.put, List.setIfInBounds_toArray, List.set_cons_zero, List.set_cons_succ]
                refine mixs_one 9 (by kernel_rfl) rfl (fun K hK => ?_)
                (refine op_storeelem_st (by kernel_rfl) 2 q hS rfl rfl rfl rfl (by kernel_rfl) rfl hsl2.out hso2.out hqn ?_; intro w3 hS1; clear hS; simp only [List.set_cons_succ, List.set_cons_zero] at hS1; rw [hset.out] at hS1; have hS := hS1; clear hS1)
                try clear hC
                refine hK.out _ _ _ (fun _ h => h) (by first | exact hS | exact hS.drop | exact hS.drop.drop | exact hS.drop.drop.drop | exact hS.drop.drop.drop.drop | exact hS.empty | exact hS.one 0 rfl | exact hS.one 1 rfl | exact hS.one 2 rfl | exact hS.one 3 rfl | exact hS.one 4 rfl | exact hS.one 5 rfl | exact hS.one 6 rfl | exact hS.one 7 rfl | exact hS.one 8 rfl | exact hS.one 9 rfl | exact hS.one 10 rfl | exact hS.one 11 rfl) (fun hC => ?_)
                clear hK K
                try simp only [List.getElem_toArray, List.getElem_cons_succ, List.getElem_cons_zero, Act.put, List.setIfInBounds_toArray, List.set_cons_zero, List.set_cons_succ]
                refine wpAnyH_done (by kernel_rfl) ?_ _
                try clear hC
                go_wp2_with fail
                go_roundg (n - (j + 1))
                case measure => omega
                case rel => exact ⟨j + 1, _, by omega, by go_num, Lib.hid ⟨hnext.out, hsl.out, hse.out⟩, hS.drop⟩
          · have hfv : Dk.fate keep j = 2 := hft.trans h3
            rw [hfv, if_neg (by omega), if_pos rfl] at hnext
            replace hnext := Lib.hid hnext
            have hqk : q * 65 + 64 + 1 ≤ ns * 65 := by omega
            go_wp2_with (first
              | ((with_reducible refine wpList_loadelem_st 2 j hS rfl rfl rfl rfl rfl ?_ (by kernel_rfl) hl2.out hxl.out ?_); focus (simp [rowB, go_sem]; done))
              | ((with_reducible refine wpList_alloc_st hS rfl rfl ew ?_); intro g3 w1 hS1; clear hS; have hS := hS1; clear hS1)
              | ((with_reducible refine wpList_storerow_st 0 (vs := wtRow x) (n := 66) hS rfl rfl rfl rfl (by kernel_rfl) rfl hxl.out hxo.out rfl ?_); intro w1 hS1; clear hS; simp only [List.set_cons_zero] at hS1; rw [hz1.out] at hS1; have hS := hS1; clear hS1; have hz := hS.old hcz.out (hap.out (by omega) _ _ rfl)))
            have hsc : scalarB Try.prog 3 = true := by simp [scalarB, go_sem]
            refine mixs_beginE (by kernel_rfl) hS ?_
            clear hS
            intro w2 hS hC
            refine mixs_take 0 (v := ?_) rfl (by kernel_rfl) (fun _ _ _ h => h) (by kernel_rfl) (by assumption) (fun s => ?hy) ?_; case hy => (go_simp <;> with_reducible rfl)
            try simp only [List.getElem_toArray, List.getElem_cons_succ, List.getElem_cons_zero, Act.put, List.setIfInBounds_toArray, List.set_cons_zero, List.set_cons_succ]
            refine mixs_take 1 (v := ?_) rfl (by kernel_rfl) (fun _ _ _ h => h) (by kernel_rfl) (by assumption) (fun s => ?hy) ?_; case hy => (go_simp <;> with_reducible rfl)
            try simp only [List.getElem_toArray, List.getElem_cons_succ, List.getElem_cons_zero, Act.put, List.setIfInBounds_toArray, List.set_cons_zero, List.set_cons_succ]
            refine mixs_take 2 (v := ?_) rfl (by kernel_rfl) (fun _ _ _ h => h) (by kernel_rfl) (by assumption) (fun s => ?hy) ?_; case hy => (go_simp <;> with_reducible rfl)
            try simp only [List.getElem_toArray, List.getElem_cons_succ, List.getElem_cons_zero, Act.put, List.setIfInBounds_toArray, List.set_cons_zero, List.set_cons_succ]
            refine mixs_take 4 (v := ?_) rfl (by kernel_rfl) (fun _ _ _ h => h) (by kernel_rfl) (by assumption) (fun s => ?hy) ?_; case hy => (go_simp <;> with_reducible rfl)
            try simp only [List.getElem_toArray, List.getElem_cons_succ, List.getElem_cons_zero, Act.put, List.setIfInBounds_toArray, List.set_cons_zero, List.set_cons_succ]
            refine mixs_two 3 5 (by kernel_rfl) rfl rfl (fun K hK => ?_) (fun K hK => ?_)
            ·
              refine op_load_st (by kernel_rfl) 1 hS rfl rfl rfl (by simp [scalarB, go_sem]) rfl ?_
              try clear hC
              refine hK.out _ _ _ (fun _ h => h) (by first | exact hS | exact hS.drop | exact hS.drop.drop | exact hS.drop.drop.drop | exact hS.drop.drop.drop.drop | exact hS.empty | exact hS.one 0 rfl | exact hS.one 1 rfl | exact hS.one 2 rfl | exact hS.one 3 rfl | exact hS.one 4 rfl | exact hS.one 5 rfl | exact hS.one 6 rfl | exact hS.one 7 rfl | exact hS.one 8 rfl | exact hS.one 9 rfl | exact hS.one 10 rfl | exact hS.one 11 rfl) (fun hC => ?_)
              clear hK K
              try simp only [List.getElem_toArray, List.getElem_cons_succ, List.getElem_cons_zero, Act.put, List.setIfInBounds_toArray, List.set_cons_zero, List.set_cons_succ]
              refine mixs_one 5 (by kernel_rfl) rfl (fun K hK => ?_)
              (refine op_load_st (by kernel_rfl) 0 hS rfl rfl rfl hsc hp0.out ?_)
              try clear hC
              refine hK.out _ _ _ (fun _ h => h) (by first | exact hS | exact hS.drop | exact hS.drop.drop | exact hS.drop.drop.drop | exact hS.drop.drop.drop.drop | exact hS.empty | exact hS.one 0 rfl | exact hS.one 1 rfl | exact hS.one 2 rfl | exact hS.one 3 rfl | exact hS.one 4 rfl | exact hS.one 5 rfl | exact hS.one 6 rfl | exact hS.one 7 rfl | exact hS.one 8 rfl | exact hS.one 9 rfl | exact hS.one 10 rfl | exact hS.one 11 rfl) (fun hC => ?_)
              clear hK K
              try simp only [List.getElem_toArray, List.getElem_cons_succ, List.getElem_cons_zero, Act.put, List.setIfInBounds_toArray, List.set_cons_zero, List.set_cons_succ]
              refine mixs_take 6 (v := ?_) rfl (by kernel_rfl) (fun _ _ _ h => h) (by kernel_rfl) (by assumption) (fun s => ?hy) ?_; case hy => (go_simp <;> with_reducible rfl)
              try simp only [List.getElem_toArray, List.getElem_cons_succ, List.getElem_cons_zero, Act.put, List.setIfInBounds_toArray, List.set_cons_zero, List.set_cons_succ]
              refine mixs_take 7 (v := ?_) rfl (by kernel_rfl) (fun _ _ _ h => h) (by kernel_rfl) (by assumption) (fun s => ?hy) ?_; case hy => (go_simp <;> with_reducible rfl)
              try simp only [List.getElem_toArray, List.getElem_cons_succ, List.getElem_cons_zero, Act.put, List.setIfInBounds_toArray, List.set_cons_zero, List.set_cons_succ]
              refine mixs_one 8 (by kernel_rfl) rfl (fun K hK => ?_)
              (refine op_storecell_st (by kernel_rfl) 2 hS rfl rfl rfl (by kernel_rfl) rfl hqk ?_; intro w3 hS1; clear hS; simp only [List.set_cons_succ, List.set_cons_zero] at hS1; rw [hbad.out] at hS1; have hS := hS1; clear hS1)
              try clear hC
              refine hK.out _ _ _ (fun _ h => h) (by first | exact hS | exact hS.drop | exact hS.drop.drop | exact hS.drop.drop.drop | exact hS.drop.drop.drop.drop | exact hS.empty | exact hS.one 0 rfl | exact hS.one 1 rfl | exact hS.one 2 rfl | exact hS.one 3 rfl | exact hS.one 4 rfl | exact hS.one 5 rfl | exact hS.one 6 rfl | exact hS.one 7 rfl | exact hS.one 8 rfl | exact hS.one 9 rfl | exact hS.one 10 rfl | exact hS.one 11 rfl) (fun hC => ?_)
              clear hK K
              try simp only [List.getElem_toArray, List.getElem_cons_succ, List.getElem_cons_zero, Act.put, List.setIfInBounds_toArray, List.set_cons_zero, List.set_cons_succ]
              refine wpAnyH_done (by kernel_rfl) ?_ _
              try clear hC
              go_wp2_with fail
              go_roundg (n - (j + 1))
              case measure => omega
              case rel => exact ⟨j + 1, _, by omega, by go_num, Lib.hid ⟨hnext.out, hml.out, hme.out⟩, hS.drop⟩
            ·
              (refine op_load_st (by kernel_rfl) 0 hS rfl rfl rfl hsc hp0.out ?_)
              try clear hC
              refine hK.out _ _ _ (fun _ h => h) (by first | exact hS | exact hS.drop | exact hS.drop.drop | exact hS.drop.drop.drop | exact hS.drop.drop.drop.drop | exact hS.empty | exact hS.one 0 rfl | exact hS.one 1 rfl | exact hS.one 2 rfl | exact hS.one 3 rfl | exact hS.one 4 rfl | exact hS.one 5 rfl | exact hS.one 6 rfl | exact hS.one 7 rfl | exact hS.one 8 rfl | exact hS.one 9 rfl | exact hS.one 10 rfl | exact hS.one 11 rfl) (fun hC => ?_)
              clear hK K
              try simp only [List.getElem_toArray, List.getElem_cons_succ, List.getElem_cons_zero, Act.put, List.setIfInBounds_toArray, List.set_cons_zero, List.set_cons_succ]
              refine mixs_one 3 (by kernel_rfl) rfl (fun K hK => ?_)
              refine op_load_st (by kernel_rfl) 1 hS rfl rfl rfl (by simp [scalarB, go_sem]) rfl ?_
              try clear hC
              refine hK.out _ _ _ (fun _ h => h) (by first | exact hS | exact hS.drop | exact hS.drop.drop | exact hS.drop.drop.drop | exact hS.drop.drop.drop.drop | exact hS.empty | exact hS.one 0 rfl | exact hS.one 1 rfl | exact hS.one 2 rfl | exact hS.one 3 rfl | exact hS.one 4 rfl | exact hS.one 5 rfl | exact hS.one 6 rfl | exact hS.one 7 rfl | exact hS.one 8 rfl | exact hS.one 9 rfl | exact hS.one 10 rfl | exact hS.one 11 rfl) (fun hC => ?_)
              clear hK K
              try simp only [List.getElem_toArray, List.getElem_cons_succ, List.getElem_cons_zero, Act.put, List.setIfInBounds_toArray, List.set_cons_zero, List.set_cons_succ]
              refine mixs_take 6 (v := ?_) rfl (by kernel_rfl) (fun _ _ _ h => h) (by kernel_rfl) (by assumption) (fun s => ?hy) ?_; case hy => (go_simp <;> with_reducible rfl)
              try simp only [List.getElem_toArray, List.getElem_cons_succ, List.getElem_cons_zero, Act.put, List.setIfInBounds_toArray, List.set_cons_zero, List.set_cons_succ]
              refine mixs_take 7 (v := ?_) rfl (by kernel_rfl) (fun _ _ _ h => h) (by kernel_rfl) (by assumption) (fun s => ?hy) ?_; case hy => (go_simp <;> with_reducible rfl)
              try simp only [List.getElem_toArray, List.getElem_cons_succ, List.getElem_cons_zero, Act.put, List.setIfInBounds_toArray, List.set_cons_zero, List.set_cons_succ]
              refine mixs_one 8 (by kernel_rfl) rfl (fun K hK => ?_)
              (refine op_storecell_st (by kernel_rfl) 2 hS rfl rfl rfl (by kernel_rfl) rfl hqk ?_; intro w3 hS1; clear hS; simp only [List.set_cons_succ, List.set_cons_zero] at hS1; rw [hbad.out] at hS1; have hS := hS1; clear hS1)
              try clear hC
              refine hK.out _ _ _ (fun _ h => h) (by first | exact hS | exact hS.drop | exact hS.drop.drop | exact hS.drop.drop.drop | exact hS.drop.drop.drop.drop | exact hS.empty | exact hS.one 0 rfl | exact hS.one 1 rfl | exact hS.one 2 rfl | exact hS.one 3 rfl | exact hS.one 4 rfl | exact hS.one 5 rfl | exact hS.one 6 rfl | exact hS.one 7 rfl | exact hS.one 8 rfl | exact hS.one 9 rfl | exact hS.one 10 rfl | exact hS.one 11 rfl) (fun hC => ?_)
              clear hK K
              try simp only [List.getElem_toArray, List.getElem_cons_succ, List.getElem_cons_zero, Act.put, List.setIfInBounds_toArray, List.set_cons_zero, List.set_cons_succ]
              refine wpAnyH_done (by kernel_rfl) ?_ _
              try clear hC
              go_wp2_with fail
              go_roundg (n - (j + 1))
              case measure => omega
              case rel => exact ⟨j + 1, _, by omega, by go_num, Lib.hid ⟨hnext.out, hml.out, hme.out⟩, hS.drop⟩
        · rw [if_neg h0] at hft
          have hfv := hft
          clear hft
          have h1 : z < 0 := by omega
          clear h0
          rw [hfv, if_neg (by omega), if_neg (by omega)] at hnext
          replace hnext := Lib.hid hnext
          go_wp2_with (first
            | ((with_reducible refine wpList_loadelem_st 2 j hS rfl rfl rfl rfl rfl ?_ (by kernel_rfl) hl2.out hxl.out ?_); focus (simp [rowB, go_sem]; done))
            | ((with_reducible refine wpList_alloc_st hS rfl rfl ew ?_); intro g3 w1 hS1; clear hS; have hS := hS1; clear hS1)
            | ((with_reducible refine wpList_storerow_st 0 (vs := wtRow x) (n := 66) hS rfl rfl rfl rfl (by kernel_rfl) rfl hxl.out hxo.out rfl ?_); intro w1 hS1; clear hS; simp only [List.set_cons_zero] at hS1; rw [hz1.out] at hS1; have hS := hS1; clear hS1; have hz := hS.old hcz.out (hap.out (by omega) _ _ rfl)))
          rw [← hR1.out] at hS
          go_roundg (n - (j + 1))
          case measure => omega
          case rel => exact ⟨j + 1, l, by omega, by go_num, Lib.hid ⟨hnext.out, hll.out, hle.out⟩, hS.drop⟩
      · have hfv : Dk.fate keep j = 0 := by rw [Dk.fate, if_neg (by rw [hkn.out]; omega)]
        clear hks hkb hkn
        rw [hfv, if_neg (by omega), if_neg (by omega)] at hnext
        replace hnext := Lib.hid hnext
        go_wp2_with (first
          | ((with_reducible refine wpList_loadelem_st 2 j hS rfl rfl rfl rfl rfl ?_ (by kernel_rfl) hl2.out hxl.out ?_); focus (simp [rowB, go_sem]; done))
          | ((with_reducible refine wpList_alloc_st hS rfl rfl ew ?_); intro g3 w1 hS1; clear hS; have hS := hS1; clear hS1)
          | ((with_reducible refine wpList_storerow_st 0 (vs := wtRow x) (n := 66) hS rfl rfl rfl rfl (by kernel_rfl) rfl hxl.out hxo.out rfl ?_); intro w1 hS1; clear hS; simp only [List.set_cons_zero] at hS1; rw [hz1.out] at hS1; have hS := hS1; clear hS1))
        rw [← hR1.out] at hS
        go_roundg (n - (j + 1))
        case measure => omega
        case rel => exact ⟨j + 1, l, by omega, by go_num, Lib.hid ⟨hnext.out, hll.out, hle.out⟩, hS.drop⟩
    · have hfin : Dk.fall keep 0 sec wl = l := by
        rw [hl.out.1, List.drop_of_length_le (by have := hn.out; omega)]
        rfl
      rw [← hfin] at hS
      replace hfin := Lib.hid hfin
      clear hl hwok hwload hn ew hks hkb hkn
      go_wp2_with ((with_reducible refine wpList_store_st 0 hS rfl rfl rfl rfl (by kernel_rfl) rfl rfl ?_); intro w1 hS1; clear hS; simp only [List.set_cons_zero, List.setIfInBounds_toArray, List.set_cons_succ] at hS1; have hS := hS1; clear hS1)
      have hk := (hS.nilrow 125 66).rot3
      exact bodyPost_end (results_none rfl _ _ _) rfl ⟨rfl, _, hk.front (A := [_, _, _])⟩
end Go.Proofs.Ytlhpibniecfofaa
end

section
/- Disks: the chapter's example, walked. -/
set_option linter.unusedSimpArgs false
set_option linter.unusedVariables false
namespace Go.Ofp
open Go.RowKit
section
variable {w0 w w' : World} {F : List Nat} {A A' : List Ch}
end
end Go.Ofp
namespace Go.Proofs.Ytlhpibniecfofaa
open Go.RowKit Go.Ofp
set_option linter.unusedVariables false
set_option maxRecDepth 100000
set_option maxHeartbeats 4000000

theorem str_size (l : List UInt8) : (str l).size = l.length := by simp [str, ByteArray.size]
theorem str_data (l : List UInt8) : (str l).data.toList = l := by simp [str]

end Go.Proofs.Ytlhpibniecfofaa
end

section
/- Pieces in the midst: a call that writes to some of them, and what is left behind. -/
set_option linter.unusedSimpArgs false
set_option linter.unusedVariables false
namespace Go.Ofp
open Go.RowKit
theorem Sl.old {w0 w : World} {F : List Nat} {L : List Ch} {a : Option Addr} {xs : List Value} (hs : Sl w0 a xs) (h : St w0 F L w) (hap : 0 < xs.length → ∀ b o, a = some ⟨b, o, none⟩ → b ∉ F) : Sl w a xs := by
  intro i hi
  obtain ⟨b, off, e, hc⟩ := hs i hi
  exact ⟨b, off, e, h.old hc (hap (by omega) b off e)⟩
theorem feet_append (A B : List Ch) : feet (A ++ B) = feet A ++ feet B := by simp [feet]
theorem feet_off {A B : List Ch} {b : Nat} (h : b ∉ feet (A ++ B)) : b ∉ feet A ∧ b ∉ feet B := by
  rw [feet_append] at h
  exact ⟨fun k => h (List.mem_append_left _ k), fun k => h (List.mem_append_right _ k)⟩
namespace St
variable {w0 w w' : World} {F : List Nat} {A B B' R L : List Ch} {c : Ch}
/-- The first pieces go to the end. -/
theorem rot (h : St w0 F (A ++ B) w) : St w0 F (B ++ A) w := by
  refine h.pick (fun i => if i < B.length then A.length + i else i - B.length) ?_ ?_
  · intro i d hd
    by_cases hi : i < B.length
    · rw [List.getElem?_append_left hi] at hd
      simp only [hi, if_true]
      rw [List.getElem?_append_right (by omega), Nat.add_sub_cancel_left]
      exact hd
    · rw [List.getElem?_append_right (by omega)] at hd
      simp only [hi, if_false]
      rw [List.getElem?_append_left (List.getElem?_eq_some_iff.1 hd).1]
      exact hd
  · intro i j hi hj hij
    simp only [List.length_append] at hi hj
    split <;> split <;> omega
theorem preM (h : St w0 F (A ++ (B ++ R)) w) : St w (feet B) B w := by
  have := h.rot
  rw [List.append_assoc] at this
  exact this.pre B (R ++ A) rfl
theorem callM (h : St w0 F (A ++ (B ++ R)) w) (k : St w (feet B) B' w') : St w0 F (A ++ (B' ++ R)) w' := by
  have h1 := h.rot
  rw [List.append_assoc] at h1
  have h2 := h1.call B (R ++ A) rfl k
  rw [← List.append_assoc] at h2
  exact h2.rot
theorem dropM (h : St w0 F (A ++ (B ++ R)) w) : St w0 F (A ++ R) w := by
  refine h.pick (fun i => if i < A.length then i else B.length + i) ?_ ?_
  · intro i d hd
    by_cases hi : i < A.length
    · rw [List.getElem?_append_left hi] at hd
      simp only [hi, if_true]
      rw [List.getElem?_append_left hi]
      exact hd
    · rw [List.getElem?_append_right (by omega)] at hd
      simp only [hi, if_false]
      rw [List.getElem?_append_right (by omega), List.getElem?_append_right (by omega), show B.length + i - A.length - B.length = i - A.length by omega]
      exact hd
  · intro i j hi hj hij
    split <;> split <;> omega
theorem back (h : St w0 F (A ++ R) w) : St w0 F R w := by
  have := dropM (A := []) (B := A) (R := R) h
  exact this
theorem fore (h : St w0 F (A ++ R) w) : St w0 F A w := by
  have := dropM (A := A) (B := R) (R := []) (by simpa using h)
  simpa using this
theorem pre1 (h : St w0 F (c :: (B ++ R)) w) : St w (feet B) B w := preM (A := [c]) h
theorem call1 (h : St w0 F (c :: (B ++ R)) w) (k : St w (feet B) B' w') : St w0 F (c :: (B' ++ R)) w' := callM (A := [c]) h k
/-- A block that came in is none of the own pieces'. -/
theorem oldoff (h : St w0 [] L w) {b : Nat} (hb : b < w0.heap.size) : b ∉ feet L := by
  intro hA
  obtain ⟨i, c, hc, hg⟩ := mem_feet.1 hA
  rcases (h.own i c hc).2 b hg with h | h
  · cases h
  · omega
end St
end Go.Ofp
end

section
/- A region that draws its order ends in one form: its tail is walked once. -/
set_option linter.unusedSimpArgs false
set_option linter.unusedVariables false
namespace Go.Ofp
open Go.RowKit
/-- Behind a region nothing but its common end. -/
@[reducible] def CutQ (S : Act → World → Prop) : Exit → Act → World → Prop
  | .normal, a, w => S a w
  | _, _, _ => False
section
variable {P : Program} {c : Code} {Q : Exit → Act → World → Prop} {a : Act} {w w0 : World} {F : List Nat}
theorem wp_cutQ {S : Act → World → Prop} (h : c.wp P (CutQ S) a w) (k : ∀ a w, S a w → Q .normal a w) : c.wp P Q a w := by
  refine Code.wp_mono (fun e a w q => ?_) h
  cases e with
  | normal => exact k a w q
  | _ => exact q.elim
/-- No new block. -/
theorem wp_cut0 {L0 : List Ch} {T : Act} {L : List Ch} (h : St w0 F L0 w → c.wp P (CutQ fun a w => a = T ∧ St w0 F L w) a w) (k : ∀ w, St w0 F L w → Q .normal T w) : St w0 F L0 w → c.wp P Q a w := fun h0 =>
  wp_cutQ (h h0) fun _ w h => h.1 ▸ k w h.2
/-- One new value. -/
theorem wp_cutv {L0 : List Ch} {T : Value → Act} {L : Value → List Ch} (h : St w0 F L0 w → c.wp P (CutQ fun a w => ∃ g, a = T g ∧ St w0 F (L g) w) a w) (k : ∀ g w, St w0 F (L g) w → Q .normal (T g) w) : St w0 F L0 w → c.wp P Q a w := fun h0 =>
  wp_cutQ (h h0) fun _ w ⟨g, h, hS⟩ => h ▸ k g w hS
end
end Go.Ofp
end

section
/- A slice copied into a block of the call's own. -/
set_option linter.unusedSimpArgs false
set_option linter.unusedVariables false
namespace Go.Ofp
open Go.RowKit
/-- One piece alone. -/
theorem St.one {w0 w : World} {F : List Nat} {L : List Ch} {c : Ch} (h : St w0 F L w) (i : Nat) (hi : L[i]? = some c) : St w0 F [c] w := by
  refine h.pick (fun _ => i) ?_ ?_
  · intro q d hd
    match q with
    | 0 => simp at hd; subst hd; exact hi
    | q + 1 => simp at hd
  · intro p q hp hq hpq
    simp at hp hq
    omega
/-- A region in which one block of the call's own is read, and is not written: it is the class. -/
theorem mixs_beginC {P : Program} {Q : Exit → Act → World → Prop} {a : Act} {w w0 : World} {F : List Nat} {L : List Ch} {c : Ch} (i : Nat) {id : Nat} {l : List Oper} (hm : P.follows .mixedOrders = true) (hS : St w0 F L w) (hi : L[i]? = some c)
    (h : ∀ w', St w0 F L w' → St w0 F [c] w' → wpAnyH P .any l.toArray Q (fun w' => St w0 F [c] w') l.length (Array.replicate l.length false) a w') : (Code.region id l.toArray true).wp P Q a w := by
  refine wp_region_held (S := fun w' => St w0 F [c] w') hm ?_
  simpa using h w.drew hS.drew (hS.drew.one i hi)
section
variable {P : Program} {w : World}
theorem run_copy_sl (w : World) (t tx ty e : TypeId) (ht : P.underlying t = some (.slice e)) {z : Value} {bytes : Nat} (he : Elem P e z 1 bytes) (htx : P.underlying tx = some (.slice e))
    {g off n c : Nat} {T : TypeId} {cs : Array Value} (hw : Whole w g T cs) {a : Option Addr} {m c2 : Nat} {xs : List Value} (hs : Sl w a xs) (hm : xs.length = m) (h1 : ∀ v ∈ xs, v.oneCell' = true) (hmn : m ≤ n) (hfit : off + m ≤ cs.size) :
    ∃ w', (Builtin.copy_ #[t, tx] ty #[.slice (some ⟨g, off, none⟩) n c, .slice a m c2]).run P w = .ok (.int .i64 m) w' ∧ Whole w' g T (cs.toList.take off ++ xs ++ cs.toList.drop (off + m)).toArray ∧ Fr [g] w w' := by
  obtain ⟨i, hi, hz, h1', rfl, hzs, hpos⟩ := he
  subst hm
  have hx := Src.slice (P := P) (c := c2) (m := xs.length) (size := 1) htx hs (by simp)
  have hcells := hx.cells w (fun _ => rfl)
  obtain ⟨k1, k2, k3⟩ := Whole.setCells (P := P) hw xs hfit h1
  have hmm : xs.length.min n = xs.length := Nat.min_eq_left hmn
  refine ⟨_, ?_, k2, k3⟩
  simp [Builtin.copy_, run_underlying ht, sizeOf, typeInfo, hi, h1', hx.len, hcells, k1, goInt, hmm]

variable {w0 : World} {F : List Nat} {L : List Ch} {ops : Array Oper} {rest : List Oper} {o : Oper} {a : Act} {Q : Exit → Act → World → Prop} {K : Act → World → Prop}
theorem wpList_copysl_st (i : Nat) {g off n c T : Nat} {cs : Array Value} (hS : St w0 F L w) (hi : L[i]? = some (Ch.blk g T cs)) (hgd : o.guard = none) {s x : Operand} {t tx : TypeId} (ho : o.op = .call { callee := .builtin .copy, args := #[s, x], argTypes := #[t, tx] })
    {e : TypeId} (ht : P.underlying t = some (.slice e)) {z : Value} {bytes : Nat} (he : Elem P e z 1 bytes) (htx : P.underlying tx = some (.slice e)) (hs : a.eval s = .slice (some ⟨g, off, none⟩) n c) {b : Option Addr} {m c2 : Nat} (hx : a.eval x = .slice b m c2)
    {xs : List Value} (hsl : Sl w b xs) (hm : xs.length = m) (h1 : ∀ v ∈ xs, v.oneCell' = true) (hmn : m ≤ n) (hfit : off + m ≤ cs.size)
    (h : ∀ w', St w0 F (L.set i (Ch.blk g T (cs.toList.take off ++ xs ++ cs.toList.drop (off + m)).toArray)) w' → wpList P ops Q rest (a.put o.dst (.int .i64 m)) w') : wpList P ops Q (o :: rest) a w := by
  refine wpList_plain hgd fun K hK => ?_
  obtain ⟨w', hr, h2, h3⟩ := run_copy_sl (c := c) (c2 := c2) w t tx o.type e ht he htx (hS.get i hi) hsl hm h1 hmn hfit
  unfold Oper.wp execOp
  simp only [ho, resolve, invoke, builtin, Sem.run_bind, Sem.run_pure, Result.andThen_ok, List.map_toArray, List.map_cons, List.map_nil, hs, hx, hr]
  exact hK _ _ (h w' (hS.upd i hi h3 (by simp [Ch.blk]) h2 (by simp [Ch.blk])))
theorem op_copysl_st (hw : Region.wanted o (yielded ops a.tmps) = true) (i : Nat) {g off n c T : Nat} {cs : Array Value} (hS : St w0 F L w) (hi : L[i]? = some (Ch.blk g T cs)) {s x : Operand} {t tx : TypeId} (ho : o.op = .call { callee := .builtin .copy, args := #[s, x], argTypes := #[t, tx] })
    {e : TypeId} (ht : P.underlying t = some (.slice e)) {z : Value} {bytes : Nat} (he : Elem P e z 1 bytes) (htx : P.underlying tx = some (.slice e)) (hs : a.eval s = .slice (some ⟨g, off, none⟩) n c) {b : Option Addr} {m c2 : Nat} (hx : a.eval x = .slice b m c2)
    {xs : List Value} (hsl : Sl w b xs) (hm : xs.length = m) (h1 : ∀ v ∈ xs, v.oneCell' = true) (hmn : m ≤ n) (hfit : off + m ≤ cs.size)
    (h : ∀ w', St w0 F (L.set i (Ch.blk g T (cs.toList.take off ++ xs ++ cs.toList.drop (off + m)).toArray)) w' → K (a.put o.dst (.int .i64 m)) w') : if Region.wanted o (yielded ops a.tmps) = true then Oper.wp P o a w K Q else K (a.put o.dst undef) w := by
  rw [if_pos hw]
  obtain ⟨w', hr, h2, h3⟩ := run_copy_sl (c := c) (c2 := c2) w t tx o.type e ht he htx (hS.get i hi) hsl hm h1 hmn hfit
  unfold Oper.wp execOp
  simp only [ho, resolve, invoke, builtin, Sem.run_bind, Sem.run_pure, Result.andThen_ok, List.map_toArray, List.map_cons, List.map_nil, hs, hx, hr]
  exact h w' (hS.upd i hi h3 (by simp [Ch.blk]) h2 (by simp [Ch.blk]))
theorem run_same_bytes' (w : World) (t e : TypeId) (ht : P.underlying t = some (.slice e)) (he : P.underlying e = some (.int .u8)) (ad : Addr) (n cap : Nat) :
    ∃ w', (convert t t (.slice (some ad) n cap)).run P w = .ok (.slice (some ad) n cap) w' ∧ (∀ p, w'.cell? p = w.cell? p) ∧ Fr [ad.block] w w' := by
  cases hs : w.shape? ad.block with
  | none =>
    refine ⟨w, ?_, fun _ => rfl, Fr.refl _ _⟩
    simp [convert, run_underlying ht, run_underlying he, markStringish, hs]
  | some q =>
    obtain ⟨e', m⟩ := q
    refine ⟨w.freeze ⟨ad.block, m, none⟩ 1, ?_, cell_freeze _ _ _, ?_⟩
    · simp [convert, run_underlying ht, run_underlying he, markStringish, hs]
    · refine ⟨rfl, rfl, rfl, by simp [World.freeze], fun k hk hn => ?_⟩
      rw [World.freeze, if_neg (by decide), Array.getElem?_modify, if_neg (show ad.block ≠ k by simpa [eq_comm] using hn)]
/-- Cells that are read alone. -/
def Ch.read (g : Nat) (xs : List Value) : Ch where
  foot := [g]
  holds w := g < w.heap.size ∧ Sl w (some ⟨g, 0, none⟩) xs
  lt h x hx := by simp at hx; subst hx; exact h.1
  keep {w w'} h k := by
    have kg := k g (by simp)
    refine ⟨?_, fun i hi => ?_⟩
    · have h1 := Array.getElem?_eq_getElem h.1
      rw [← kg] at h1
      exact (Array.getElem?_eq_some_iff.1 h1).1
    · obtain ⟨b, off, e, hc⟩ := h.2 i hi
      cases e
      exact ⟨g, 0, rfl, by rw [World.cell?_of_block kg]; exact hc⟩
theorem St.readsl {g : Nat} {xs : List Value} (h : St w0 F L w) (i : Nat) (hi : L[i]? = some (Ch.read g xs)) : Sl w (some ⟨g, 0, none⟩) xs := (h.get i hi).2
/-- Bytes that are converted to bytes. -/
theorem op_same_st (hw : Region.wanted o (yielded ops a.tmps) = true) (i : Nat) {g T : Nat} {cs : Array Value} (hS : St w0 F L w) (hi : L[i]? = some (Ch.blk g T cs)) {t e : TypeId} {x : Operand} (ho : o.op = .convert t t x) (ht : P.underlying t = some (.slice e)) (he : P.underlying e = some (.int .u8))
    {n cap : Nat} (hx : a.eval x = .slice (some ⟨g, 0, none⟩) n cap) (h : ∀ w', St w0 F (L.set i (Ch.read g cs.toList)) w' → K (a.put o.dst (.slice (some ⟨g, 0, none⟩) n cap)) w') : if Region.wanted o (yielded ops a.tmps) = true then Oper.wp P o a w K Q else K (a.put o.dst undef) w := by
  rw [if_pos hw]
  obtain ⟨w', hr, h1, h2⟩ := run_same_bytes' (P := P) w t e ht he ⟨g, 0, none⟩ n cap
  unfold Oper.wp execOp
  simp only [ho, hx, Sem.run_bind, hr, Result.andThen_ok, Sem.run_pure]
  refine h w' (hS.upd i hi h2 (by simp [Ch.blk]) ?_ (by simp [Ch.blk, Ch.read]))
  refine ⟨Nat.lt_of_lt_of_le (hS.lt i hi g (by simp [Ch.blk])) h2.size, fun j hj => ?_⟩
  obtain ⟨b, off, e, hc⟩ := hS.blksl i hi j hj
  exact ⟨b, off, e, by rw [h1]; exact hc⟩
end
end Go.Ofp
end
