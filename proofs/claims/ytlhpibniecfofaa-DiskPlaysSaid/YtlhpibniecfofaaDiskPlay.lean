/- Disks: what the law DiskPlays does with both. -/
import Derived.Test.YtlhpibniecfofaaDiskRef5
import Derived.Test.YtlhpibniecfofaaDiskClone
import Derived.Test.YtlhpibniecfofaaSt8
import Derived.Test.YtlhpibniecfofaaSt6
set_option linter.unusedSimpArgs false
set_option linter.unusedVariables false
namespace Go.Ofp
namespace Dk
/-- What an act makes of a disk. -/
def act (d : Dk) (x : Ac) : Dk :=
  if x.kind = 0 then (d.write x.place (List.replicate (if x.n = 7 then 63 else 64) x.c)).1 else if x.kind = 1 then d.sync.1 else if x.kind = 2 then { d with fuse := x.n } else if x.kind = 3 then d.crash x.keep else d
/-- What the walks ask of a disk. -/
structure Fit (d : Dk) (n k : Nat) : Prop where
  ok : d.Ok
  sec : d.sec.length = n
  wait : d.wait.length ≤ k
  fuse : -9223372036854775808 ≤ d.fuse ∧ d.fuse ≤ 9223372036854775807
theorem Fit.step {d : Dk} {n k : Nat} (h : d.Fit n k) : d.step.Fit n k := by
  refine ⟨h.ok.step, by rw [step_sec]; exact h.sec, by rw [step_wait]; exact h.wait, ?_⟩
  have := h.fuse
  unfold Dk.step
  split
  · exact this
  · split
    · simp only; omega
    · exact this
theorem Fit.mono {d : Dk} {n k k' : Nat} (h : d.Fit n k) (hk : k ≤ k') : d.Fit n k' := ⟨h.ok, h.sec, Nat.le_trans h.wait hk, h.fuse⟩
theorem Fit.write {d : Dk} {n k : Nat} (h : d.Fit n k) (i : Int) (b : List UInt8) : (d.write i b).1.Fit n (k + 1) := by
  have hok := h.ok.write i b
  unfold Dk.write at hok ⊢
  split
  · rename_i hr
    rw [if_pos hr] at hok
    split
    · rename_i hb
      rw [if_pos hb] at hok
      have h1 : ({ d with wait := d.wait ++ [⟨i, b⟩] } : Dk).step.Fit n (k + 1) := by
        refine ⟨hok, by rw [step_sec]; exact h.sec, by rw [step_wait]; simpa using h.wait, ?_⟩
        have := h.fuse
        unfold Dk.step
        split
        · exact this
        · split
          · simp only at *; omega
          · exact this
      exact h1
    · exact h.mono (by omega)
  · exact h.mono (by omega)
theorem Fit.sync {d : Dk} {n k : Nat} (h : d.Fit n k) : d.sync.1.Fit n k := by
  have hok := h.ok.sync
  unfold Dk.sync at hok ⊢
  split
  · rename_i hr
    rw [if_pos hr] at hok
    split
    · exact h.step
    · rename_i hd
      rw [if_neg hd] at hok
      exact ⟨hok, by simp only [done_length]; exact h.sec, by simp, h.step.fuse⟩
  · exact h
theorem Fit.crash {d : Dk} {n k : Nat} (h : d.Fit n k) (keep : List Int) : (d.crash keep).Fit n k := by
  refine ⟨h.ok.crash keep, ?_, by simp [Dk.crash], by simp [Dk.crash]⟩
  have := fall_ok keep d.wait 0 d.sec h.ok.sec fun w hw => (h.ok.wait w hw).2.2
  rw [Dk.crash, this.2]
  exact h.sec
theorem Fit.fused {d : Dk} {n k : Nat} (h : d.Fit n k) (z : Int) (hz : -9223372036854775808 ≤ z ∧ z ≤ 9223372036854775807) : ({ d with fuse := z } : Dk).Fit n k := ⟨⟨h.ok.pos, h.ok.sec, h.ok.wait⟩, h.sec, h.wait, hz⟩
theorem Fit.act {d : Dk} {n k : Nat} (h : d.Fit n k) (x : Ac) (hx : -9223372036854775808 ≤ x.n ∧ x.n ≤ 9223372036854775807) : (d.act x).Fit n (k + 1) := by
  unfold Dk.act
  split
  · exact h.write _ _
  · split
    · exact h.sync.mono (by omega)
    · split
      · exact (h.fused _ hx).mono (by omega)
      · split
        · exact (h.crash _).mono (by omega)
        · exact h.mono (by omega)
theorem Fit.new (n : Nat) (hn : 0 < n) : (new n).Fit n 0 := ⟨Ok.new n hn, by simp [Dk.new], by simp [Dk.new], by simp [Dk.new]⟩
end Dk
end Go.Ofp
namespace Go.Proofs.Ytlhpibniecfofaa
open Go.RowKit Go.Ofp
set_option linter.unusedVariables false
set_option maxRecDepth 100000
set_option maxHeartbeats 4000000

theorem does_any (bd : Nat) (sv wv : Value) (g : Nat) (rsv rwv : Value) (d : Dk) (n k : Nat) (x : Ac) (w : World) (h : St w (feet (dks bd sv wv d ++ (rdk g rsv rwv d ++ []))) (dks bd sv wv d ++ (rdk g rsv rwv d ++ [])) w) (hfit : d.Fit n k) (hn : n ≤ 100000) (hk : k ≤ 99999) (hx : AcMem w x)
    (hap : 0 < x.keep.length → ∀ b o, x.a = some ⟨b, o, none⟩ → b ∉ feet (dks bd sv wv d ++ (rdk g rsv rwv d ++ []))) :
    Calls Try.prog 14 #[.pointer (some ⟨bd, 0, none⟩), .pointer (some ⟨g, 0, none⟩), .agg (acRow x).toArray] w fun e w' => e = .returned (.bool true) ∧
      ∃ sv' wv' rsv' rwv', St w (feet (dks bd sv wv d ++ (rdk g rsv rwv d ++ []))) (dks bd sv' wv' (d.act x) ++ (rdk g rsv' rwv' (d.act x) ++ [])) w' := by
  have hS := h
  have hl : d.sec.length ≤ 100000 := by have := hfit.sec; omega
  have hw : d.wait.length ≤ 100000 := by have := hfit.wait; omega
  have hok := hfit.ok
  have hf := hfit.fuse
  generalize hF : feet (dks bd sv wv d ++ (rdk g rsv rwv d ++ [])) = F at hS hap ⊢
  replace hF := Lib.hid hF
  clear h
  obtain ⟨kind, place, z, c, ak, kc, keep⟩ := x
  unfold Dk.act
  simp only [acRow] at hap ⊢
  by_cases h0 : kind = 0
  · subst h0
    rw [if_pos rfl]
    have cT := fun W => sector_any c z W
    have hBm : (str (List.replicate (if z = 7 then 63 else 64) c)).size ≤ maxLen := by rw [str_size, List.length_replicate]; unfold maxLen; split <;> omega
    generalize List.replicate (if z = 7 then 63 else 64) c = B at *
    have cW := fun W hh => write_any bd sv wv d place (str B) W hh hBm hw hf
    have cR := fun W hh => rwrite_any g rsv rwv d place (str B) W hh hBm hl hw hf
    rw [str_data] at cW cR
    generalize (d.write place B).1 = d' at *
    generalize (d.write place B).2 = e' at *
    replace cT := Lib.hid cT
    replace cW := Lib.hid cW
    replace cR := Lib.hid cR
    clear hfit hok hf hl hw hx
    go_enter Try.func14, Try.ntmps14
    go_wp2_with (first
      | (go_at_call 18; (with_reducible refine (cT.out _).mono ?_); rintro _ w4 ⟨rfl, hb4⟩; have hS1 := hS.keepB hb4; clear hb4 hS; have hS := hS1; clear hS1)
      | (with_reducible refine wpList_box_st hS rfl rfl rfl ?_; intro g1 w1 hS1; clear hS; replace hS := hS1; clear hS1) | (with_reducible refine wpList_box1_st hS rfl rfl rfl ?_; intro g1 w1 hS1; clear hS; replace hS := hS1; clear hS1) | (with_reducible refine wpList_alloc_st hS rfl rfl (by assumption) ?_; intro g1 w1 hS1; clear hS; replace hS := hS1; clear hS1) | (with_reducible refine wpList_alloc1_st hS rfl rfl (by assumption) rfl ?_; intro g1 w1 hS1; clear hS; replace hS := hS1; clear hS1) | ((with_reducible refine wpList_load_st 0 hS rfl rfl rfl rfl ?_ rfl ?_); focus (simp [scalarB, go_sem]; done)) | ((with_reducible refine wpList_loadall_st 0 hS rfl rfl rfl rfl ?_ (by kernel_rfl) ?_); focus (simp [rowB, go_sem]; done)) | ((with_reducible refine wpList_store_st 0 hS rfl rfl rfl rfl (by kernel_rfl) rfl rfl ?_); intro w1 hS1; clear hS; replace hS := hS1; clear hS1; try simp only [List.set_cons_zero, List.set_cons_succ, List.setIfInBounds_toArray, List.take_succ_cons, List.take_zero, List.drop_succ_cons, List.drop_zero, List.nil_append, List.cons_append, List.append_nil, List.drop_nil, List.take_nil, List.length_cons, List.length_nil, Nat.zero_add, Nat.add_zero, Nat.reduceAdd] at hS) | ((with_reducible refine wpList_storerow_st 0 hS rfl rfl rfl rfl (by kernel_rfl) rfl rfl rfl rfl ?_); intro w1 hS1; clear hS; replace hS := hS1; clear hS1; try simp only [List.set_cons_zero, List.set_cons_succ, List.setIfInBounds_toArray, List.take_succ_cons, List.take_zero, List.drop_succ_cons, List.drop_zero, List.nil_append, List.cons_append, List.append_nil, List.drop_nil, List.take_nil, List.length_cons, List.length_nil, Nat.zero_add, Nat.add_zero, Nat.reduceAdd] at hS))
    refine mixs_beginE (by kernel_rfl) hS ?_
    clear hS
    intro w2 hS hC
    refine mixs_take 0 (v := ?_) rfl (by kernel_rfl) (fun _ _ _ h => h) (by kernel_rfl) (by assumption) (fun s => ?hy) ?_; case hy => (go_simp <;> with_reducible rfl)
    try simp only [List.getElem_toArray, List.getElem_cons_succ, List.getElem_cons_zero, Act.put, List.setIfInBounds_toArray, List.set_cons_zero, List.set_cons_succ]
    refine mixs_take 1 (v := ?_) rfl (by kernel_rfl) (fun _ _ _ h => h) (by kernel_rfl) (by assumption) (fun s => ?hy) ?_; case hy => (go_simp <;> with_reducible rfl)
    try simp only [List.getElem_toArray, List.getElem_cons_succ, List.getElem_cons_zero, Act.put, List.setIfInBounds_toArray, List.set_cons_zero, List.set_cons_succ]
    refine mixs_take 3 (v := ?_) rfl (by kernel_rfl) (fun _ _ _ h => h) (by kernel_rfl) (by assumption) (fun s => ?hy) ?_; case hy => (go_simp <;> with_reducible rfl)
    try simp only [List.getElem_toArray, List.getElem_cons_succ, List.getElem_cons_zero, Act.put, List.setIfInBounds_toArray, List.set_cons_zero, List.set_cons_succ]
    refine mixs_take 5 (v := ?_) rfl (by kernel_rfl) (fun _ _ _ h => h) (by kernel_rfl) (by assumption) (fun s => ?hy) ?_; case hy => (go_simp <;> with_reducible rfl)
    try simp only [List.getElem_toArray, List.getElem_cons_succ, List.getElem_cons_zero, Act.put, List.setIfInBounds_toArray, List.set_cons_zero, List.set_cons_succ]
    refine mixs_take 6 (v := ?_) rfl (by kernel_rfl) (fun _ _ _ h => h) (by kernel_rfl) (by assumption) (fun s => ?hy) ?_; case hy => (go_simp <;> with_reducible rfl)
    try simp only [List.getElem_toArray, List.getElem_cons_succ, List.getElem_cons_zero, Act.put, List.setIfInBounds_toArray, List.set_cons_zero, List.set_cons_succ]
    refine mixs_take 8 (v := ?_) rfl (by kernel_rfl) (fun _ _ _ h => h) (by kernel_rfl) (by assumption) (fun s => ?hy) ?_; case hy => (go_simp <;> with_reducible rfl)
    try simp only [List.getElem_toArray, List.getElem_cons_succ, List.getElem_cons_zero, Act.put, List.setIfInBounds_toArray, List.set_cons_zero, List.set_cons_succ]
    refine mixs_two 2 7 (by kernel_rfl) rfl rfl (fun K hK => ?_) (fun K hK => ?_)
    ·
      refine op_load_st (by kernel_rfl) 0 hS rfl rfl rfl (by simp [scalarB, go_sem]) rfl ?_
      try clear hC
      refine hK.out _ _ _ (fun _ h => h) (by first | exact hS | exact hS.drop | exact hS.drop.drop | exact hS.drop.drop.drop | exact hS.drop.drop.drop.drop | exact hS.empty) (fun hC => ?_)
      clear hK K
      try simp only [List.getElem_toArray, List.getElem_cons_succ, List.getElem_cons_zero, Act.put, List.setIfInBounds_toArray, List.set_cons_zero, List.set_cons_succ]
      refine mixs_two 4 7 (by kernel_rfl) rfl rfl (fun K hK => ?_) (fun K hK => ?_)
      ·
        go_simp
        ( first | (go_at_call 17; (with_reducible refine (cW.out _ hS.pre1).mono ?_); rintro _ w5 ⟨rfl, wv5, hk⟩; have hS1 := hS.call1 hk; clear hS hk; have hS := hS1; clear hS1) | (go_at_call 38; (with_reducible refine (cR.out _ hS.pre2).mono ?_); rintro _ w6 ⟨rfl, wv6, hk⟩; have hS1 := hS.call2 hk; clear hS hk; have hS := hS1; clear hS1) )
        try clear hC
        refine hK.out _ _ _ (fun _ h => h) (by first | exact hS | exact hS.drop | exact hS.drop.drop | exact hS.drop.drop.drop | exact hS.drop.drop.drop.drop | exact hS.empty) (fun hC => ?_)
        clear hK K
        try simp only [List.getElem_toArray, List.getElem_cons_succ, List.getElem_cons_zero, Act.put, List.setIfInBounds_toArray, List.set_cons_zero, List.set_cons_succ]
        refine mixs_one 7 (by kernel_rfl) rfl (fun K hK => ?_)
        refine op_load_st (by kernel_rfl) 0 hS rfl rfl rfl (by simp [scalarB, go_sem]) rfl ?_
        try clear hC
        refine hK.out _ _ _ (fun _ h => h) (by first | exact hS | exact hS.drop | exact hS.drop.drop | exact hS.drop.drop.drop | exact hS.drop.drop.drop.drop | exact hS.empty) (fun hC => ?_)
        clear hK K
        try simp only [List.getElem_toArray, List.getElem_cons_succ, List.getElem_cons_zero, Act.put, List.setIfInBounds_toArray, List.set_cons_zero, List.set_cons_succ]
        refine mixs_one 9 (by kernel_rfl) rfl (fun K hK => ?_)
        go_simp
        ( first | (go_at_call 17; (with_reducible refine (cW.out _ hS.pre1).mono ?_); rintro _ w5 ⟨rfl, wv5, hk⟩; have hS1 := hS.call1 hk; clear hS hk; have hS := hS1; clear hS1) | (go_at_call 38; (with_reducible refine (cR.out _ hS.pre2).mono ?_); rintro _ w6 ⟨rfl, wv6, hk⟩; have hS1 := hS.call2 hk; clear hS hk; have hS := hS1; clear hS1) )
        try clear hC
        refine hK.out _ _ _ (fun _ h => h) (by first | exact hS | exact hS.drop | exact hS.drop.drop | exact hS.drop.drop.drop | exact hS.drop.drop.drop.drop | exact hS.empty) (fun hC => ?_)
        clear hK K
        try simp only [List.getElem_toArray, List.getElem_cons_succ, List.getElem_cons_zero, Act.put, List.setIfInBounds_toArray, List.set_cons_zero, List.set_cons_succ]
        refine mixs_take 10 (v := ?_) rfl (by kernel_rfl) (fun _ _ _ h => h) (by kernel_rfl) (by assumption) (fun s => ?hy) ?_; case hy => (go_simp <;> with_reducible rfl)
        try simp only [List.getElem_toArray, List.getElem_cons_succ, List.getElem_cons_zero, Act.put, List.setIfInBounds_toArray, List.set_cons_zero, List.set_cons_succ]
        refine mixs_take 11 (v := ?_) rfl (by kernel_rfl) (fun _ _ _ h => h) (by kernel_rfl) (by assumption) (fun s => ?hy) ?_; case hy => (go_simp <;> with_reducible rfl)
        try simp only [List.getElem_toArray, List.getElem_cons_succ, List.getElem_cons_zero, Act.put, List.setIfInBounds_toArray, List.set_cons_zero, List.set_cons_succ]
        refine wpAnyH_done (by kernel_rfl) ?_ _
        try clear hC
        go_wp2_with fail
        go_ret
        exact ⟨rfl, _, _, _, _, hS.drop⟩
      ·
        refine op_load_st (by kernel_rfl) 0 hS rfl rfl rfl (by simp [scalarB, go_sem]) rfl ?_
        try clear hC
        refine hK.out _ _ _ (fun _ h => h) (by first | exact hS | exact hS.drop | exact hS.drop.drop | exact hS.drop.drop.drop | exact hS.drop.drop.drop.drop | exact hS.empty) (fun hC => ?_)
        clear hK K
        try simp only [List.getElem_toArray, List.getElem_cons_succ, List.getElem_cons_zero, Act.put, List.setIfInBounds_toArray, List.set_cons_zero, List.set_cons_succ]
        refine mixs_one 4 (by kernel_rfl) rfl (fun K hK => ?_)
        go_simp
        ( first | (go_at_call 17; (with_reducible refine (cW.out _ hS.pre1).mono ?_); rintro _ w5 ⟨rfl, wv5, hk⟩; have hS1 := hS.call1 hk; clear hS hk; have hS := hS1; clear hS1) | (go_at_call 38; (with_reducible refine (cR.out _ hS.pre2).mono ?_); rintro _ w6 ⟨rfl, wv6, hk⟩; have hS1 := hS.call2 hk; clear hS hk; have hS := hS1; clear hS1) )
        try clear hC
        refine hK.out _ _ _ (fun _ h => h) (by first | exact hS | exact hS.drop | exact hS.drop.drop | exact hS.drop.drop.drop | exact hS.drop.drop.drop.drop | exact hS.empty) (fun hC => ?_)
        clear hK K
        try simp only [List.getElem_toArray, List.getElem_cons_succ, List.getElem_cons_zero, Act.put, List.setIfInBounds_toArray, List.set_cons_zero, List.set_cons_succ]
        refine mixs_one 9 (by kernel_rfl) rfl (fun K hK => ?_)
        go_simp
        ( first | (go_at_call 17; (with_reducible refine (cW.out _ hS.pre1).mono ?_); rintro _ w5 ⟨rfl, wv5, hk⟩; have hS1 := hS.call1 hk; clear hS hk; have hS := hS1; clear hS1) | (go_at_call 38; (with_reducible refine (cR.out _ hS.pre2).mono ?_); rintro _ w6 ⟨rfl, wv6, hk⟩; have hS1 := hS.call2 hk; clear hS hk; have hS := hS1; clear hS1) )
        try clear hC
        refine hK.out _ _ _ (fun _ h => h) (by first | exact hS | exact hS.drop | exact hS.drop.drop | exact hS.drop.drop.drop | exact hS.drop.drop.drop.drop | exact hS.empty) (fun hC => ?_)
        clear hK K
        try simp only [List.getElem_toArray, List.getElem_cons_succ, List.getElem_cons_zero, Act.put, List.setIfInBounds_toArray, List.set_cons_zero, List.set_cons_succ]
        refine mixs_take 10 (v := ?_) rfl (by kernel_rfl) (fun _ _ _ h => h) (by kernel_rfl) (by assumption) (fun s => ?hy) ?_; case hy => (go_simp <;> with_reducible rfl)
        try simp only [List.getElem_toArray, List.getElem_cons_succ, List.getElem_cons_zero, Act.put, List.setIfInBounds_toArray, List.set_cons_zero, List.set_cons_succ]
        refine mixs_take 11 (v := ?_) rfl (by kernel_rfl) (fun _ _ _ h => h) (by kernel_rfl) (by assumption) (fun s => ?hy) ?_; case hy => (go_simp <;> with_reducible rfl)
        try simp only [List.getElem_toArray, List.getElem_cons_succ, List.getElem_cons_zero, Act.put, List.setIfInBounds_toArray, List.set_cons_zero, List.set_cons_succ]
        refine wpAnyH_done (by kernel_rfl) ?_ _
        try clear hC
        go_wp2_with fail
        go_ret
        exact ⟨rfl, _, _, _, _, hS.drop⟩
    ·
      refine op_load_st (by kernel_rfl) 0 hS rfl rfl rfl (by simp [scalarB, go_sem]) rfl ?_
      try clear hC
      refine hK.out _ _ _ (fun _ h => h) (by first | exact hS | exact hS.drop | exact hS.drop.drop | exact hS.drop.drop.drop | exact hS.drop.drop.drop.drop | exact hS.empty) (fun hC => ?_)
      clear hK K
      try simp only [List.getElem_toArray, List.getElem_cons_succ, List.getElem_cons_zero, Act.put, List.setIfInBounds_toArray, List.set_cons_zero, List.set_cons_succ]
      refine mixs_one 2 (by kernel_rfl) rfl (fun K hK => ?_)
      refine op_load_st (by kernel_rfl) 0 hS rfl rfl rfl (by simp [scalarB, go_sem]) rfl ?_
      try clear hC
      refine hK.out _ _ _ (fun _ h => h) (by first | exact hS | exact hS.drop | exact hS.drop.drop | exact hS.drop.drop.drop | exact hS.drop.drop.drop.drop | exact hS.empty) (fun hC => ?_)
      clear hK K
      try simp only [List.getElem_toArray, List.getElem_cons_succ, List.getElem_cons_zero, Act.put, List.setIfInBounds_toArray, List.set_cons_zero, List.set_cons_succ]
      refine mixs_one 4 (by kernel_rfl) rfl (fun K hK => ?_)
      go_simp
      ( first | (go_at_call 17; (with_reducible refine (cW.out _ hS.pre1).mono ?_); rintro _ w5 ⟨rfl, wv5, hk⟩; have hS1 := hS.call1 hk; clear hS hk; have hS := hS1; clear hS1) | (go_at_call 38; (with_reducible refine (cR.out _ hS.pre2).mono ?_); rintro _ w6 ⟨rfl, wv6, hk⟩; have hS1 := hS.call2 hk; clear hS hk; have hS := hS1; clear hS1) )
      try clear hC
      refine hK.out _ _ _ (fun _ h => h) (by first | exact hS | exact hS.drop | exact hS.drop.drop | exact hS.drop.drop.drop | exact hS.drop.drop.drop.drop | exact hS.empty) (fun hC => ?_)
      clear hK K
      try simp only [List.getElem_toArray, List.getElem_cons_succ, List.getElem_cons_zero, Act.put, List.setIfInBounds_toArray, List.set_cons_zero, List.set_cons_succ]
      refine mixs_one 9 (by kernel_rfl) rfl (fun K hK => ?_)
      go_simp
      ( first | (go_at_call 17; (with_reducible refine (cW.out _ hS.pre1).mono ?_); rintro _ w5 ⟨rfl, wv5, hk⟩; have hS1 := hS.call1 hk; clear hS hk; have hS := hS1; clear hS1) | (go_at_call 38; (with_reducible refine (cR.out _ hS.pre2).mono ?_); rintro _ w6 ⟨rfl, wv6, hk⟩; have hS1 := hS.call2 hk; clear hS hk; have hS := hS1; clear hS1) )
      try clear hC
      refine hK.out _ _ _ (fun _ h => h) (by first | exact hS | exact hS.drop | exact hS.drop.drop | exact hS.drop.drop.drop | exact hS.drop.drop.drop.drop | exact hS.empty) (fun hC => ?_)
      clear hK K
      try simp only [List.getElem_toArray, List.getElem_cons_succ, List.getElem_cons_zero, Act.put, List.setIfInBounds_toArray, List.set_cons_zero, List.set_cons_succ]
      refine mixs_take 10 (v := ?_) rfl (by kernel_rfl) (fun _ _ _ h => h) (by kernel_rfl) (by assumption) (fun s => ?hy) ?_; case hy => (go_simp <;> with_reducible rfl)
      try simp only [List.getElem_toArray, List.getElem_cons_succ, List.getElem_cons_zero, Act.put, List.setIfInBounds_toArray, List.set_cons_zero, List.set_cons_succ]
      refine mixs_take 11 (v := ?_) rfl (by kernel_rfl) (fun _ _ _ h => h) (by kernel_rfl) (by assumption) (fun s => ?hy) ?_; case hy => (go_simp <;> with_reducible rfl)
      try simp only [List.getElem_toArray, List.getElem_cons_succ, List.getElem_cons_zero, Act.put, List.setIfInBounds_toArray, List.set_cons_zero, List.set_cons_succ]
      refine wpAnyH_done (by kernel_rfl) ?_ _
      try clear hC
      go_wp2_with fail
      go_ret
      exact ⟨rfl, _, _, _, _, hS.drop⟩
  · have b0 : (kind == 0) = false := by rw [beq_eq_false_iff_ne]; exact h0
    rw [if_neg h0]
    clear h0
    by_cases h1 : kind = 1
    · subst h1
      rw [if_pos rfl]
      have cW := fun W hh => sync_any bd sv wv d W hh hok hw hf
      have cR := fun W hh => rsync_any g rsv rwv d W hh hok hl hw hf
      generalize d.sync.1 = d' at *
      generalize d.sync.2 = e' at *
      replace cW := Lib.hid cW
      replace cR := Lib.hid cR
      clear hfit hok hf hl hw hx
      go_enter Try.func14, Try.ntmps14
      go_wp2_with (first
        | (with_reducible refine wpList_box_st hS rfl rfl rfl ?_; intro g1 w1 hS1; clear hS; replace hS := hS1; clear hS1) | (with_reducible refine wpList_box1_st hS rfl rfl rfl ?_; intro g1 w1 hS1; clear hS; replace hS := hS1; clear hS1) | (with_reducible refine wpList_alloc_st hS rfl rfl (by assumption) ?_; intro g1 w1 hS1; clear hS; replace hS := hS1; clear hS1) | (with_reducible refine wpList_alloc1_st hS rfl rfl (by assumption) rfl ?_; intro g1 w1 hS1; clear hS; replace hS := hS1; clear hS1) | ((with_reducible refine wpList_load_st 0 hS rfl rfl rfl rfl ?_ rfl ?_); focus (simp [scalarB, go_sem]; done)) | ((with_reducible refine wpList_loadall_st 0 hS rfl rfl rfl rfl ?_ (by kernel_rfl) ?_); focus (simp [rowB, go_sem]; done)) | ((with_reducible refine wpList_store_st 0 hS rfl rfl rfl rfl (by kernel_rfl) rfl rfl ?_); intro w1 hS1; clear hS; replace hS := hS1; clear hS1; try simp only [List.set_cons_zero, List.set_cons_succ, List.setIfInBounds_toArray, List.take_succ_cons, List.take_zero, List.drop_succ_cons, List.drop_zero, List.nil_append, List.cons_append, List.append_nil, List.drop_nil, List.take_nil, List.length_cons, List.length_nil, Nat.zero_add, Nat.add_zero, Nat.reduceAdd] at hS) | ((with_reducible refine wpList_storerow_st 0 hS rfl rfl rfl rfl (by kernel_rfl) rfl rfl rfl rfl ?_); intro w1 hS1; clear hS; replace hS := hS1; clear hS1; try simp only [List.set_cons_zero, List.set_cons_succ, List.setIfInBounds_toArray, List.take_succ_cons, List.take_zero, List.drop_succ_cons, List.drop_zero, List.nil_append, List.cons_append, List.append_nil, List.drop_nil, List.take_nil, List.length_cons, List.length_nil, Nat.zero_add, Nat.add_zero, Nat.reduceAdd] at hS)
        | (go_at_call 19; (with_reducible refine (cW.out _ hS.pre1).mono ?_); rintro _ w5 ⟨rfl, wv5, hk⟩; have hS1 := hS.call1 hk; clear hS hk; have hS := hS1; clear hS1)
        | (go_at_call 67; (with_reducible refine (cR.out _ hS.pre2).mono ?_); rintro _ w6 ⟨rfl, sv6, wv6, hk⟩; have hS1 := hS.call2 hk; clear hS hk; have hS := hS1; clear hS1))
      go_ret
      exact ⟨rfl, _, _, _, _, hS.drop⟩
    · have b1 : (kind == 1) = false := by rw [beq_eq_false_iff_ne]; exact h1
      rw [if_neg h1]
      clear h1
      by_cases h2 : kind = 2
      · subst h2
        rw [if_pos rfl]
        have cW := fun W hh => fuse_any bd sv wv d z W hh
        replace cW := Lib.hid cW
        clear hfit hok hf hl hw hx
        go_enter Try.func14, Try.ntmps14
        go_wp2_with (first
          | (with_reducible refine wpList_box_st hS rfl rfl rfl ?_; intro g1 w1 hS1; clear hS; replace hS := hS1; clear hS1) | (with_reducible refine wpList_box1_st hS rfl rfl rfl ?_; intro g1 w1 hS1; clear hS; replace hS := hS1; clear hS1) | (with_reducible refine wpList_alloc_st hS rfl rfl (by assumption) ?_; intro g1 w1 hS1; clear hS; replace hS := hS1; clear hS1) | (with_reducible refine wpList_alloc1_st hS rfl rfl (by assumption) rfl ?_; intro g1 w1 hS1; clear hS; replace hS := hS1; clear hS1) | ((with_reducible refine wpList_load_st 0 hS rfl rfl rfl rfl ?_ rfl ?_); focus (simp [scalarB, go_sem]; done)) | ((with_reducible refine wpList_loadall_st 0 hS rfl rfl rfl rfl ?_ (by kernel_rfl) ?_); focus (simp [rowB, go_sem]; done)) | ((with_reducible refine wpList_store_st 0 hS rfl rfl rfl rfl (by kernel_rfl) rfl rfl ?_); intro w1 hS1; clear hS; replace hS := hS1; clear hS1; try simp only [List.set_cons_zero, List.set_cons_succ, List.setIfInBounds_toArray, List.take_succ_cons, List.take_zero, List.drop_succ_cons, List.drop_zero, List.nil_append, List.cons_append, List.append_nil, List.drop_nil, List.take_nil, List.length_cons, List.length_nil, Nat.zero_add, Nat.add_zero, Nat.reduceAdd] at hS) | ((with_reducible refine wpList_storerow_st 0 hS rfl rfl rfl rfl (by kernel_rfl) rfl rfl rfl rfl ?_); intro w1 hS1; clear hS; replace hS := hS1; clear hS1; try simp only [List.set_cons_zero, List.set_cons_succ, List.setIfInBounds_toArray, List.take_succ_cons, List.take_zero, List.drop_succ_cons, List.drop_zero, List.nil_append, List.cons_append, List.append_nil, List.drop_nil, List.take_nil, List.length_cons, List.length_nil, Nat.zero_add, Nat.add_zero, Nat.reduceAdd] at hS)
          | (go_at_call 20; (with_reducible refine (cW.out _ hS.pre1).mono ?_); rintro _ w5 ⟨rfl, hk⟩; have hS1 := hS.call1 hk; clear hS hk; have hS := hS1; clear hS1)
          | (refine wpList_store_st 4 hS rfl rfl rfl rfl (by kernel_rfl) rfl rfl ?_; intro w6 hS1; clear hS; have hS : St w F (Ch.blk g1 35 #[.int .i64 2, .int .i64 place, .int .i64 z, .int .u8 c.toNat, .slice ak keep.length kc] :: (dks bd sv wv { d with fuse := z } ++ (rdk g rsv rwv { d with fuse := z } ++ []))) w6 := hS1; clear hS1))
        go_ret
        exact ⟨rfl, _, _, _, _, hS.drop⟩
      · have b2 : (kind == 2) = false := by rw [beq_eq_false_iff_ne]; exact h2
        rw [if_neg h2]
        clear h2
        by_cases h3 : kind = 3
        · subst h3
          rw [if_pos rfl]
          obtain ⟨hks, hle, hcm, hkb, -, -⟩ := hx
          simp only at hks hle hcm hkb
          have hkb2 : ∀ z ∈ keep, z ≤ 9223372036854775807 := fun z hz => (hkb z hz).2
          have hkm : keep.length ≤ maxLen := Nat.le_trans hle hcm
          have hap1 : 0 < keep.length → ∀ b o, ak = some ⟨b, o, none⟩ → b ∉ feet (dks bd sv wv d) := fun h b o e => (feet_off (hF.out ▸ hap h b o e)).1
          have hap2 : 0 < keep.length → ∀ b o, ak = some ⟨b, o, none⟩ → b ∉ feet (rdk g rsv rwv d) := fun h b o e => (feet_off (feet_off (hF.out ▸ hap h b o e)).2).1
          have hksl : ∀ (L : List Ch) (W : World), St w F L W → Sl W ak (keep.map vi) := fun L W hh => hks.old hh (by rw [List.length_map]; exact hap)
          have cW := fun W hh hs => crash_any bd sv wv d ak keep keep.length kc W hh hok hw hs hkb2 rfl hkm hap1
          have cR := fun W hh hs => rcrash_any g rsv rwv d ak keep keep.length kc W hh hok hl hw hs hkb2 rfl hkm hap2
          replace cW := Lib.hid cW
          replace cR := Lib.hid cR
          replace hksl := Lib.hid hksl
          replace hap := Lib.hid hap
          clear hfit hok hf hl hw hks hle hcm hkb hkb2 hkm hap1 hap2
          generalize d.crash keep = d' at *
          go_enter Try.func14, Try.ntmps14
          go_wp2_with (first
            | (with_reducible refine wpList_box_st hS rfl rfl rfl ?_; intro g1 w1 hS1; clear hS; replace hS := hS1; clear hS1) | (with_reducible refine wpList_box1_st hS rfl rfl rfl ?_; intro g1 w1 hS1; clear hS; replace hS := hS1; clear hS1) | (with_reducible refine wpList_alloc_st hS rfl rfl (by assumption) ?_; intro g1 w1 hS1; clear hS; replace hS := hS1; clear hS1) | (with_reducible refine wpList_alloc1_st hS rfl rfl (by assumption) rfl ?_; intro g1 w1 hS1; clear hS; replace hS := hS1; clear hS1) | ((with_reducible refine wpList_load_st 0 hS rfl rfl rfl rfl ?_ rfl ?_); focus (simp [scalarB, go_sem]; done)) | ((with_reducible refine wpList_loadall_st 0 hS rfl rfl rfl rfl ?_ (by kernel_rfl) ?_); focus (simp [rowB, go_sem]; done)) | ((with_reducible refine wpList_store_st 0 hS rfl rfl rfl rfl (by kernel_rfl) rfl rfl ?_); intro w1 hS1; clear hS; replace hS := hS1; clear hS1; try simp only [List.set_cons_zero, List.set_cons_succ, List.setIfInBounds_toArray, List.take_succ_cons, List.take_zero, List.drop_succ_cons, List.drop_zero, List.nil_append, List.cons_append, List.append_nil, List.drop_nil, List.take_nil, List.length_cons, List.length_nil, Nat.zero_add, Nat.add_zero, Nat.reduceAdd] at hS) | ((with_reducible refine wpList_storerow_st 0 hS rfl rfl rfl rfl (by kernel_rfl) rfl rfl rfl rfl ?_); intro w1 hS1; clear hS; replace hS := hS1; clear hS1; try simp only [List.set_cons_zero, List.set_cons_succ, List.setIfInBounds_toArray, List.take_succ_cons, List.take_zero, List.drop_succ_cons, List.drop_zero, List.nil_append, List.cons_append, List.append_nil, List.drop_nil, List.take_nil, List.length_cons, List.length_nil, Nat.zero_add, Nat.add_zero, Nat.reduceAdd] at hS)
            | (go_at_call 21; (with_reducible refine (cW.out _ hS.pre1 (hksl.out _ _ hS)).mono ?_); rintro _ w5 ⟨rfl, wv5, hk⟩; have hS1 := hS.call1 hk; clear hS hk; have hS := hS1; clear hS1)
            | (go_at_call 37; (with_reducible refine (cR.out _ hS.pre2 (hksl.out _ _ hS)).mono ?_); rintro _ w6 ⟨rfl, sv6, wv6, hk⟩; have hS1 := hS.call2 hk; clear hS hk; have hS := hS1; clear hS1))
          go_ret
          exact ⟨rfl, _, _, _, _, hS.drop⟩
        · have b3 : (kind == 3) = false := by rw [beq_eq_false_iff_ne]; exact h3
          rw [if_neg h3]
          clear h3 hfit hok hf hl hw hx
          go_enter Try.func14, Try.ntmps14
          go_wp2_with (first | (with_reducible refine wpList_box_st hS rfl rfl rfl ?_; intro g1 w1 hS1; clear hS; replace hS := hS1; clear hS1) | (with_reducible refine wpList_box1_st hS rfl rfl rfl ?_; intro g1 w1 hS1; clear hS; replace hS := hS1; clear hS1) | (with_reducible refine wpList_alloc_st hS rfl rfl (by assumption) ?_; intro g1 w1 hS1; clear hS; replace hS := hS1; clear hS1) | (with_reducible refine wpList_alloc1_st hS rfl rfl (by assumption) rfl ?_; intro g1 w1 hS1; clear hS; replace hS := hS1; clear hS1) | ((with_reducible refine wpList_load_st 0 hS rfl rfl rfl rfl ?_ rfl ?_); focus (simp [scalarB, go_sem]; done)) | ((with_reducible refine wpList_loadall_st 0 hS rfl rfl rfl rfl ?_ (by kernel_rfl) ?_); focus (simp [rowB, go_sem]; done)) | ((with_reducible refine wpList_store_st 0 hS rfl rfl rfl rfl (by kernel_rfl) rfl rfl ?_); intro w1 hS1; clear hS; replace hS := hS1; clear hS1; try simp only [List.set_cons_zero, List.set_cons_succ, List.setIfInBounds_toArray, List.take_succ_cons, List.take_zero, List.drop_succ_cons, List.drop_zero, List.nil_append, List.cons_append, List.append_nil, List.drop_nil, List.take_nil, List.length_cons, List.length_nil, Nat.zero_add, Nat.add_zero, Nat.reduceAdd] at hS) | ((with_reducible refine wpList_storerow_st 0 hS rfl rfl rfl rfl (by kernel_rfl) rfl rfl rfl rfl ?_); intro w1 hS1; clear hS; replace hS := hS1; clear hS1; try simp only [List.set_cons_zero, List.set_cons_succ, List.setIfInBounds_toArray, List.take_succ_cons, List.take_zero, List.drop_succ_cons, List.drop_zero, List.nil_append, List.cons_append, List.append_nil, List.drop_nil, List.take_nil, List.length_cons, List.length_nil, Nat.zero_add, Nat.add_zero, Nat.reduceAdd] at hS))
          go_ret
          exact ⟨rfl, _, _, _, _, hS.drop⟩
end Go.Proofs.Ytlhpibniecfofaa
