/- The walk of the reference's Put. -/
import Derived.Test.YtcpkmgmdhjhfaaaSec3
import Derived.Test.YtcpkmgmdhjhfaaaSt2
set_option linter.unusedSimpArgs false
set_option linter.unusedVariables false
namespace Go.Proofs.Ytcpkmgmdhjhfaaa
open Go.RowKit Go.Ofp
set_option linter.unusedVariables false
set_option maxRecDepth 100000
set_option maxHeartbeats 4000000

theorem le_two (n : Nat) : le (n % 65536) 2 = le n 2 := by
  have h1 : UInt8.ofNat (n % 65536) = UInt8.ofNat n := by apply UInt8.toNat.inj; simp [UInt8.toNat_ofNat']
  have h2 : UInt8.ofNat (n % 65536 / 256) = UInt8.ofNat (n / 256) := by apply UInt8.toNat.inj; simp only [UInt8.toNat_ofNat']; omega
  simp only [le, h1, h2]

theorem made_u8 (n : Nat) : (madeCells (Value.int .u8 0).cells (n * 1)).toList = (List.replicate n (0 : UInt8)).map vb := by
  rw [Nat.mul_one]
  apply List.ext_getElem (by simp [madeCells])
  intro i h1 h2
  simp [madeCells, vb, Value.cells, Nat.mod_one]

theorem rput_bytes (L M N C : Nat) (p : Pc) (A B : ByteArray) (hok : p.ok = true) (hL : (L : Int) = p.life) (hM : (M : Int) = p.place) (hN : N = sizeFlags p)
    (hA : A = str (le L 4) ++ str (le M 5) ++ str (le N 1) ++ p.body) (hB : B = A ++ str (List.replicate (52 - p.body.size) 0)) (hC : C = (crc B.data.toList).toNat) : B ++ str (le (C % 65536) 2) = str (putB p) := by
  have eL : p.life.toNat = L := by omega
  have eM : p.place.toNat = M := by omega
  have hB' : B.data.toList = headB p := by
    rw [hB, hA, headB, eL, eM, hN]
    simp [le]
  rw [putB, if_pos hok, le_two, hC, hB']
  apply ba_ext
  simp [hB']

theorem rput_any (p : Pc) (w : World) (hb : p.body.size ≤ maxLen) : Calls Try.prog 44 #[p.val] w fun e w' => e = .returned (.string (str (putB p))) ∧ Below w.heap.size w w' := by
  unfold maxLen at hb
  have cK := fun W : World => rcheck_any p W
  have hS := St.start w
  have hok := Pc.ok_iff p
  cases hpb : p.ok with
  | false =>
    have e : putB p = [] := by rw [putB, if_neg]; rw [hpb]; simp
    rw [e]
    rw [hpb] at cK
    clear e hok hpb
    replace cK := Lib.hid cK
    obtain ⟨life, place, first, last, body⟩ := p
    simp only [Pc.val, Pc.row] at cK ⊢
    go_enter Try.func44, Try.ntmps44
    go_wp2_with (first | (with_reducible refine wpList_box_st hS rfl rfl rfl ?_; intro g1 w1 hS1; clear hS; replace hS := hS1; clear hS1) | (with_reducible refine wpList_box1_st hS rfl rfl rfl ?_; intro g1 w1 hS1; clear hS; replace hS := hS1; clear hS1) | (with_reducible refine wpList_alloc_st hS rfl rfl (by assumption) ?_; intro g1 w1 hS1; clear hS; replace hS := hS1; clear hS1) | (with_reducible refine wpList_alloc1_st hS rfl rfl (by assumption) rfl ?_; intro g1 w1 hS1; clear hS; replace hS := hS1; clear hS1) | ((with_reducible refine wpList_load_st 0 hS rfl rfl rfl rfl ?_ rfl ?_); focus (simp [scalarB, go_sem]; done)) | ((with_reducible refine wpList_loadall_st 0 hS rfl rfl rfl rfl ?_ (by kernel_rfl) ?_); focus (simp [rowB, go_sem]; done)) | ((with_reducible refine wpList_store_st 0 hS rfl rfl rfl rfl (by kernel_rfl) rfl rfl ?_); intro w1 hS1; clear hS; replace hS := hS1; clear hS1; try simp only [List.set_cons_zero, List.set_cons_succ, List.setIfInBounds_toArray, List.take_succ_cons, List.take_zero, List.drop_succ_cons, List.drop_zero, List.nil_append, List.cons_append, List.append_nil, List.drop_nil, List.take_nil, List.length_cons, List.length_nil, Nat.zero_add, Nat.add_zero, Nat.reduceAdd] at hS) | ((with_reducible refine wpList_storerow_st 0 hS rfl rfl rfl rfl (by kernel_rfl) rfl rfl rfl rfl ?_); intro w1 hS1; clear hS; replace hS := hS1; clear hS1; try simp only [List.set_cons_zero, List.set_cons_succ, List.setIfInBounds_toArray, List.take_succ_cons, List.take_zero, List.drop_succ_cons, List.drop_zero, List.nil_append, List.cons_append, List.append_nil, List.drop_nil, List.take_nil, List.length_cons, List.length_nil, Nat.zero_add, Nat.add_zero, Nat.reduceAdd] at hS) | (go_at_call 42; refine (cK.out _).mono ?_; rintro _ w3 ⟨rfl, hb3⟩; have hS1 := hS.keepB hb3; clear hb3 hS; have hS := hS1; clear hS1))
    go_ret
    exact ⟨rfl, hS.below⟩
  | true =>
    have hq := hok.1 hpb
    have hfin := fun L M N C A B h1 h2 h3 h4 h5 h6 => rput_bytes L M N C p A B hpb h1 h2 h3 h4 h5 h6
    rw [hpb] at cK
    clear hok hpb
    replace cK := Lib.hid cK
    obtain ⟨N, hN⟩ : ∃ N, N = sizeFlags p := ⟨_, rfl⟩
    have hN2 : ((p.body.size : Int) + (if p.first then 64 else 0)) + (if p.last then 128 else 0) = (N : Int) := by rw [hN, sizeFlags]; split <;> split <;> simp
    have hN3 : N < 256 := by rw [hN]; exact (sizeFlags_bits p hq.2.2.2.2).1
    obtain ⟨L, hL⟩ : ∃ L : Nat, (L : Int) = p.life := ⟨p.life.toNat, by omega⟩
    obtain ⟨M, hM⟩ : ∃ L : Nat, (L : Int) = p.place := ⟨p.place.toNat, by omega⟩
    obtain ⟨A, hA⟩ : ∃ A, A = str (le L 4) ++ str (le M 5) ++ str (le N 1) ++ p.body := ⟨_, rfl⟩
    have hov : ¬ 9223372036854775807 < 10 + p.body.size := by have := hq.2.2.2.2; omega
    have hAs : A.size = 10 + p.body.size := by rw [hA]; simp [ByteArray.size_append]
    obtain ⟨B, hB⟩ : ∃ B, B = A ++ str (List.replicate (52 - p.body.size) 0) := ⟨_, rfl⟩
    have hBs : B.size = 62 := by rw [hB]; simp [ByteArray.size_append, hAs]; omega
    obtain ⟨C, hCc⟩ : ∃ C, C = (crc B.data.toList).toNat := ⟨_, rfl⟩
    have hC1 : C < 4294967296 := by rw [hCc]; exact (crc B.data.toList).isLt
    have hfin2 := hfin L M N C A B hL hM hN hA hB hCc
    clear hfin hN
    replace hfin2 := Lib.hid hfin2
    have hA' := hA.symm
    have hB' := hB.symm
    clear hA hB
    obtain ⟨life, place, first, last, body⟩ := p
    simp only [Pc.val, Pc.row] at cK hN2 hL hM hAs hA' hB' hq ⊢
    subst hL
    subst hM
    have hb52 := hq.2.2.2.2
    have hq1 : L < 9223372036854775808 := by have := hq.2.1; omega
    have hq2 : M < 9223372036854775808 := by have := hq.2.2.2.1; omega
    have r4 : ∀ W : World, Calls Try.prog 84 #[.int .i64 (L : Int), .int .i64 4] W fun e w' => e = .returned (.string (str (le L 4))) ∧ Below W.heap.size W w' := fun W => rlow_any L 4 W hq1 (by omega)
    have r5 : ∀ W : World, Calls Try.prog 84 #[.int .i64 (M : Int), .int .i64 5] W fun e w' => e = .returned (.string (str (le M 5))) ∧ Below W.heap.size W w' := fun W => rlow_any M 5 W hq2 (by omega)
    have r1 : ∀ W : World, Calls Try.prog 84 #[.int .i64 (N : Int), .int .i64 1] W fun e w' => e = .returned (.string (str (le N 1))) ∧ Below W.heap.size W w' := fun W => rlow_any N 1 W (by omega) (by omega)
    have r2 : ∀ W : World, Calls Try.prog 84 #[.int .i64 ((C : Int) % 65536), .int .i64 2] W fun e w' => e = .returned (.string (str (le (C % 65536) 2))) ∧ Below W.heap.size W w' := fun W => rlow_any (C % 65536) 2 W (by omega) (by omega)
    replace r4 := Lib.hid r4
    replace r5 := Lib.hid r5
    replace r1 := Lib.hid r1
    replace r2 := Lib.hid r2
    clear hq1 hq2
    clear hq
    replace hA' := Lib.hid hA'
    replace hB' := Lib.hid hB'
    replace hCc := Lib.hid hCc
    replace hAs := Lib.hid hAs
    clear hb hS ; have hS := St.start w
    cases first <;> cases last
    all_goals
      simp only [if_true, Bool.false_eq_true, if_false, Int.add_zero] at hN2
      go_enter Try.func44, Try.ntmps44
      go_wp2_with (first | (with_reducible refine wpList_box_st hS rfl rfl rfl ?_; intro g1 w1 hS1; clear hS; replace hS := hS1; clear hS1) | (with_reducible refine wpList_box1_st hS rfl rfl rfl ?_; intro g1 w1 hS1; clear hS; replace hS := hS1; clear hS1) | (with_reducible refine wpList_alloc_st hS rfl rfl (by assumption) ?_; intro g1 w1 hS1; clear hS; replace hS := hS1; clear hS1) | (with_reducible refine wpList_alloc1_st hS rfl rfl (by assumption) rfl ?_; intro g1 w1 hS1; clear hS; replace hS := hS1; clear hS1) | ((with_reducible refine wpList_load_st 0 hS rfl rfl rfl rfl ?_ rfl ?_); focus (simp [scalarB, go_sem]; done)) | ((with_reducible refine wpList_loadall_st 0 hS rfl rfl rfl rfl ?_ (by kernel_rfl) ?_); focus (simp [rowB, go_sem]; done)) | ((with_reducible refine wpList_store_st 0 hS rfl rfl rfl rfl (by kernel_rfl) rfl rfl ?_); intro w1 hS1; clear hS; replace hS := hS1; clear hS1; try simp only [List.set_cons_zero, List.set_cons_succ, List.setIfInBounds_toArray, List.take_succ_cons, List.take_zero, List.drop_succ_cons, List.drop_zero, List.nil_append, List.cons_append, List.append_nil, List.drop_nil, List.take_nil, List.length_cons, List.length_nil, Nat.zero_add, Nat.add_zero, Nat.reduceAdd] at hS) | ((with_reducible refine wpList_storerow_st 0 hS rfl rfl rfl rfl (by kernel_rfl) rfl rfl rfl rfl ?_); intro w1 hS1; clear hS; replace hS := hS1; clear hS1; try simp only [List.set_cons_zero, List.set_cons_succ, List.setIfInBounds_toArray, List.take_succ_cons, List.take_zero, List.drop_succ_cons, List.drop_zero, List.nil_append, List.cons_append, List.append_nil, List.drop_nil, List.take_nil, List.length_cons, List.length_nil, Nat.zero_add, Nat.add_zero, Nat.reduceAdd] at hS) | (go_at_call 42; refine (cK.out _).mono ?_; rintro _ w3 ⟨rfl, hb3⟩; have hS1 := hS.keepB hb3; clear hb3 hS; have hS := hS1; clear hS1))
      have k0 := hS.kcell 0 rfl 0 rfl
      have k1 := hS.kcell 0 rfl 1 rfl
      have k4 := hS.kcell 0 rfl 4 rfl
      refine mixs_begin (by kernel_rfl) hS ?_
      clear hS
      intro w2 hS
      refine mixs_take 0 (v := ?_) rfl (by kernel_rfl) (fun _ _ _ h => h) (by kernel_rfl) (by assumption) (fun s => ?hy) ?_; case hy => (go_simp <;> with_reducible rfl)
      try simp only [List.getElem_toArray, List.getElem_cons_succ, List.getElem_cons_zero, Act.put, List.setIfInBounds_toArray, List.set_cons_zero, List.set_cons_succ]
      refine mixs_take 1 (v := ?_) rfl (by kernel_rfl) (fun _ _ _ h => h) (by kernel_rfl) (by assumption) (fun s => ?hy) ?_; case hy => (go_simp <;> with_reducible rfl)
      try simp only [List.getElem_toArray, List.getElem_cons_succ, List.getElem_cons_zero, Act.put, List.setIfInBounds_toArray, List.set_cons_zero, List.set_cons_succ]
      refine mixs_take 3 (v := ?_) rfl (by kernel_rfl) (fun _ _ _ h => h) (by kernel_rfl) (by assumption) (fun s => ?hy) ?_; case hy => (go_simp <;> with_reducible rfl)
      try simp only [List.getElem_toArray, List.getElem_cons_succ, List.getElem_cons_zero, Act.put, List.setIfInBounds_toArray, List.set_cons_zero, List.set_cons_succ]
      refine mixs_take 4 (v := ?_) rfl (by kernel_rfl) (fun _ _ _ h => h) (by kernel_rfl) (by assumption) (fun s => ?hy) ?_; case hy => (go_simp <;> with_reducible rfl)
      try simp only [List.getElem_toArray, List.getElem_cons_succ, List.getElem_cons_zero, Act.put, List.setIfInBounds_toArray, List.set_cons_zero, List.set_cons_succ]
      refine mixs_take 7 (v := ?_) rfl (by kernel_rfl) (fun _ _ _ h => h) (by kernel_rfl) (by assumption) (fun s => ?hy) ?_; case hy => (go_simp <;> with_reducible rfl)
      try simp only [List.getElem_toArray, List.getElem_cons_succ, List.getElem_cons_zero, Act.put, List.setIfInBounds_toArray, List.set_cons_zero, List.set_cons_succ]
      refine mixs_take 10 (v := ?_) rfl (by kernel_rfl) (fun _ _ _ h => h) (by kernel_rfl) (by assumption) (fun s => ?hy) ?_; case hy => (go_simp <;> with_reducible rfl)
      try simp only [List.getElem_toArray, List.getElem_cons_succ, List.getElem_cons_zero, Act.put, List.setIfInBounds_toArray, List.set_cons_zero, List.set_cons_succ]
      refine mixs_take 11 (v := ?_) rfl (by kernel_rfl) (fun _ _ _ h => h) (by kernel_rfl) (by assumption) (fun s => ?hy) ?_; case hy => (go_simp <;> with_reducible rfl)
      try simp only [List.getElem_toArray, List.getElem_cons_succ, List.getElem_cons_zero, Act.put, List.setIfInBounds_toArray, List.set_cons_zero, List.set_cons_succ]
      refine mixs_one 2 (by kernel_rfl) rfl (fun K hK => ?_)
      go_simp
      ( go_at_call 84; (first | (with_reducible refine (r4.out _).mono ?_) | (with_reducible refine (r5.out _).mono ?_) | (with_reducible refine (r1.out _).mono ?_)); rintro _ w3 ⟨rfl, hb3⟩; have hS1 := hS.keepB hb3; clear hb3 hS; have hS := hS1; clear hS1 )
      try clear hC
      refine hK.out _ _ _ (fun _ h => h) (by first | exact hS | exact hS.drop | exact hS.drop.drop | exact hS.drop.drop.drop | exact hS.drop.drop.drop.drop) (fun hC => ?_)
      clear hK K
      try simp only [List.getElem_toArray, List.getElem_cons_succ, List.getElem_cons_zero, Act.put, List.setIfInBounds_toArray, List.set_cons_zero, List.set_cons_succ]
      refine mixs_one 5 (by kernel_rfl) rfl (fun K hK => ?_)
      go_simp
      ( go_at_call 84; (first | (with_reducible refine (r4.out _).mono ?_) | (with_reducible refine (r5.out _).mono ?_) | (with_reducible refine (r1.out _).mono ?_)); rintro _ w3 ⟨rfl, hb3⟩; have hS1 := hS.keepB hb3; clear hb3 hS; have hS := hS1; clear hS1 )
      try clear hC
      refine hK.out _ _ _ (fun _ h => h) (by first | exact hS | exact hS.drop | exact hS.drop.drop | exact hS.drop.drop.drop | exact hS.drop.drop.drop.drop) (fun hC => ?_)
      clear hK K
      try simp only [List.getElem_toArray, List.getElem_cons_succ, List.getElem_cons_zero, Act.put, List.setIfInBounds_toArray, List.set_cons_zero, List.set_cons_succ]
      refine mixs_take 6 (v := ?_) rfl (by kernel_rfl) (fun _ _ _ h => h) (by kernel_rfl) (by assumption) (fun s => ?hy) ?_; case hy => (go_simp <;> with_reducible rfl)
      try simp only [List.getElem_toArray, List.getElem_cons_succ, List.getElem_cons_zero, Act.put, List.setIfInBounds_toArray, List.set_cons_zero, List.set_cons_succ]
      refine mixs_one 8 (by kernel_rfl) rfl (fun K hK => ?_)
      go_simp
      ( go_at_call 84; (first | (with_reducible refine (r4.out _).mono ?_) | (with_reducible refine (r5.out _).mono ?_) | (with_reducible refine (r1.out _).mono ?_)); rintro _ w3 ⟨rfl, hb3⟩; have hS1 := hS.keepB hb3; clear hb3 hS; have hS := hS1; clear hS1 )
      try clear hC
      refine hK.out _ _ _ (fun _ h => h) (by first | exact hS | exact hS.drop | exact hS.drop.drop | exact hS.drop.drop.drop | exact hS.drop.drop.drop.drop) (fun hC => ?_)
      clear hK K
      try simp only [List.getElem_toArray, List.getElem_cons_succ, List.getElem_cons_zero, Act.put, List.setIfInBounds_toArray, List.set_cons_zero, List.set_cons_succ]
      refine mixs_take 9 (v := ?_) rfl (by kernel_rfl) (fun _ _ _ h => h) (by kernel_rfl) (by assumption) (fun s => ?hy) ?_; case hy => (go_simp <;> with_reducible rfl)
      try simp only [List.getElem_toArray, List.getElem_cons_succ, List.getElem_cons_zero, Act.put, List.setIfInBounds_toArray, List.set_cons_zero, List.set_cons_succ]
      refine mixs_take 12 (v := ?_) rfl (by kernel_rfl) (fun _ _ _ h => h) (by kernel_rfl) (by assumption) (fun s => ?hy) ?_; case hy => (go_simp <;> with_reducible rfl)
      try simp only [List.getElem_toArray, List.getElem_cons_succ, List.getElem_cons_zero, Act.put, List.setIfInBounds_toArray, List.set_cons_zero, List.set_cons_succ]
      refine mixs_take 13 (v := ?_) rfl (by kernel_rfl) (fun _ _ _ h => h) (by kernel_rfl) (by assumption) (fun s => ?hy) ?_; case hy => (go_simp <;> with_reducible rfl)
      try simp only [List.getElem_toArray, List.getElem_cons_succ, List.getElem_cons_zero, Act.put, List.setIfInBounds_toArray, List.set_cons_zero, List.set_cons_succ]
      refine wpAnyH_done (by kernel_rfl) ?_ _
      clear k0 k1 k4 hN2 hov
      rw [hA'.out]
      have hAs' := hAs.out
      have hov2 : ¬ 9223372036854775807 < 10 + body.size + (52 - body.size) := by omega
      go_wp2_with (first
        | (with_reducible refine wpList_box_st hS rfl rfl rfl ?_; intro g1 w1 hS1; clear hS; replace hS := hS1; clear hS1) | (with_reducible refine wpList_box1_st hS rfl rfl rfl ?_; intro g1 w1 hS1; clear hS; replace hS := hS1; clear hS1) | (with_reducible refine wpList_alloc_st hS rfl rfl (by assumption) ?_; intro g1 w1 hS1; clear hS; replace hS := hS1; clear hS1) | (with_reducible refine wpList_alloc1_st hS rfl rfl (by assumption) rfl ?_; intro g1 w1 hS1; clear hS; replace hS := hS1; clear hS1) | ((with_reducible refine wpList_load_st 0 hS rfl rfl rfl rfl ?_ rfl ?_); focus (simp [scalarB, go_sem]; done)) | ((with_reducible refine wpList_loadall_st 0 hS rfl rfl rfl rfl ?_ (by kernel_rfl) ?_); focus (simp [rowB, go_sem]; done)) | ((with_reducible refine wpList_store_st 0 hS rfl rfl rfl rfl (by kernel_rfl) rfl rfl ?_); intro w1 hS1; clear hS; replace hS := hS1; clear hS1; try simp only [List.set_cons_zero, List.set_cons_succ, List.setIfInBounds_toArray, List.take_succ_cons, List.take_zero, List.drop_succ_cons, List.drop_zero, List.nil_append, List.cons_append, List.append_nil, List.drop_nil, List.take_nil, List.length_cons, List.length_nil, Nat.zero_add, Nat.add_zero, Nat.reduceAdd] at hS) | ((with_reducible refine wpList_storerow_st 0 hS rfl rfl rfl rfl (by kernel_rfl) rfl rfl rfl rfl ?_); intro w1 hS1; clear hS; replace hS := hS1; clear hS1; try simp only [List.set_cons_zero, List.set_cons_succ, List.setIfInBounds_toArray, List.take_succ_cons, List.take_zero, List.drop_succ_cons, List.drop_zero, List.nil_append, List.cons_append, List.append_nil, List.drop_nil, List.take_nil, List.length_cons, List.length_nil, Nat.zero_add, Nat.add_zero, Nat.reduceAdd] at hS)
        | (at_make; refine wpList_mkfull_st hS rfl rfl Try.underlying22 elem_u8 rfl rfl (52 - body.size) (by omega) (by omega) (by omega) (by unfold maxLen; omega) ?_; intro g2 w3 hS1; clear hS; have hS := hS1; clear hS1)
        | (with_reducible refine wpList_bts (src := 22) (dst := 9) (x := .tmp 36) (l := List.replicate (52 - body.size) 0) rfl rfl Try.underlying22 Try.underlying5 Try.underlying9 rfl (by rw [← made_u8]; exact hS.rowsl 0 rfl) (by simp) ?_)
        | (go_at_call 28; rw [hB'.out]; refine (rof_any B _ (by unfold maxLen; omega)).mono ?_; rintro _ _ ⟨rfl, rfl⟩; rw [← hCc.out])
        | (go_at_call 84; (with_reducible refine (r2.out _).mono ?_); rintro _ w3 ⟨rfl, hb3⟩; have hS1 := hS.keepB hb3; clear hb3 hS; have hS := hS1; clear hS1))
      go_ret
      rw [hfin2.out]
      exact ⟨rfl, hS.below⟩

end Go.Proofs.Ytcpkmgmdhjhfaaa
