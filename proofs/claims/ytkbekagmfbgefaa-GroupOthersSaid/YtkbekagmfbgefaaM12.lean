import Derived.Test.YtkbekagmfbgefaaM11
set_option linter.unusedVariables false
set_option linter.unusedSimpArgs false
set_option maxRecDepth 100000
section
namespace Go.Proofs.Ytkbekagmfbgefaa
open Go.RowKit Go.Ofp
set_option maxHeartbeats 4000000
theorem others_main (a : Option Addr) (gs : List Gr) (n cap : Nat) (g id0 id1 : Int) (w : World) (hD : Deep w a n cap gs) (hbig : bigK (keys gs) = false) (hchk : chkK (keys gs) = true) :
    Calls Try.prog 3 #[.slice a n cap, .int .i64 g, .agg #[.int .i64 id0, .int .i64 id1]] w fun e w' => e = .returned (.bool true) ∧ Below w.heap.size w w' := by
  have hS := St.start w
  have hok := okK_of hbig hchk
  have hlen := hD.len
  have hn1 : n ≤ 200 := by have := hok.nn; omega
  obtain ⟨hs1, hs2⟩ := small_of hbig
  have hF0 : ofK (keys gs) id0 < 4294967296 := ofFrom_lt _ _ _ (by omega) ((chkK_iff _).1 hchk).2.1
  have cL := fun W (h : Deep W a n cap gs) => large_any a gs n cap W h
  have rC := fun W (h : Deep W a n cap gs) => rgcheck_any a gs n cap W h (by omega)
  have cF0 := fun W (h : Deep W a n cap gs) => of_ok id0 h hok
  have cF1 := fun W (h : Deep W a n cap gs) => of_ok id1 h hok
  have pJ := fun W (h : Deep W a n cap gs) => join_ok g id0 h hok
  have hrow : ∀ j (hj : j < gs.length), ∃ (q : Nat) (m : List Int), gs[j].no = (q : Int) ∧ q < 16 ∧ gs[j].mem = m ∧ m.length ≤ 100 ∧ membersK (keys gs) q = m ∧ (ofK (keys gs) id0).testBit q = Ids.has m id0 := by
    intro j hj
    have hjk : j < (keys gs).length := by simpa [keys] using hj
    have e : (keys gs)[j] = gs[j].key := by simp [keys]
    have h1 := members_at hchk j hjk
    have h2 := of_bit hchk id0 j hjk
    rw [e] at h1 h2
    obtain ⟨hno1, hno2⟩ := hok.no gs[j] (List.getElem_mem hj)
    obtain ⟨q, hq⟩ := Int.eq_ofNat_of_zero_le hno1
    refine ⟨q, gs[j].mem, hq, by omega, rfl, hs2 gs[j].key (List.mem_map_of_mem (List.getElem_mem hj)), ?_, ?_⟩
    · rw [← hq]; exact h1
    · have : gs[j].key.1.toNat = q := by show gs[j].no.toNat = q; omega
      rw [← this]; exact h2
  have hMb := fun g W (h : Deep W a n cap gs) => members_any a gs n cap g W h (by omega) hok.mm hok.up
  have hjd := fun h => join_done hok (g := g) (id := id0) (by omega) hs2 h
  have hjb := fun h => join_bad (ks := keys gs) (g := g) (id := id0) h
  rw [hbig] at cL
  rw [hchk] at rC
  have hDl := Lib.hid (fun W (h : Below w.heap.size w W) => hD.below h)
  replace cL := Lib.hid cL
  replace rC := Lib.hid rC
  replace hrow := Lib.hid hrow
  replace hMb := Lib.hid hMb
  replace hjd := Lib.hid hjd
  replace hjb := Lib.hid hjb
  replace hF0 := Lib.hid hF0
  replace cF0 := Lib.hid cF0
  replace cF1 := Lib.hid cF1
  replace pJ := Lib.hid pJ
  replace hok := Lib.hid hok
  replace hD := Lib.hid hD
  clear hbig hchk hs1 hs2
  go_enter Try.func3, Try.ntmps3
  go_wp2_with (first
    | ((with_reducible refine wpList_box_st hS rfl rfl rfl ?_); intro gi w2 hS1; clear hS; have hS := hS1; clear hS1)
    | (go_at_call 6; (with_reducible refine (cL.out _ (hDl.out _ hS.below)).mono ?_); rintro _ _ ⟨rfl, rfl⟩)
    | (go_at_call 7; (with_reducible refine (rC.out _ (hDl.out _ hS.below)).mono ?_); rintro _ w9 ⟨rfl, hb9⟩; have hS1 := hS.keepB hb9; clear hb9 hS; have hS := hS1; clear hS1))
  go_loopg [7] n (fun gk vx wr => ∃ j : Nat, j + gk = n ∧ vx = .int .i64 j ∧ St w [] [Ch.blk gi 23 #[.int .i64 id0, .int .i64 id1]] wr)
  case atStart => exact ⟨0, Nat.zero_add _, rfl, hS⟩
  case round =>
    clear hS
    obtain ⟨j, hj, rfl, hS⟩ := hrel
    by_cases hlt : j < n
    · obtain ⟨q, m, hq, hq2, hm, hml, hmk, hbit⟩ := hrow.out j (by omega)
      obtain ⟨b, off, rfl, c0, -⟩ := hD.out.get j (by omega)
      rw [hq] at c0
      have pM := fun W h => hMb.out q W h
      rw [hmk] at pM
      replace pM := Lib.hid pM
      have cB := fun W : World => rhasb_any (ofK (keys gs) id0) q W (by omega) hF0.out
      rw [hbit] at cB
      generalize ofK (keys gs) id0 = F0 at *
      replace cB := Lib.hid cB
      have cI := fun (A : Option Addr) (C : Nat) W h => rhas_any A m m.length C id0 W h rfl (by unfold maxLen; omega)
      replace cI := Lib.hid cI
      generalize Ids.has m id0 = hb at *
      have hbb : (hb != hb) = false := by cases hb <;> rfl
      clear hrow hMb hmk hbit hjd hjb hF0 cF1 pJ hok hD hq hm cL rC
      go_wp2_with fail
      have k0 := hS.kblk 0 rfl
      have k1 := hS.kold0 c0
      refine mixs_begin (by kernel_rfl) hS ?_
      clear hS
      intro w7 hS
      refine tk 0 ?_
      refine tk 1 ?_
      refine tk 2 ?_
      refine tk 4 ?_
      refine tk 5 ?_
      refine tk 6 ?_
      refine tk 7 ?_
      refine tk 8 ?_
      refine tk 10 ?_
      refine tk 11 ?_
      refine tk 12 ?_
      refine tk 13 ?_
      refine tk 14 ?_
      refine tk 15 ?_
      refine tk 17 ?_
      refine tk 18 ?_
      refine mixs_one 3 (by kernel_rfl) rfl (fun K hK => ?_)
      go_simp
      ( first | (go_at_call 10; (with_reducible refine (cF0.out _ (hDl.out _ hS.below)).mono ?_); rintro _ w9 ⟨rfl, hb9⟩; have hS1 := hS.keepB hb9; clear hb9 hS; have hS := hS1; clear hS1) | (go_at_call 9; (with_reducible refine (cB.out _).mono ?_); rintro _ _ ⟨rfl, rfl⟩) | (go_at_call 12; (with_reducible refine (pM.out _ (hDl.out _ hS.below)).mono ?_); rintro _ w3 ⟨a3, c3, rfl, h31, h32, hb3⟩; have hS1 := hS.made hb3; clear hS hb3; have hS := hS1; clear hS1) | (go_at_call 11; (with_reducible refine (cI.out _ _ _ (hS.rowsl 0 rfl)).mono ?_); rintro _ _ ⟨rfl, rfl⟩) )
      try clear hC
      refine cl hK (fun hC => ?_)
      clear hK K
      refine mixs_one 9 (by kernel_rfl) rfl (fun K hK => ?_)
      go_simp
      ( first | (go_at_call 10; (with_reducible refine (cF0.out _ (hDl.out _ hS.below)).mono ?_); rintro _ w9 ⟨rfl, hb9⟩; have hS1 := hS.keepB hb9; clear hb9 hS; have hS := hS1; clear hS1) | (go_at_call 9; (with_reducible refine (cB.out _).mono ?_); rintro _ _ ⟨rfl, rfl⟩) | (go_at_call 12; (with_reducible refine (pM.out _ (hDl.out _ hS.below)).mono ?_); rintro _ w3 ⟨a3, c3, rfl, h31, h32, hb3⟩; have hS1 := hS.made hb3; clear hS hb3; have hS := hS1; clear hS1) | (go_at_call 11; (with_reducible refine (cI.out _ _ _ (hS.rowsl 0 rfl)).mono ?_); rintro _ _ ⟨rfl, rfl⟩) )
      try clear hC
      refine cl hK (fun hC => ?_)
      clear hK K
      refine mixs_one 16 (by kernel_rfl) rfl (fun K hK => ?_)
      go_simp
      ( first | (go_at_call 10; (with_reducible refine (cF0.out _ (hDl.out _ hS.below)).mono ?_); rintro _ w9 ⟨rfl, hb9⟩; have hS1 := hS.keepB hb9; clear hb9 hS; have hS := hS1; clear hS1) | (go_at_call 9; (with_reducible refine (cB.out _).mono ?_); rintro _ _ ⟨rfl, rfl⟩) | (go_at_call 12; (with_reducible refine (pM.out _ (hDl.out _ hS.below)).mono ?_); rintro _ w3 ⟨a3, c3, rfl, h31, h32, hb3⟩; have hS1 := hS.made hb3; clear hS hb3; have hS := hS1; clear hS1) | (go_at_call 11; (with_reducible refine (cI.out _ _ _ (hS.rowsl 0 rfl)).mono ?_); rintro _ _ ⟨rfl, rfl⟩) )
      try clear hC
      refine cl hK (fun hC => ?_)
      clear hK K
      refine mixs_one 19 (by kernel_rfl) rfl (fun K hK => ?_)
      go_simp
      ( first | (go_at_call 10; (with_reducible refine (cF0.out _ (hDl.out _ hS.below)).mono ?_); rintro _ w9 ⟨rfl, hb9⟩; have hS1 := hS.keepB hb9; clear hb9 hS; have hS := hS1; clear hS1) | (go_at_call 9; (with_reducible refine (cB.out _).mono ?_); rintro _ _ ⟨rfl, rfl⟩) | (go_at_call 12; (with_reducible refine (pM.out _ (hDl.out _ hS.below)).mono ?_); rintro _ w3 ⟨a3, c3, rfl, h31, h32, hb3⟩; have hS1 := hS.made hb3; clear hS hb3; have hS := hS1; clear hS1) | (go_at_call 11; (with_reducible refine (cI.out _ _ _ (hS.rowsl 0 rfl)).mono ?_); rintro _ _ ⟨rfl, rfl⟩) )
      try clear hC
      refine cl hK (fun hC => ?_)
      clear hK K
      refine tk 20 ?_
      refine wpAnyH_done (by kernel_rfl) ?_ _
      go_wp2_with fail
      go_roundg (n - (j + 1))
      case measure => omega
      case rel => exact ⟨j + 1, by omega, by go_num, hS.drop⟩
    · clear hrow hMb rC cL
      by_cases he : (joinK (keys gs) g id0).1 = 0
      · obtain ⟨hg0, hg1, hok4, hq4, hof1, hof0⟩ := hjd.out he
        clear hjd hjb
        obtain ⟨gN, rfl⟩ := Int.eq_ofNat_of_zero_le hg0
        rw [Int.toNat_natCast] at hof0
        have pQ : ∀ (b : Option Addr) (gs4 : List Gr) (k c : Nat) (W : World), keys gs4 = (joinK (keys gs) gN id0).2 → Deep W b k c gs4 → Calls Try.prog 14 #[.slice b k c, .int .i64 gN, .int .i64 id0] W (GsOut (0, keys gs) W) := by
          intro b gs4 k c W hk h
          have := quit_ok gN id0 h (by rw [hk]; exact hok4)
          rwa [hk, hq4] at this
        have cA0 : ∀ (b : Option Addr) (gs4 : List Gr) (k c : Nat) (W : World), keys gs4 = (joinK (keys gs) gN id0).2 → Deep W b k c gs4 → Calls Try.prog 10 #[.slice b k c, .int .i64 id0] W fun e w' => e = .returned (.int .u32 ((ofK (keys gs) id0 ||| 2 ^ gN : Nat) : Int)) ∧ Below W.heap.size W w' := by
          intro b gs4 k c W hk h
          have := of_ok id0 h (by rw [hk]; exact hok4)
          rwa [hk, hof0] at this
        have cA1 : id1 ≠ id0 → ∀ (b : Option Addr) (gs4 : List Gr) (k c : Nat) (W : World), keys gs4 = (joinK (keys gs) gN id0).2 → Deep W b k c gs4 → Calls Try.prog 10 #[.slice b k c, .int .i64 id1] W fun e w' => e = .returned (.int .u32 ((ofK (keys gs) id1 : Nat) : Int)) ∧ Below W.heap.size W w' := by
          intro hne b gs4 k c W hk h
          have := of_ok id1 h (by rw [hk]; exact hok4)
          rwa [hk, hof1 id1 hne] at this
        have cS : ∀ (b : Option Addr) (gs5 : List Gr) (k c : Nat) (W : World), keys gs5 = keys gs → Deep W b k c gs5 → Deep W a n cap gs → Calls Try.prog 15 #[.slice b k c, .slice a n cap] W fun e w' => e = .returned (.bool true) ∧ Below W.heap.size W w' := by
          intro b gs5 k c W hk h1 h2
          have := rgsame_any b a gs5 gs k n c cap W h1 h2
          rwa [decide_eq_true hk] at this
        have cW := fun W : World => rwith_any (ofK (keys gs) id0) gN W (by omega) hF0.out
        have hqe : joinK (keys gs) gN id0 = (0, (joinK (keys gs) gN id0).2) := Prod.ext he rfl
        rw [hqe] at pJ
        clear hqe he hok4 hq4 hof1 hof0 hok hD hF0
        generalize (joinK (keys gs) gN id0).2 = ks4 at *
        generalize ofK (keys gs) id0 ||| 2 ^ gN = F2 at *
        generalize ofK (keys gs) id0 = F0 at *
        generalize ofK (keys gs) id1 = F1 at *
        have f1 : (F1 != F1) = false := by simp
        have f2 : (F2 == F2) = true := by simp
        replace pQ := Lib.hid pQ
        replace cA0 := Lib.hid cA0
        replace cS := Lib.hid cS
        replace cW := Lib.hid cW
        by_cases hid : id1 = id0
        · subst hid
          have f3 : (id1 != id1) = false := by simp
          clear cA1
          go_wp2_with (first
            | (with_reducible refine wpList_box_st hS rfl rfl rfl ?_; clear hS; intro g1 w1 hS) | (with_reducible refine wpList_box1_st hS rfl rfl rfl ?_; clear hS; intro g1 w1 hS) | (with_reducible refine al hS rfl rfl ?_; clear hS; intro g1 w1 hS) | (with_reducible refine wpList_alloc1_st hS rfl rfl (by assumption) rfl ?_; clear hS; intro g1 w1 hS) | (with_reducible refine ld 0 hS rfl rfl rfl rfl rfl ?_) | (with_reducible refine lda 0 hS rfl rfl rfl rfl ?_) | (with_reducible refine sto 0 hS rfl rfl rfl rfl rfl rfl ?_; clear hS; intro w1 hS) | (with_reducible refine stor 0 hS rfl rfl rfl rfl rfl rfl rfl rfl ?_; clear hS; intro w1 hS)
            | (go_at_call 13; (with_reducible refine (pJ.out _ (hDl.out _ hS.below)).mono ?_); rintro _ w4 ⟨a4, c4, gs4, hk4, rfl, hd4, hb4⟩; replace hk4 := Lib.hid hk4; have hS1 := hS.keepB hb4; clear hb4 hS; have hS := hS1; clear hS1)
            | (go_at_call 14; (with_reducible refine (pQ.out a4 gs4 _ _ _ hk4.out hd4).mono ?_); rintro _ w5 ⟨a5, c5, gs5, hk5, rfl, hd5, hb5⟩; replace hk5 := Lib.hid hk5; have hb6 := hb5; have hS1 := hS.keepB hb5; clear hb5 hS; have hS := hS1; clear hS1; have z0 : w5.cell? ⟨gi, 0, none⟩ = some (.int .i64 id1) := hS.cell 0 rfl 0; have z1 : w5.cell? ⟨gi, 1, none⟩ = some (.int .i64 id1) := hS.cell 0 rfl 1; have hB := hS.below; replace hd4 := hd4.below hb6; have hd6 := hDl.out _ hS.below; clear hDl hb6; have hDl := Lib.hid (fun W (h : Below w5.heap.size w5 W) => hd6.below h); have hal := Lib.hid (fun W (h : Below w5.heap.size w5 W) => hd4.below h); have hbl := Lib.hid (fun W (h : Below w5.heap.size w5 W) => hd5.below h); clear hd4 hd5 hd6 hS; have hS := St.start w5))
          have k0 := hS.kold0 z0
          have k1 := hS.kold0 z1
          refine mixs_begin (by kernel_rfl) hS ?_
          clear hS
          intro w7 hS
          refine tk 0 ?_
          refine tk 1 ?_
          refine tk 2 ?_
          refine tk 3 ?_
          refine tk 4 ?_
          refine tk 5 ?_
          refine sk 6 ?_
          refine sk 7 ?_
          refine sk 8 ?_
          refine sk 9 ?_
          refine sk 10 ?_
          refine sk 11 ?_
          refine sk 12 ?_
          refine sk 13 ?_
          refine sk 14 ?_
          refine tk 15 ?_
          refine wpAnyH_done (by kernel_rfl) ?_ _
          go_wp2_with fail
          refine mixs_begin (by kernel_rfl) hS ?_
          clear hS
          intro w7 hS
          refine tk 0 ?_
          refine tk 1 ?_
          refine tk 2 ?_
          refine tk 3 ?_
          refine tk 4 ?_
          refine mixs_one 5 (by kernel_rfl) rfl (fun K hK => ?_)
          go_simp
          ( first | (go_at_call 15; (with_reducible refine (cS.out a5 gs5 _ _ _ hk5.out (hbl.out _ hS.below) (hDl.out _ hS.below)).mono ?_); rintro _ w9 ⟨rfl, hb9⟩; have hS1 := hS.keepB hb9; clear hb9 hS; have hS := hS1; clear hS1) | (go_at_call 10; (with_reducible refine (cA0.out a4 gs4 _ _ _ hk4.out (hal.out _ hS.below)).mono ?_); rintro _ w9 ⟨rfl, hb9⟩; have hS1 := hS.keepB hb9; clear hb9 hS; have hS := hS1; clear hS1) | (go_at_call 10; (with_reducible refine (cF0.out _ (hDl.out _ hS.below)).mono ?_); rintro _ w9 ⟨rfl, hb9⟩; have hS1 := hS.keepB hb9; clear hb9 hS; have hS := hS1; clear hS1) | (go_at_call 16; (with_reducible refine (cW.out _).mono ?_); rintro _ _ ⟨rfl, rfl⟩) | (go_at_call 8; (with_reducible refine (awake17_any _).mono ?_); rintro _ w9 ⟨rfl, hb9⟩; have hS1 := hS.keepB hb9; clear hb9 hS; have hS := hS1; clear hS1) )
          try clear hC
          refine cl hK (fun hC => ?_)
          clear hK K
          refine tk 6 ?_
          refine tk 7 ?_
          refine tk 8 ?_
          refine tk 9 ?_
          refine tk 10 ?_
          refine tk 12 ?_
          refine tk 13 ?_
          refine tk 14 ?_
          refine tk 16 ?_
          refine mixs_one 11 (by kernel_rfl) rfl (fun K hK => ?_)
          go_simp
          ( first | (go_at_call 15; (with_reducible refine (cS.out a5 gs5 _ _ _ hk5.out (hbl.out _ hS.below) (hDl.out _ hS.below)).mono ?_); rintro _ w9 ⟨rfl, hb9⟩; have hS1 := hS.keepB hb9; clear hb9 hS; have hS := hS1; clear hS1) | (go_at_call 10; (with_reducible refine (cA0.out a4 gs4 _ _ _ hk4.out (hal.out _ hS.below)).mono ?_); rintro _ w9 ⟨rfl, hb9⟩; have hS1 := hS.keepB hb9; clear hb9 hS; have hS := hS1; clear hS1) | (go_at_call 10; (with_reducible refine (cF0.out _ (hDl.out _ hS.below)).mono ?_); rintro _ w9 ⟨rfl, hb9⟩; have hS1 := hS.keepB hb9; clear hb9 hS; have hS := hS1; clear hS1) | (go_at_call 16; (with_reducible refine (cW.out _).mono ?_); rintro _ _ ⟨rfl, rfl⟩) | (go_at_call 8; (with_reducible refine (awake17_any _).mono ?_); rintro _ w9 ⟨rfl, hb9⟩; have hS1 := hS.keepB hb9; clear hb9 hS; have hS := hS1; clear hS1) )
          try clear hC
          refine cl hK (fun hC => ?_)
          clear hK K
          refine mixs_one 15 (by kernel_rfl) rfl (fun K hK => ?_)
          go_simp
          ( first | (go_at_call 15; (with_reducible refine (cS.out a5 gs5 _ _ _ hk5.out (hbl.out _ hS.below) (hDl.out _ hS.below)).mono ?_); rintro _ w9 ⟨rfl, hb9⟩; have hS1 := hS.keepB hb9; clear hb9 hS; have hS := hS1; clear hS1) | (go_at_call 10; (with_reducible refine (cA0.out a4 gs4 _ _ _ hk4.out (hal.out _ hS.below)).mono ?_); rintro _ w9 ⟨rfl, hb9⟩; have hS1 := hS.keepB hb9; clear hb9 hS; have hS := hS1; clear hS1) | (go_at_call 10; (with_reducible refine (cF0.out _ (hDl.out _ hS.below)).mono ?_); rintro _ w9 ⟨rfl, hb9⟩; have hS1 := hS.keepB hb9; clear hb9 hS; have hS := hS1; clear hS1) | (go_at_call 16; (with_reducible refine (cW.out _).mono ?_); rintro _ _ ⟨rfl, rfl⟩) | (go_at_call 8; (with_reducible refine (awake17_any _).mono ?_); rintro _ w9 ⟨rfl, hb9⟩; have hS1 := hS.keepB hb9; clear hb9 hS; have hS := hS1; clear hS1) )
          try clear hC
          refine cl hK (fun hC => ?_)
          clear hK K
          refine mixs_one 17 (by kernel_rfl) rfl (fun K hK => ?_)
          go_simp
          ( first | (go_at_call 15; (with_reducible refine (cS.out a5 gs5 _ _ _ hk5.out (hbl.out _ hS.below) (hDl.out _ hS.below)).mono ?_); rintro _ w9 ⟨rfl, hb9⟩; have hS1 := hS.keepB hb9; clear hb9 hS; have hS := hS1; clear hS1) | (go_at_call 10; (with_reducible refine (cA0.out a4 gs4 _ _ _ hk4.out (hal.out _ hS.below)).mono ?_); rintro _ w9 ⟨rfl, hb9⟩; have hS1 := hS.keepB hb9; clear hb9 hS; have hS := hS1; clear hS1) | (go_at_call 10; (with_reducible refine (cF0.out _ (hDl.out _ hS.below)).mono ?_); rintro _ w9 ⟨rfl, hb9⟩; have hS1 := hS.keepB hb9; clear hb9 hS; have hS := hS1; clear hS1) | (go_at_call 16; (with_reducible refine (cW.out _).mono ?_); rintro _ _ ⟨rfl, rfl⟩) | (go_at_call 8; (with_reducible refine (awake17_any _).mono ?_); rintro _ w9 ⟨rfl, hb9⟩; have hS1 := hS.keepB hb9; clear hb9 hS; have hS := hS1; clear hS1) )
          try clear hC
          refine cl hK (fun hC => ?_)
          clear hK K
          refine tk 18 ?_
          refine tk 19 ?_
          refine tk 20 ?_
          refine mixs_one 21 (by kernel_rfl) rfl (fun K hK => ?_)
          go_simp
          ( first | (go_at_call 15; (with_reducible refine (cS.out a5 gs5 _ _ _ hk5.out (hbl.out _ hS.below) (hDl.out _ hS.below)).mono ?_); rintro _ w9 ⟨rfl, hb9⟩; have hS1 := hS.keepB hb9; clear hb9 hS; have hS := hS1; clear hS1) | (go_at_call 10; (with_reducible refine (cA0.out a4 gs4 _ _ _ hk4.out (hal.out _ hS.below)).mono ?_); rintro _ w9 ⟨rfl, hb9⟩; have hS1 := hS.keepB hb9; clear hb9 hS; have hS := hS1; clear hS1) | (go_at_call 10; (with_reducible refine (cF0.out _ (hDl.out _ hS.below)).mono ?_); rintro _ w9 ⟨rfl, hb9⟩; have hS1 := hS.keepB hb9; clear hb9 hS; have hS := hS1; clear hS1) | (go_at_call 16; (with_reducible refine (cW.out _).mono ?_); rintro _ _ ⟨rfl, rfl⟩) | (go_at_call 8; (with_reducible refine (awake17_any _).mono ?_); rintro _ w9 ⟨rfl, hb9⟩; have hS1 := hS.keepB hb9; clear hb9 hS; have hS := hS1; clear hS1) )
          try clear hC
          refine cl hK (fun hC => ?_)
          clear hK K
          refine tk 22 ?_
          refine tk 23 ?_
          refine wpAnyH_done (by kernel_rfl) ?_ _
          go_wp2_with fail
          go_ret
          exact ⟨rfl, below_step hB hS.below⟩
        · replace cA1 := Lib.hid (cA1 hid)
          have f3 : (id0 != id1) = true := by simp; exact fun h => hid h.symm
          clear hid
          go_wp2_with (first
            | (with_reducible refine wpList_box_st hS rfl rfl rfl ?_; clear hS; intro g1 w1 hS) | (with_reducible refine wpList_box1_st hS rfl rfl rfl ?_; clear hS; intro g1 w1 hS) | (with_reducible refine al hS rfl rfl ?_; clear hS; intro g1 w1 hS) | (with_reducible refine wpList_alloc1_st hS rfl rfl (by assumption) rfl ?_; clear hS; intro g1 w1 hS) | (with_reducible refine ld 0 hS rfl rfl rfl rfl rfl ?_) | (with_reducible refine lda 0 hS rfl rfl rfl rfl ?_) | (with_reducible refine sto 0 hS rfl rfl rfl rfl rfl rfl ?_; clear hS; intro w1 hS) | (with_reducible refine stor 0 hS rfl rfl rfl rfl rfl rfl rfl rfl ?_; clear hS; intro w1 hS)
            | (go_at_call 13; (with_reducible refine (pJ.out _ (hDl.out _ hS.below)).mono ?_); rintro _ w4 ⟨a4, c4, gs4, hk4, rfl, hd4, hb4⟩; replace hk4 := Lib.hid hk4; have hS1 := hS.keepB hb4; clear hb4 hS; have hS := hS1; clear hS1)
            | (go_at_call 14; (with_reducible refine (pQ.out a4 gs4 _ _ _ hk4.out hd4).mono ?_); rintro _ w5 ⟨a5, c5, gs5, hk5, rfl, hd5, hb5⟩; replace hk5 := Lib.hid hk5; have hb6 := hb5; have hS1 := hS.keepB hb5; clear hb5 hS; have hS := hS1; clear hS1; have z0 : w5.cell? ⟨gi, 0, none⟩ = some (.int .i64 id0) := hS.cell 0 rfl 0; have z1 : w5.cell? ⟨gi, 1, none⟩ = some (.int .i64 id1) := hS.cell 0 rfl 1; have hB := hS.below; replace hd4 := hd4.below hb6; have hd6 := hDl.out _ hS.below; clear hDl hb6; have hDl := Lib.hid (fun W (h : Below w5.heap.size w5 W) => hd6.below h); have hal := Lib.hid (fun W (h : Below w5.heap.size w5 W) => hd4.below h); have hbl := Lib.hid (fun W (h : Below w5.heap.size w5 W) => hd5.below h); clear hd4 hd5 hd6 hS; have hS := St.start w5))
          have k0 := hS.kold0 z0
          have k1 := hS.kold0 z1
          refine mixs_begin (by kernel_rfl) hS ?_
          clear hS
          intro w7 hS
          refine tk 0 ?_
          refine tk 1 ?_
          refine tk 2 ?_
          refine tk 3 ?_
          refine tk 4 ?_
          refine tk 5 ?_
          refine tk 6 ?_
          refine tk 7 ?_
          refine tk 8 ?_
          refine tk 10 ?_
          refine tk 11 ?_
          refine tk 12 ?_
          refine mixs_one 9 (by kernel_rfl) rfl (fun K hK => ?_)
          go_simp
          ( first | (go_at_call 10; (with_reducible refine (cF1.out _ (hDl.out _ hS.below)).mono ?_); rintro _ w9 ⟨rfl, hb9⟩; have hS1 := hS.keepB hb9; clear hb9 hS; have hS := hS1; clear hS1) | (go_at_call 10; (with_reducible refine (cA1.out a4 gs4 _ _ _ hk4.out (hal.out _ hS.below)).mono ?_); rintro _ w9 ⟨rfl, hb9⟩; have hS1 := hS.keepB hb9; clear hb9 hS; have hS := hS1; clear hS1) )
          try clear hC
          refine cl hK (fun hC => ?_)
          clear hK K
          refine mixs_one 13 (by kernel_rfl) rfl (fun K hK => ?_)
          go_simp
          ( first | (go_at_call 10; (with_reducible refine (cF1.out _ (hDl.out _ hS.below)).mono ?_); rintro _ w9 ⟨rfl, hb9⟩; have hS1 := hS.keepB hb9; clear hb9 hS; have hS := hS1; clear hS1) | (go_at_call 10; (with_reducible refine (cA1.out a4 gs4 _ _ _ hk4.out (hal.out _ hS.below)).mono ?_); rintro _ w9 ⟨rfl, hb9⟩; have hS1 := hS.keepB hb9; clear hb9 hS; have hS := hS1; clear hS1) )
          try clear hC
          refine cl hK (fun hC => ?_)
          clear hK K
          refine tk 14 ?_
          refine tk 15 ?_
          refine wpAnyH_done (by kernel_rfl) ?_ _
          go_wp2_with fail
          refine mixs_begin (by kernel_rfl) hS ?_
          clear hS
          intro w7 hS
          refine tk 0 ?_
          refine tk 1 ?_
          refine tk 2 ?_
          refine tk 3 ?_
          refine tk 4 ?_
          refine mixs_one 5 (by kernel_rfl) rfl (fun K hK => ?_)
          go_simp
          ( first | (go_at_call 15; (with_reducible refine (cS.out a5 gs5 _ _ _ hk5.out (hbl.out _ hS.below) (hDl.out _ hS.below)).mono ?_); rintro _ w9 ⟨rfl, hb9⟩; have hS1 := hS.keepB hb9; clear hb9 hS; have hS := hS1; clear hS1) | (go_at_call 10; (with_reducible refine (cA0.out a4 gs4 _ _ _ hk4.out (hal.out _ hS.below)).mono ?_); rintro _ w9 ⟨rfl, hb9⟩; have hS1 := hS.keepB hb9; clear hb9 hS; have hS := hS1; clear hS1) | (go_at_call 10; (with_reducible refine (cF0.out _ (hDl.out _ hS.below)).mono ?_); rintro _ w9 ⟨rfl, hb9⟩; have hS1 := hS.keepB hb9; clear hb9 hS; have hS := hS1; clear hS1) | (go_at_call 16; (with_reducible refine (cW.out _).mono ?_); rintro _ _ ⟨rfl, rfl⟩) | (go_at_call 8; (with_reducible refine (awake17_any _).mono ?_); rintro _ w9 ⟨rfl, hb9⟩; have hS1 := hS.keepB hb9; clear hb9 hS; have hS := hS1; clear hS1) )
          try clear hC
          refine cl hK (fun hC => ?_)
          clear hK K
          refine tk 6 ?_
          refine tk 7 ?_
          refine tk 8 ?_
          refine tk 9 ?_
          refine tk 10 ?_
          refine tk 12 ?_
          refine tk 13 ?_
          refine tk 14 ?_
          refine tk 16 ?_
          refine mixs_one 11 (by kernel_rfl) rfl (fun K hK => ?_)
          go_simp
          ( first | (go_at_call 15; (with_reducible refine (cS.out a5 gs5 _ _ _ hk5.out (hbl.out _ hS.below) (hDl.out _ hS.below)).mono ?_); rintro _ w9 ⟨rfl, hb9⟩; have hS1 := hS.keepB hb9; clear hb9 hS; have hS := hS1; clear hS1) | (go_at_call 10; (with_reducible refine (cA0.out a4 gs4 _ _ _ hk4.out (hal.out _ hS.below)).mono ?_); rintro _ w9 ⟨rfl, hb9⟩; have hS1 := hS.keepB hb9; clear hb9 hS; have hS := hS1; clear hS1) | (go_at_call 10; (with_reducible refine (cF0.out _ (hDl.out _ hS.below)).mono ?_); rintro _ w9 ⟨rfl, hb9⟩; have hS1 := hS.keepB hb9; clear hb9 hS; have hS := hS1; clear hS1) | (go_at_call 16; (with_reducible refine (cW.out _).mono ?_); rintro _ _ ⟨rfl, rfl⟩) | (go_at_call 8; (with_reducible refine (awake17_any _).mono ?_); rintro _ w9 ⟨rfl, hb9⟩; have hS1 := hS.keepB hb9; clear hb9 hS; have hS := hS1; clear hS1) )
          try clear hC
          refine cl hK (fun hC => ?_)
          clear hK K
          refine mixs_one 15 (by kernel_rfl) rfl (fun K hK => ?_)
          go_simp
          ( first | (go_at_call 15; (with_reducible refine (cS.out a5 gs5 _ _ _ hk5.out (hbl.out _ hS.below) (hDl.out _ hS.below)).mono ?_); rintro _ w9 ⟨rfl, hb9⟩; have hS1 := hS.keepB hb9; clear hb9 hS; have hS := hS1; clear hS1) | (go_at_call 10; (with_reducible refine (cA0.out a4 gs4 _ _ _ hk4.out (hal.out _ hS.below)).mono ?_); rintro _ w9 ⟨rfl, hb9⟩; have hS1 := hS.keepB hb9; clear hb9 hS; have hS := hS1; clear hS1) | (go_at_call 10; (with_reducible refine (cF0.out _ (hDl.out _ hS.below)).mono ?_); rintro _ w9 ⟨rfl, hb9⟩; have hS1 := hS.keepB hb9; clear hb9 hS; have hS := hS1; clear hS1) | (go_at_call 16; (with_reducible refine (cW.out _).mono ?_); rintro _ _ ⟨rfl, rfl⟩) | (go_at_call 8; (with_reducible refine (awake17_any _).mono ?_); rintro _ w9 ⟨rfl, hb9⟩; have hS1 := hS.keepB hb9; clear hb9 hS; have hS := hS1; clear hS1) )
          try clear hC
          refine cl hK (fun hC => ?_)
          clear hK K
          refine mixs_one 17 (by kernel_rfl) rfl (fun K hK => ?_)
          go_simp
          ( first | (go_at_call 15; (with_reducible refine (cS.out a5 gs5 _ _ _ hk5.out (hbl.out _ hS.below) (hDl.out _ hS.below)).mono ?_); rintro _ w9 ⟨rfl, hb9⟩; have hS1 := hS.keepB hb9; clear hb9 hS; have hS := hS1; clear hS1) | (go_at_call 10; (with_reducible refine (cA0.out a4 gs4 _ _ _ hk4.out (hal.out _ hS.below)).mono ?_); rintro _ w9 ⟨rfl, hb9⟩; have hS1 := hS.keepB hb9; clear hb9 hS; have hS := hS1; clear hS1) | (go_at_call 10; (with_reducible refine (cF0.out _ (hDl.out _ hS.below)).mono ?_); rintro _ w9 ⟨rfl, hb9⟩; have hS1 := hS.keepB hb9; clear hb9 hS; have hS := hS1; clear hS1) | (go_at_call 16; (with_reducible refine (cW.out _).mono ?_); rintro _ _ ⟨rfl, rfl⟩) | (go_at_call 8; (with_reducible refine (awake17_any _).mono ?_); rintro _ w9 ⟨rfl, hb9⟩; have hS1 := hS.keepB hb9; clear hb9 hS; have hS := hS1; clear hS1) )
          try clear hC
          refine cl hK (fun hC => ?_)
          clear hK K
          refine tk 18 ?_
          refine tk 19 ?_
          refine tk 20 ?_
          refine mixs_one 21 (by kernel_rfl) rfl (fun K hK => ?_)
          go_simp
          ( first | (go_at_call 15; (with_reducible refine (cS.out a5 gs5 _ _ _ hk5.out (hbl.out _ hS.below) (hDl.out _ hS.below)).mono ?_); rintro _ w9 ⟨rfl, hb9⟩; have hS1 := hS.keepB hb9; clear hb9 hS; have hS := hS1; clear hS1) | (go_at_call 10; (with_reducible refine (cA0.out a4 gs4 _ _ _ hk4.out (hal.out _ hS.below)).mono ?_); rintro _ w9 ⟨rfl, hb9⟩; have hS1 := hS.keepB hb9; clear hb9 hS; have hS := hS1; clear hS1) | (go_at_call 10; (with_reducible refine (cF0.out _ (hDl.out _ hS.below)).mono ?_); rintro _ w9 ⟨rfl, hb9⟩; have hS1 := hS.keepB hb9; clear hb9 hS; have hS := hS1; clear hS1) | (go_at_call 16; (with_reducible refine (cW.out _).mono ?_); rintro _ _ ⟨rfl, rfl⟩) | (go_at_call 8; (with_reducible refine (awake17_any _).mono ?_); rintro _ w9 ⟨rfl, hb9⟩; have hS1 := hS.keepB hb9; clear hb9 hS; have hS := hS1; clear hS1) )
          try clear hC
          refine cl hK (fun hC => ?_)
          clear hK K
          refine tk 22 ?_
          refine tk 23 ?_
          refine wpAnyH_done (by kernel_rfl) ?_ _
          go_wp2_with fail
          go_ret
          exact ⟨rfl, below_step hB hS.below⟩
      · have hk0 := hjb.out he
        generalize joinK (keys gs) g id0 = r at *
        obtain ⟨e, ks⟩ := r
        obtain rfl : ks = [] := hk0
        replace he : (e != 0) = true := by simpa using he
        clear hjd hjb hok hD hF0 cF0 cF1
        go_wp2_with (first
          | (with_reducible refine wpList_box_st hS rfl rfl rfl ?_; clear hS; intro g1 w1 hS) | (with_reducible refine wpList_box1_st hS rfl rfl rfl ?_; clear hS; intro g1 w1 hS) | (with_reducible refine al hS rfl rfl ?_; clear hS; intro g1 w1 hS) | (with_reducible refine wpList_alloc1_st hS rfl rfl (by assumption) rfl ?_; clear hS; intro g1 w1 hS) | (with_reducible refine ld 0 hS rfl rfl rfl rfl rfl ?_) | (with_reducible refine lda 0 hS rfl rfl rfl rfl ?_) | (with_reducible refine sto 0 hS rfl rfl rfl rfl rfl rfl ?_; clear hS; intro w1 hS) | (with_reducible refine stor 0 hS rfl rfl rfl rfl rfl rfl rfl rfl ?_; clear hS; intro w1 hS)
          | (go_at_call 13; (with_reducible refine (pJ.out _ (hDl.out _ hS.below)).mono ?_); rintro _ w4 ⟨a4, c4, gs4, hk4, he4, hd4, hb4⟩; obtain rfl : gs4 = [] := (by cases gs4 with | nil => rfl | cons x xs => cases hk4); rw [List.length_nil] at he4; subst he4; have hS1 := hS.keepB hb4; clear hb4 hS; have hS := hS1; clear hS1)
          | (go_at_call 8; (with_reducible refine (awake17_any _).mono ?_); rintro _ w9 ⟨rfl, hb9⟩; have hS1 := hS.keepB hb9; clear hb9 hS; have hS := hS1; clear hS1))
        go_ret
        exact ⟨rfl, hS.below⟩
theorem others_any (a : Option Addr) (gs : List Gr) (n cap : Nat) (g id0 id1 : Int) (w : World) (hD : Deep w a n cap gs) :
    Calls Try.prog 3 #[.slice a n cap, .int .i64 g, .agg #[.int .i64 id0, .int .i64 id1]] w fun e w' => e = .returned (.bool true) ∧ Below w.heap.size w w' := by
  have cL := fun W (h : Deep W a n cap gs) => large_any a gs n cap W h
  cases hbig : bigK (keys gs) with
  | true =>
    have hS := St.start w
    have hDl := Lib.hid (fun W (h : Below w.heap.size w W) => hD.below h)
    rw [hbig] at cL
    replace cL := Lib.hid cL
    clear hD hbig
    go_enter Try.func3, Try.ntmps3
    go_wp2_with (first
      | ((with_reducible refine wpList_box_st hS rfl rfl rfl ?_); intro gi w2 hS1; clear hS; have hS := hS1; clear hS1)
      | (go_at_call 6; (with_reducible refine (cL.out _ (hDl.out _ hS.below)).mono ?_); rintro _ _ ⟨rfl, rfl⟩)
      | (go_at_call 8; (with_reducible refine (awake17_any _).mono ?_); rintro _ w9 ⟨rfl, hb9⟩; have hS1 := hS.keepB hb9; clear hb9 hS; have hS := hS1; clear hS1))
    go_ret
    exact ⟨rfl, hS.below⟩
  | false =>
    cases hchk : chkK (keys gs) with
    | true => exact others_main a gs n cap g id0 id1 w hD hbig hchk
    | false =>
      have hS := St.start w
      obtain ⟨hs1, hs2⟩ := small_of hbig
      have hn1 : n ≤ 200 := by have := hD.len; simp only [keys, List.length_map] at hs1; omega
      have rC := fun W (h : Deep W a n cap gs) => rgcheck_any a gs n cap W h (by omega)
      rw [hbig] at cL
      rw [hchk] at rC
      have hDl := Lib.hid (fun W (h : Below w.heap.size w W) => hD.below h)
      replace cL := Lib.hid cL
      replace rC := Lib.hid rC
      clear hD hbig hchk hs1 hs2
      go_enter Try.func3, Try.ntmps3
      go_wp2_with (first
        | ((with_reducible refine wpList_box_st hS rfl rfl rfl ?_); intro gi w2 hS1; clear hS; have hS := hS1; clear hS1)
        | (go_at_call 6; (with_reducible refine (cL.out _ (hDl.out _ hS.below)).mono ?_); rintro _ _ ⟨rfl, rfl⟩)
        | (go_at_call 7; (with_reducible refine (rC.out _ (hDl.out _ hS.below)).mono ?_); rintro _ w9 ⟨rfl, hb9⟩; have hS1 := hS.keepB hb9; clear hb9 hS; have hS := hS1; clear hS1)
        | (go_at_call 8; (with_reducible refine (awake17_any _).mono ?_); rintro _ w9 ⟨rfl, hb9⟩; have hS1 := hS.keepB hb9; clear hb9 hS; have hS := hS1; clear hS1))
      go_ret
      exact ⟨rfl, hS.below⟩
end Go.Proofs.Ytkbekagmfbgefaa
end
