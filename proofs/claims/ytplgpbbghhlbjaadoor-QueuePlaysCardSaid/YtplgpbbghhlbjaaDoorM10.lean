/- Texts laid together: QueuePlays QueuePlaysE. -/
import Derived.Test.YtplgpbbghhlbjaaDoorM2
import Derived.Test.YtplgpbbghhlbjaaDoorM9
section
/- The law QueuePlays. -/
set_option linter.unusedSimpArgs false
set_option linter.unusedVariables false
namespace Go.Proofs.YtplgpbbghhlbjaaDoor
open Go.RowKit Go.Ofp
set_option linter.unusedVariables false
set_option maxRecDepth 100000
set_option maxHeartbeats 4000000
theorem elem_qac : Elem Tryd.prog 56 (.agg #[.int .i64 0, .int .i64 0, .int .i64 0, .int .u32 0, .int .i64 0, .int .i64 0, .string ⟨#[]⟩, .int .i64 0, .int .i64 0, .string ⟨#[]⟩, .int .i64 0, .int .i64 0, .string ⟨#[]⟩, .int .i64 0, .int .i64 0, .string ⟨#[]⟩, .int .i64 0, .int .i64 0, .string ⟨#[]⟩, .int .i64 0, .int .i64 0, .string ⟨#[]⟩, .int .i64 0, .int .i64 0, .string ⟨#[]⟩, .int .i64 0, .int .i64 0, .string ⟨#[]⟩, .int .u32 0, .int .u32 0, .int .i64 0, .int .i64 0, .string ⟨#[]⟩, .int .i64 0, .int .i64 0, .string ⟨#[]⟩, .int .i64 0, .int .i64 0, .string ⟨#[]⟩, .int .i64 0, .int .i64 0, .string ⟨#[]⟩, .int .i64 0, .int .i64 0, .string ⟨#[]⟩, .int .i64 0, .int .i64 0, .string ⟨#[]⟩, .int .i64 0, .int .i64 0, .string ⟨#[]⟩, .int .i64 0, .int .i64 0, .string ⟨#[]⟩]) 54 552 := Elem.mk (by kernel_rfl) (by rfl) (by decide)
theorem QAcs.below {w w' : World} {a : Option Addr} {n c : Nat} {l : List QAc} (h : QAcs w a n c l) (hb : Below w.heap.size w w') : QAcs w' a n c l := ⟨h.sl.below hb, h.len, h.le, h.cm, h.mem⟩
theorem qaRow_one (x : QAc) : (qaRow x).all Value.oneCell' = true := by
  simp only [qaRow, cdRow, ptRow, List.all_cons, List.all_append, List.cons_append, fl_one]
  rfl

theorem from_q (i : Nat) (M : List Wr) (hM : QIn i M) (a : Option Addr) (cap : Nat) (W : World) (h : SlQ W a cap M) : Calls Tryd.prog 35 #[.slice a M.length cap] W fun e w' => ∃ a' c', e = .returned (.slice a' M.length c') ∧ SlQ w' a' c' M ∧ Below W.heap.size W w' :=
  (from_any M hM.f a _ cap rfl (by have := hM.len; omega) W h.1).mono fun e w' ⟨a', c', h1, _, _, h2⟩ => ⟨a', c', h1, SlQ.row h2 0 rfl rfl, h2.below⟩
theorem to_q (i : Nat) (M : List Wr) (hM : QIn i M) (a : Option Addr) (cap : Nat) (W : World) (h : SlQ W a cap M) : Calls Tryd.prog 43 #[.slice a M.length cap] W fun e w' => ∃ a' c', e = .returned (.slice a' M.length c') ∧ SlQ w' a' c' M ∧ Below W.heap.size W w' :=
  (to_any M hM.f a _ cap rfl (by have := hM.len; omega) W h.1).mono fun e w' ⟨a', c', h1, _, _, h2⟩ => ⟨a', c', h1, SlQ.row h2 0 rfl rfl, h2.below⟩
theorem rsame_q (i : Nat) (M : List Wr) (hM : QIn i M) (a b : Option Addr) (ca cb : Nat) (W : World) (h1 : SlQ W a ca M) (h2 : SlQ W b cb M) : Calls Tryd.prog 34 #[.slice a M.length ca, .slice b M.length cb] W fun e w' => e = .returned (.bool true) ∧ Below W.heap.size W w' := by
  have h := rsame_any a b M M hM.f hM.f _ _ ca cb rfl rfl (by have := hM.len; omega) W h1.1 h2.1
  rwa [decide_eq_true rfl] at h
theorem qsame_q (i : Nat) (M : List Wr) (hM : QIn i M) (a b : Option Addr) (ca cb : Nat) (W : World) (h1 : SlQ W a ca M) (h2 : SlQ W b cb M) : Calls Tryd.prog 42 #[.slice a M.length ca, .slice b M.length cb] W fun e w' => e = .returned (.bool true) ∧ Below W.heap.size W w' := by
  have h := qsame_any a b M M hM.f hM.f _ _ ca cb rfl rfl (by have := hM.len; omega) W h1.1 h2.1
  rwa [decide_eq_true rfl] at h

theorem waits_q (i : Nat) (M : List Wr) (hM : QIn i M) (a : Option Addr) (cap : Nat) (id : Int) (W : World) (h : SlQ W a cap M) : Calls Tryd.prog 38 #[.slice a M.length cap, .int .i64 id] W fun e w' => e = .returned (.int .i64 (waitsQ M id : Nat)) ∧ Below W.heap.size W w' :=
  waits_any M hM.f a _ cap id rfl (by have := hM.len; omega) W h.1
theorem rwaits_q (i : Nat) (M : List Wr) (hM : QIn i M) (a : Option Addr) (cap : Nat) (id : Int) (W : World) (h : SlQ W a cap M) : Calls Tryd.prog 39 #[.slice a M.length cap, .int .i64 id] W fun e w' => e = .returned (.int .i64 (waitsQ M id : Nat)) ∧ Below W.heap.size W w' :=
  (rwaits_any M hM.f a _ cap id rfl (by have := hM.len; omega) W h.1).mono fun e w' ⟨h1, h2⟩ => ⟨h1, h2 ▸ Below.refl _ _⟩
theorem showQ_len (c : Cd) (hc : c.f.length = 8) (hv : 0 ≤ c.ver) (M : List Wr) : (showQ c M).f.length = 8 := (mergeAll_ok c (ofId M c.id) hv hc).2

theorem show_q (i : Nat) (c : Cd) (hc : c.f.length = 8) (hv : 0 ≤ c.ver) (M : List Wr) (hM : QIn i M) (a : Option Addr) (cap : Nat) (W : World) (h : SlQ W a cap M) (h0 : 0 < W.heap.size) (ht : Sl W (some ⟨0, 0, none⟩) (tzTab.map vb)) : Calls Tryd.prog 40 #[.agg (cdRow c).toArray, .slice a M.length cap] W fun e w' => e = .returned (.agg (cdRow (showQ c M)).toArray) ∧ Below W.heap.size W w' :=
  show_any c hc hv M hM.f hM.mask a _ cap rfl (by have := hM.len; omega) W h.1 h0 ht
theorem rshow_q (i : Nat) (c : Cd) (hc : c.f.length = 8) (hv : 0 ≤ c.ver ∧ c.ver ≤ 1099511627776) (M : List Wr) (hM : QIn i M) (a : Option Addr) (cap : Nat) (W : World) (h : SlQ W a cap M) : Calls Tryd.prog 41 #[.agg (cdRow c).toArray, .slice a M.length cap] W fun e w' => e = .returned (.agg (cdRow (showQ c M)).toArray) ∧ Below W.heap.size W w' :=
  rshow_any c hc hv M hM.f hM.mask a _ cap rfl (by have := hM.len; omega) W h.1
theorem plays44_main (l : List QAc) (a : Option Addr) (n cap : Nat) (w : World) (hQ : QAcs w a n cap l) (hsk : skipQ l = false) (h0 : 0 < w.heap.size) (ht : Sl w (some ⟨0, 0, none⟩) (tzTab.map vb)) :
    Calls Tryd.prog 7 #[.slice a n cap] w fun e w' => e = .returned (.bool true) ∧ Below w.heap.size w w' := by
  have hS := St.start w
  have ew := elem_wr
  have er := elem_rwr
  have ea := elem_qac
  have cK := fun (W : World) (hb : Below w.heap.size w W) => skip44_any l a n cap W (hQ.below hb)
  rw [hsk] at cK
  have cA := fun W : World => awake44_any W
  obtain ⟨hs, hn, hle, hcm, hin⟩ := hQ
  have h60 : n ≤ 60 := by
    rw [skipQ, Bool.or_eq_false_iff] at hsk
    have := of_decide_eq_false hsk.1
    omega
  have hok : ∀ x ∈ l, x.bad = false := by
    rw [skipQ, Bool.or_eq_false_iff] at hsk
    intro x hx
    have := List.any_eq_false.1 hsk.2 x hx
    simpa using this
  replace cK := Lib.hid cK
  replace cA := Lib.hid cA
  replace hs := Lib.hid hs
  replace hin := Lib.hid hin
  replace hn := Lib.hid hn
  replace hok := Lib.hid hok
  replace ht := Lib.hid ht
  clear hsk
  go_enter Tryd.func7, Tryd.ntmps7
  go_wp2_with (first
    | (go_at_call 30; (with_reducible refine (cK.out _ hS.below).mono ?_); rintro _ w9 ⟨rfl, hk9⟩; have hS1 := hS.keepB hk9; clear hk9 hS; have hS := hS1; clear hS1)
    | ((with_reducible refine wpList_build0_st hS rfl rfl Tryd.underlying53 ew ?_); intro g1 w3 hS1; clear hS; have hS := hS1; clear hS1)
    | ((with_reducible refine wpList_build0_st hS rfl rfl Tryd.underlying54 er ?_); intro g2 w4 hS1; clear hS; have hS := hS1; clear hS1))
  go_loopg [3, 4, 5] n (fun gk vq vm vx wr => ∃ (k : Nat) (aq : Option Addr) (cq : Nat) (am : Option Addr) (cm : Nat) (L : List Wr), k + gk = n ∧ vx = .int .i64 k ∧ vq = .slice aq L.length cq ∧ vm = .slice am L.length cm ∧ Hid (QIn k L) ∧ Hid (Qs wr [(aq, cq, L), (am, cm, L)]) ∧ St w [] [] wr)
  case atStart => exact ⟨0, _, _, _, _, [], Nat.zero_add _, rfl, rfl, rfl, Lib.hid (QIn.nil 0), Lib.hid (((Qs.nil _).cons (SlQ.row hS 0 rfl rfl)).cons (SlQ.row hS 1 rfl rfl)), hS.empty⟩
  case round =>
    clear hS
    obtain ⟨k, aq, cq, am, cm, L, hkn, rfl, rfl, rfl, hI, hL, hS⟩ := hrel
    by_cases hlt : k < n
    · have hkl : k < l.length := by rw [hn.out]; exact hlt
      have hxi := hin.out _ (List.getElem_mem hkl)
      have hxb := hok.out _ (List.getElem_mem hkl)
      obtain ⟨g3, o3, ha⟩ := Sl.cells hs.out (qaRows_ne l hin.out (by omega))
      subst ha
      have hrg := range_old hS (sl_range hs.out (qaRows_at l hin.out k hkl))
      have hB0 := hS.below
      clear hS
      have hS := St.start wr
      have qone := qaRow_one l[k]
      have qlen := qaRow_len l[k] hxi.c.len hxi.p.len
      generalize l[k] = x at *
      obtain ⟨kd, c, p⟩ := x
      have hcl := hxi.c.len
      have hpl := hxi.p.len
      have hpm := hxi.p.mask
      have hplb := hxi.p.lab
      have hcv : 0 ≤ c.ver ∧ c.ver ≤ 1099511627776 := by
        rw [QAc.bad] at hxb
        simp only [Bool.or_eq_false_iff, decide_eq_false_iff_not] at hxb
        omega
      clear hxi hxb
      simp only at hcl hpl hpm hplb
      have v0 : (qaRow ⟨kd, c, p⟩).toArray[0]? = some (.int .i64 kd) := rfl
      have v1 : (qaRow ⟨kd, c, p⟩)[1]? = some (.int .i64 c.id) := rfl
      have vc : ((qaRow ⟨kd, c, p⟩).drop 1).take 27 = cdRow c := by simp [qaRow, cdRow_len c hcl]
      have vp : ((qaRow ⟨kd, c, p⟩).drop 28).take 26 = ptRow p := by
        have : (cdRow c ++ ptRow p).drop 27 = ptRow p := by rw [List.drop_append_of_le_length (by rw [cdRow_len c hcl]; exact Nat.le_refl _), List.drop_eq_nil_of_le (by rw [cdRow_len c hcl]; exact Nat.le_refl _), List.nil_append]
        simp only [qaRow, List.drop_succ_cons, this]
        exact List.take_of_length_le (by rw [ptRow_len p hpl]; exact Nat.le_refl _)
      have lc := cdRow_len c hcl
      have lp := ptRow_len p hpl
      have hI8 := hI.out.f
      have hI60 := hI.out.bounds (by omega)
      have hI12 := hI.out.len
      have cPush := fun (a : Option Addr) (cap : Nat) (W : World) (h : SlQ W a cap L) => push_any c hcl p hpl hpm hplb L hI8 hI60 a _ cap rfl W h
      have cRPush := fun (a : Option Addr) (cap : Nat) (W : World) (h : SlQ W a cap L) => rpush_any c hcl p hpl hpm hplb L hI8 hI60 a _ cap rfl W h
      have cDone := fun (a : Option Addr) (cap : Nat) (W : World) (h : SlQ W a cap L) => qdone_any L (kd == 1) hI8 a _ cap rfl (by omega) W h
      have cRDone := fun (a : Option Addr) (cap : Nat) (W : World) (h : SlQ W a cap L) => rqdone_any L (kd == 1) hI8 a _ cap rfl (by omega) W h
      unfold DoneRet at cDone cRDone
      have hP := hI.out.push c p hcv hpl hpm
      have hD1 := hI.out.done1 (kd == 1)
      have hD2 := hI.out.done2 (kd == 1)
      have hpe : (pushQ L c p).2 = (pushQ L c p).2 := rfl
      generalize (pushQ L c p).1 = P1 at *
      generalize (pushQ L c p).2 = e1 at *
      clear hpe
      generalize (doneQ L (kd == 1)).1 = D1 at *
      generalize (doneQ L (kd == 1)).2 = D2 at *
      have cF1 := from_q _ P1 hP
      have cF2 := from_q _ D1 hD1
      have cF3 := from_q _ D2 hD2
      have cS1 := rsame_q _ P1 hP
      have cS2 := rsame_q _ D1 hD1
      have cS3 := rsame_q _ D2 hD2
      generalize qaRow ⟨kd, c, p⟩ = RA at *
      replace cPush := Lib.hid cPush
      replace cRPush := Lib.hid cRPush
      replace cDone := Lib.hid cDone
      replace cRDone := Lib.hid cRDone
      replace cF1 := Lib.hid cF1
      replace cF2 := Lib.hid cF2
      replace cF3 := Lib.hid cF3
      replace cS1 := Lib.hid cS1
      replace cS2 := Lib.hid cS2
      replace cS3 := Lib.hid cS3
      replace hP := Lib.hid hP
      replace hD1 := Lib.hid hD1
      replace hD2 := Lib.hid hD2
      replace v1 := Lib.hid v1
      have vc2 : (RA.toArray.toList.drop 1).take 27 = cdRow c := vc
      have vp2 : (RA.toArray.toList.drop 28).take 26 = ptRow p := vp
      clear hI8 hI60 hI12 hkl hplb
      have hA := hL.out
      clear hL
      by_cases hk0 : kd = 0
      · subst hk0
        by_cases he1 : e1 = 0
        · subst he1
          go_wp2_with (first | (with_reducible refine wpList_rangerow (n := 54) hrg rfl rfl rfl (by kernel_rfl) (by kernel_rfl) qlen ?_) | (with_reducible refine wpList_alloc_st (L := []) hS rfl rfl ea ?_; intro b6 w1 hS1; clear hS; have hS := hS1; clear hS1) | ((with_reducible refine wpList_storerow_st (n := 54) (vs := RA) 0 hS rfl rfl rfl rfl (by kernel_rfl) rfl qlen qone (by kernel_rfl) ?_); intro w1 hS1; clear hS; have hS := hS1; clear hS1; simp only [List.set_cons_zero, List.take_zero, List.nil_append, List.drop_succ_cons, List.drop_zero, List.drop_nil, List.append_nil] at hS; replace hA := hA.below hS.below) | ((with_reducible refine wpList_load_st 0 hS rfl rfl rfl rfl ?_ v0 ?_); focus (simp [scalarB, go_sem]; done)) | ((with_reducible refine wpList_loadrow_st (n := 27) 0 hS rfl rfl rfl rfl ?_ (by kernel_rfl) vc2 lc ?_); focus (simp [rowB, go_sem]; done)) | ((with_reducible refine wpList_loadrow_st (n := 26) 0 hS rfl rfl rfl rfl ?_ (by kernel_rfl) vp2 lp ?_); focus (simp [rowB, go_sem]; done)) | (go_at_call 32; (with_reducible refine (cPush.out _ _ _ (hA.get 0 rfl)).mono ?_); rintro _ w9 ⟨a7, c7, rfl, hx, hk9⟩; replace hA := (hA.below hk9).cons hx; have hS1 := hS.keepB hk9; clear hk9 hS; have hS := hS1; clear hS1) | (go_at_call 33; (with_reducible refine (cRPush.out _ _ _ (hA.get 2 rfl)).mono ?_); rintro _ w9 ⟨a8, c8, rfl, hy, hk9⟩; replace hA := (hA.below hk9).cons hy; have hS1 := hS.keepB hk9; clear hk9 hS; have hS := hS1; clear hS1) | (go_at_call 35; (with_reducible refine (cF1.out _ _ _ (hA.get 1 rfl)).mono ?_); rintro _ w9 ⟨a9, c9, rfl, hf, hk9⟩; replace hA := (hA.below hk9).cons hf; have hS1 := hS.keepB hk9; clear hk9 hS; have hS := hS1; clear hS1) | (go_at_call 34; (with_reducible refine (cS1.out _ _ _ _ _ (hA.get 0 rfl) (hA.get 1 rfl)).mono ?_); rintro _ w9 ⟨rfl, hk9⟩; replace hA := hA.below hk9; have hS1 := hS.keepB hk9; clear hk9 hS; have hS := hS1; clear hS1))
          have hq := hA.get 2 rfl
          have hm := hA.get 1 rfl
          have hI2 := hP.out
          clear hA hI hx hy hf
          have z1 : w9.cell? ⟨b6, 1, none⟩ = some (.int .i64 c.id) := (hS.cell 0 rfl 1).trans (by simpa using v1.out)
          have zc : w9.rangeAt b6 1 (cdRow c) := Whole.range (hS.get 0 rfl) 1 (by rw [← vc2]; exact range_extract _ 1 27)
          have hB1 := below_step hB0 hS.below
          have cW := Lib.hid (fun (W : World) (h : Below w9.heap.size w9 W) => waits_q _ _ hI2 _ _ c.id W (hq.below h))
          have cRW := Lib.hid (fun (W : World) (h : Below w9.heap.size w9 W) => rwaits_q _ _ hI2 _ _ c.id W (hm.below h))
          have cSh := fun (W : World) (h : Below w9.heap.size w9 W) => show_q _ c hcl hcv.1 _ hI2 _ _ W (hq.below h) (Nat.lt_of_lt_of_le h0 (below_step hB1 h).size) (ht.out.below (below_step hB1 h))
          have cRSh := fun (W : World) (h : Below w9.heap.size w9 W) => rshow_q _ c hcl hcv _ hI2 _ _ W (hm.below h)
          have cTo := Lib.hid (fun (W : World) (h : Below w9.heap.size w9 W) => to_q _ _ hI2 _ _ W (hm.below h))
          have cQS := Lib.hid (fun (a' : Option Addr) (c' : Nat) (W : World) (h : Below w9.heap.size w9 W) (h2 : SlQ W a' c' _) => qsame_q _ _ hI2 _ a' _ c' W (hq.below h) h2)
          have hE := fun (M : List Wr) (W : World) => neq_cd _ _ (showQ_len c hcl hcv.1 M) (showQ_len c hcl hcv.1 M) W
          simp only [decide_true, Bool.not_true] at hE
          have hend := Lib.hid (fun (W : World) (h : Below w9.heap.size w9 W) => (⟨hI2, ((Qs.nil _).cons (hm.below h)).cons (hq.below h)⟩ : _ ∧ _))
          clear hS hI2
          have hS := St.start w9
          have kI := hS.kold0 z1
          have kR := hS.koldrow (P := Tryd.prog) zc (t := 27) (by kernel_rfl) (n := 27) (by kernel_rfl) lc
          have hG := guard_cd
          clear z1 zc hrg qone qlen vc vp vc2 vp2 v0 ht hq hm
          replace cSh := Lib.hid cSh
          replace cRSh := Lib.hid cRSh
          go_wp2_with fail
          refine mixs_begin (by kernel_rfl) hS ?_
          clear hS
          intro w8 hS
          refine mixs_take 0 (v := ?_) rfl (by kernel_rfl) (fun _ _ _ h => h) (by kernel_rfl) (by assumption) (fun s => ?hy) ?_; case hy => (go_simp <;> with_reducible rfl)
          try simp only [List.getElem_toArray, List.getElem_cons_succ, List.getElem_cons_zero, Act.put, List.setIfInBounds_toArray, List.set_cons_zero, List.set_cons_succ]
          refine mixs_take 1 (v := ?_) rfl (by kernel_rfl) (fun _ _ _ h => h) (by kernel_rfl) (by assumption) (fun s => ?hy) ?_; case hy => (go_simp <;> with_reducible rfl)
          try simp only [List.getElem_toArray, List.getElem_cons_succ, List.getElem_cons_zero, Act.put, List.setIfInBounds_toArray, List.set_cons_zero, List.set_cons_succ]
          refine mixs_take 2 (v := ?_) rfl (by kernel_rfl) (fun _ _ _ h => h) (by kernel_rfl) (by assumption) (fun s => ?hy) ?_; case hy => (go_simp <;> with_reducible rfl)
          try simp only [List.getElem_toArray, List.getElem_cons_succ, List.getElem_cons_zero, Act.put, List.setIfInBounds_toArray, List.set_cons_zero, List.set_cons_succ]
          refine mixs_take 3 (v := ?_) rfl (by kernel_rfl) (fun _ _ _ h => h) (by kernel_rfl) (by assumption) (fun s => ?hy) ?_; case hy => (go_simp <;> with_reducible rfl)
          try simp only [List.getElem_toArray, List.getElem_cons_succ, List.getElem_cons_zero, Act.put, List.setIfInBounds_toArray, List.set_cons_zero, List.set_cons_succ]
          refine mixs_take 5 (v := ?_) rfl (by kernel_rfl) (fun _ _ _ h => h) (by kernel_rfl) (by assumption) (fun s => ?hy) ?_; case hy => (go_simp <;> with_reducible rfl)
          try simp only [List.getElem_toArray, List.getElem_cons_succ, List.getElem_cons_zero, Act.put, List.setIfInBounds_toArray, List.set_cons_zero, List.set_cons_succ]
          refine mixs_take 6 (v := ?_) rfl (by kernel_rfl) (fun _ _ _ h => h) (by kernel_rfl) (by assumption) (fun s => ?hy) ?_; case hy => (go_simp <;> with_reducible rfl)
          try simp only [List.getElem_toArray, List.getElem_cons_succ, List.getElem_cons_zero, Act.put, List.setIfInBounds_toArray, List.set_cons_zero, List.set_cons_succ]
          refine mixs_take 7 (v := ?_) rfl (by kernel_rfl) (fun _ _ _ h => h) (by kernel_rfl) (by assumption) (fun s => ?hy) ?_; case hy => (go_simp <;> with_reducible rfl)
          try simp only [List.getElem_toArray, List.getElem_cons_succ, List.getElem_cons_zero, Act.put, List.setIfInBounds_toArray, List.set_cons_zero, List.set_cons_succ]
          refine mixs_take 8 (v := ?_) rfl (by kernel_rfl) (fun _ _ _ h => h) (by kernel_rfl) (by assumption) (fun s => ?hy) ?_; case hy => (go_simp <;> with_reducible rfl)
          try simp only [List.getElem_toArray, List.getElem_cons_succ, List.getElem_cons_zero, Act.put, List.setIfInBounds_toArray, List.set_cons_zero, List.set_cons_succ]
          refine mixs_one 4 (by kernel_rfl) rfl (fun K hK => ?_)
          go_simp
          ( first | (go_at_call 38; (with_reducible refine (cW.out _ hS.below).mono ?_); rintro _ w7 ⟨rfl, hk7⟩; have hS1 := hS.keepB hk7; clear hk7 hS; have hS := hS1; clear hS1) | (go_at_call 39; (with_reducible refine (cRW.out _ hS.below).mono ?_); rintro _ w7 ⟨rfl, hk7⟩; have hS1 := hS.keepB hk7; clear hk7 hS; have hS := hS1; clear hS1) | (go_at_call 40; (with_reducible refine (cSh.out _ hS.below).mono ?_); rintro _ w7 ⟨rfl, hk7⟩; have hS1 := hS.keepB hk7; clear hk7 hS; have hS := hS1; clear hS1) | (go_at_call 41; (with_reducible refine (cRSh.out _ hS.below).mono ?_); rintro _ w7 ⟨rfl, hk7⟩; have hS1 := hS.keepB hk7; clear hk7 hS; have hS := hS1; clear hS1) | (go_at_call 43; (with_reducible refine (cTo.out _ hS.below).mono ?_); rintro _ w7 ⟨a5, c5, rfl, ht5, hk7⟩; have hS1 := hS.keepB hk7; clear hk7 hS; have hS := hS1; clear hS1) | (go_at_call 42; (with_reducible refine (cQS.out _ _ _ hS.below ht5).mono ?_); rintro _ w7 ⟨rfl, hk7⟩; have hS1 := hS.keepB hk7; clear hk7 hS; have hS := hS1; clear hS1) )
          try clear hC
          refine hK.out _ _ _ (fun _ h => h) (by first | exact hS | exact hS.drop | exact hS.drop.drop | exact hS.drop.drop.drop | exact hS.drop.drop.drop.drop | exact hS.empty | exact hS.one 0 rfl | exact hS.one 1 rfl | exact hS.one 2 rfl | exact hS.one 3 rfl | exact hS.one 4 rfl | exact hS.one 5 rfl | exact hS.one 6 rfl | exact hS.one 7 rfl | exact hS.one 8 rfl | exact hS.one 9 rfl | exact hS.one 10 rfl | exact hS.one 11 rfl) (fun hC => ?_)
          clear hK K
          try simp only [List.getElem_toArray, List.getElem_cons_succ, List.getElem_cons_zero, Act.put, List.setIfInBounds_toArray, List.set_cons_zero, List.set_cons_succ]
          refine mixs_one 9 (by kernel_rfl) rfl (fun K hK => ?_)
          go_simp
          ( first | (go_at_call 38; (with_reducible refine (cW.out _ hS.below).mono ?_); rintro _ w7 ⟨rfl, hk7⟩; have hS1 := hS.keepB hk7; clear hk7 hS; have hS := hS1; clear hS1) | (go_at_call 39; (with_reducible refine (cRW.out _ hS.below).mono ?_); rintro _ w7 ⟨rfl, hk7⟩; have hS1 := hS.keepB hk7; clear hk7 hS; have hS := hS1; clear hS1) | (go_at_call 40; (with_reducible refine (cSh.out _ hS.below).mono ?_); rintro _ w7 ⟨rfl, hk7⟩; have hS1 := hS.keepB hk7; clear hk7 hS; have hS := hS1; clear hS1) | (go_at_call 41; (with_reducible refine (cRSh.out _ hS.below).mono ?_); rintro _ w7 ⟨rfl, hk7⟩; have hS1 := hS.keepB hk7; clear hk7 hS; have hS := hS1; clear hS1) | (go_at_call 43; (with_reducible refine (cTo.out _ hS.below).mono ?_); rintro _ w7 ⟨a5, c5, rfl, ht5, hk7⟩; have hS1 := hS.keepB hk7; clear hk7 hS; have hS := hS1; clear hS1) | (go_at_call 42; (with_reducible refine (cQS.out _ _ _ hS.below ht5).mono ?_); rintro _ w7 ⟨rfl, hk7⟩; have hS1 := hS.keepB hk7; clear hk7 hS; have hS := hS1; clear hS1) )
          try clear hC
          refine hK.out _ _ _ (fun _ h => h) (by first | exact hS | exact hS.drop | exact hS.drop.drop | exact hS.drop.drop.drop | exact hS.drop.drop.drop.drop | exact hS.empty | exact hS.one 0 rfl | exact hS.one 1 rfl | exact hS.one 2 rfl | exact hS.one 3 rfl | exact hS.one 4 rfl | exact hS.one 5 rfl | exact hS.one 6 rfl | exact hS.one 7 rfl | exact hS.one 8 rfl | exact hS.one 9 rfl | exact hS.one 10 rfl | exact hS.one 11 rfl) (fun hC => ?_)
          clear hK K
          try simp only [List.getElem_toArray, List.getElem_cons_succ, List.getElem_cons_zero, Act.put, List.setIfInBounds_toArray, List.set_cons_zero, List.set_cons_succ]
          refine mixs_take 10 (v := ?_) rfl (by kernel_rfl) (fun _ _ _ h => h) (by kernel_rfl) (by assumption) (fun s => ?hy) ?_; case hy => (go_simp <;> with_reducible rfl)
          try simp only [List.getElem_toArray, List.getElem_cons_succ, List.getElem_cons_zero, Act.put, List.setIfInBounds_toArray, List.set_cons_zero, List.set_cons_succ]
          refine mixs_take 11 (v := ?_) rfl (by kernel_rfl) (fun _ _ _ h => h) (by kernel_rfl) (by assumption) (fun s => ?hy) ?_; case hy => (go_simp <;> with_reducible rfl)
          try simp only [List.getElem_toArray, List.getElem_cons_succ, List.getElem_cons_zero, Act.put, List.setIfInBounds_toArray, List.set_cons_zero, List.set_cons_succ]
          refine mixs_take 12 (v := ?_) rfl (by kernel_rfl) (fun _ _ _ h => h) (by kernel_rfl) (by assumption) (fun s => ?hy) ?_; case hy => (go_simp <;> with_reducible rfl)
          try simp only [List.getElem_toArray, List.getElem_cons_succ, List.getElem_cons_zero, Act.put, List.setIfInBounds_toArray, List.set_cons_zero, List.set_cons_succ]
          refine mixs_take 13 (v := ?_) rfl (by kernel_rfl) (fun _ _ _ h => h) (by kernel_rfl) (by assumption) (fun s => ?hy) ?_; case hy => (refine Eq.trans (take_loadrow s rfl rfl kR) ?_; with_reducible rfl)
          try simp only [List.getElem_toArray, List.getElem_cons_succ, List.getElem_cons_zero, Act.put, List.setIfInBounds_toArray, List.set_cons_zero, List.set_cons_succ]
          refine mixs_take 14 (v := ?_) rfl (by kernel_rfl) (fun _ _ _ h => h) (by kernel_rfl) (by assumption) (fun s => ?hy) ?_; case hy => (go_simp <;> with_reducible rfl)
          try simp only [List.getElem_toArray, List.getElem_cons_succ, List.getElem_cons_zero, Act.put, List.setIfInBounds_toArray, List.set_cons_zero, List.set_cons_succ]
          refine mixs_take 16 (v := ?_) rfl (by kernel_rfl) (fun _ _ _ h => h) (by kernel_rfl) (by assumption) (fun s => ?hy) ?_; case hy => (go_simp <;> with_reducible rfl)
          try simp only [List.getElem_toArray, List.getElem_cons_succ, List.getElem_cons_zero, Act.put, List.setIfInBounds_toArray, List.set_cons_zero, List.set_cons_succ]
          refine mixs_take 17 (v := ?_) rfl (by kernel_rfl) (fun _ _ _ h => h) (by kernel_rfl) (by assumption) (fun s => ?hy) ?_; case hy => (refine Eq.trans (take_loadrow s rfl rfl kR) ?_; with_reducible rfl)
          try simp only [List.getElem_toArray, List.getElem_cons_succ, List.getElem_cons_zero, Act.put, List.setIfInBounds_toArray, List.set_cons_zero, List.set_cons_succ]
          refine mixs_take 18 (v := ?_) rfl (by kernel_rfl) (fun _ _ _ h => h) (by kernel_rfl) (by assumption) (fun s => ?hy) ?_; case hy => (go_simp <;> with_reducible rfl)
          try simp only [List.getElem_toArray, List.getElem_cons_succ, List.getElem_cons_zero, Act.put, List.setIfInBounds_toArray, List.set_cons_zero, List.set_cons_succ]
          refine mixs_one 15 (by kernel_rfl) rfl (fun K hK => ?_)
          go_simp
          ( first | (go_at_call 38; (with_reducible refine (cW.out _ hS.below).mono ?_); rintro _ w7 ⟨rfl, hk7⟩; have hS1 := hS.keepB hk7; clear hk7 hS; have hS := hS1; clear hS1) | (go_at_call 39; (with_reducible refine (cRW.out _ hS.below).mono ?_); rintro _ w7 ⟨rfl, hk7⟩; have hS1 := hS.keepB hk7; clear hk7 hS; have hS := hS1; clear hS1) | (go_at_call 40; (with_reducible refine (cSh.out _ hS.below).mono ?_); rintro _ w7 ⟨rfl, hk7⟩; have hS1 := hS.keepB hk7; clear hk7 hS; have hS := hS1; clear hS1) | (go_at_call 41; (with_reducible refine (cRSh.out _ hS.below).mono ?_); rintro _ w7 ⟨rfl, hk7⟩; have hS1 := hS.keepB hk7; clear hk7 hS; have hS := hS1; clear hS1) | (go_at_call 43; (with_reducible refine (cTo.out _ hS.below).mono ?_); rintro _ w7 ⟨a5, c5, rfl, ht5, hk7⟩; have hS1 := hS.keepB hk7; clear hk7 hS; have hS := hS1; clear hS1) | (go_at_call 42; (with_reducible refine (cQS.out _ _ _ hS.below ht5).mono ?_); rintro _ w7 ⟨rfl, hk7⟩; have hS1 := hS.keepB hk7; clear hk7 hS; have hS := hS1; clear hS1) )
          try clear hC
          refine hK.out _ _ _ (fun _ h => h) (by first | exact hS | exact hS.drop | exact hS.drop.drop | exact hS.drop.drop.drop | exact hS.drop.drop.drop.drop | exact hS.empty | exact hS.one 0 rfl | exact hS.one 1 rfl | exact hS.one 2 rfl | exact hS.one 3 rfl | exact hS.one 4 rfl | exact hS.one 5 rfl | exact hS.one 6 rfl | exact hS.one 7 rfl | exact hS.one 8 rfl | exact hS.one 9 rfl | exact hS.one 10 rfl | exact hS.one 11 rfl) (fun hC => ?_)
          clear hK K
          try simp only [List.getElem_toArray, List.getElem_cons_succ, List.getElem_cons_zero, Act.put, List.setIfInBounds_toArray, List.set_cons_zero, List.set_cons_succ]
          refine mixs_one 19 (by kernel_rfl) rfl (fun K hK => ?_)
          go_simp
          ( first | (go_at_call 38; (with_reducible refine (cW.out _ hS.below).mono ?_); rintro _ w7 ⟨rfl, hk7⟩; have hS1 := hS.keepB hk7; clear hk7 hS; have hS := hS1; clear hS1) | (go_at_call 39; (with_reducible refine (cRW.out _ hS.below).mono ?_); rintro _ w7 ⟨rfl, hk7⟩; have hS1 := hS.keepB hk7; clear hk7 hS; have hS := hS1; clear hS1) | (go_at_call 40; (with_reducible refine (cSh.out _ hS.below).mono ?_); rintro _ w7 ⟨rfl, hk7⟩; have hS1 := hS.keepB hk7; clear hk7 hS; have hS := hS1; clear hS1) | (go_at_call 41; (with_reducible refine (cRSh.out _ hS.below).mono ?_); rintro _ w7 ⟨rfl, hk7⟩; have hS1 := hS.keepB hk7; clear hk7 hS; have hS := hS1; clear hS1) | (go_at_call 43; (with_reducible refine (cTo.out _ hS.below).mono ?_); rintro _ w7 ⟨a5, c5, rfl, ht5, hk7⟩; have hS1 := hS.keepB hk7; clear hk7 hS; have hS := hS1; clear hS1) | (go_at_call 42; (with_reducible refine (cQS.out _ _ _ hS.below ht5).mono ?_); rintro _ w7 ⟨rfl, hk7⟩; have hS1 := hS.keepB hk7; clear hk7 hS; have hS := hS1; clear hS1) )
          try clear hC
          refine hK.out _ _ _ (fun _ h => h) (by first | exact hS | exact hS.drop | exact hS.drop.drop | exact hS.drop.drop.drop | exact hS.drop.drop.drop.drop | exact hS.empty | exact hS.one 0 rfl | exact hS.one 1 rfl | exact hS.one 2 rfl | exact hS.one 3 rfl | exact hS.one 4 rfl | exact hS.one 5 rfl | exact hS.one 6 rfl | exact hS.one 7 rfl | exact hS.one 8 rfl | exact hS.one 9 rfl | exact hS.one 10 rfl | exact hS.one 11 rfl) (fun hC => ?_)
          clear hK K
          try simp only [List.getElem_toArray, List.getElem_cons_succ, List.getElem_cons_zero, Act.put, List.setIfInBounds_toArray, List.set_cons_zero, List.set_cons_succ]
          refine mixs_take 20 (v := ?_) rfl (by kernel_rfl) (fun _ _ _ h => h) (by kernel_rfl) (by assumption) (fun s => ?hy) ?_; case hy => (go_simp <;> with_reducible rfl)
          try simp only [List.getElem_toArray, List.getElem_cons_succ, List.getElem_cons_zero, Act.put, List.setIfInBounds_toArray, List.set_cons_zero, List.set_cons_succ]
          refine mixs_take 21 (v := ?_) rfl (by kernel_rfl) (fun _ _ _ h => h) (by kernel_rfl) (by assumption) (fun s => ?hy) ?_; case hy => (go_simp <;> with_reducible rfl)
          try simp only [List.getElem_toArray, List.getElem_cons_succ, List.getElem_cons_zero, Act.put, List.setIfInBounds_toArray, List.set_cons_zero, List.set_cons_succ]
          refine mixs_take 22 (v := ?_) rfl (by kernel_rfl) (fun _ _ _ h => h) (by kernel_rfl) (by assumption) (fun s => ?hy) ?_; case hy => (go_simp <;> with_reducible rfl)
          try simp only [List.getElem_toArray, List.getElem_cons_succ, List.getElem_cons_zero, Act.put, List.setIfInBounds_toArray, List.set_cons_zero, List.set_cons_succ]
          refine mixs_take 23 (v := ?_) rfl (by kernel_rfl) (fun _ _ _ h => h) (by kernel_rfl) (by assumption) (fun s => ?hy) ?_; case hy => (go_simp <;> with_reducible rfl)
          try simp only [List.getElem_toArray, List.getElem_cons_succ, List.getElem_cons_zero, Act.put, List.setIfInBounds_toArray, List.set_cons_zero, List.set_cons_succ]
          refine mixs_take 24 (v := ?_) rfl (by kernel_rfl) (fun _ _ _ h => h) (by kernel_rfl) (by assumption) (fun s => ?hy) ?_; case hy => (go_simp <;> with_reducible rfl)
          try simp only [List.getElem_toArray, List.getElem_cons_succ, List.getElem_cons_zero, Act.put, List.setIfInBounds_toArray, List.set_cons_zero, List.set_cons_succ]
          refine mixs_one 25 (by kernel_rfl) rfl (fun K hK => ?_)
          go_simp
          ( first | (go_at_call 38; (with_reducible refine (cW.out _ hS.below).mono ?_); rintro _ w7 ⟨rfl, hk7⟩; have hS1 := hS.keepB hk7; clear hk7 hS; have hS := hS1; clear hS1) | (go_at_call 39; (with_reducible refine (cRW.out _ hS.below).mono ?_); rintro _ w7 ⟨rfl, hk7⟩; have hS1 := hS.keepB hk7; clear hk7 hS; have hS := hS1; clear hS1) | (go_at_call 40; (with_reducible refine (cSh.out _ hS.below).mono ?_); rintro _ w7 ⟨rfl, hk7⟩; have hS1 := hS.keepB hk7; clear hk7 hS; have hS := hS1; clear hS1) | (go_at_call 41; (with_reducible refine (cRSh.out _ hS.below).mono ?_); rintro _ w7 ⟨rfl, hk7⟩; have hS1 := hS.keepB hk7; clear hk7 hS; have hS := hS1; clear hS1) | (go_at_call 43; (with_reducible refine (cTo.out _ hS.below).mono ?_); rintro _ w7 ⟨a5, c5, rfl, ht5, hk7⟩; have hS1 := hS.keepB hk7; clear hk7 hS; have hS := hS1; clear hS1) | (go_at_call 42; (with_reducible refine (cQS.out _ _ _ hS.below ht5).mono ?_); rintro _ w7 ⟨rfl, hk7⟩; have hS1 := hS.keepB hk7; clear hk7 hS; have hS := hS1; clear hS1) )
          try clear hC
          refine hK.out _ _ _ (fun _ h => h) (by first | exact hS | exact hS.drop | exact hS.drop.drop | exact hS.drop.drop.drop | exact hS.drop.drop.drop.drop | exact hS.empty | exact hS.one 0 rfl | exact hS.one 1 rfl | exact hS.one 2 rfl | exact hS.one 3 rfl | exact hS.one 4 rfl | exact hS.one 5 rfl | exact hS.one 6 rfl | exact hS.one 7 rfl | exact hS.one 8 rfl | exact hS.one 9 rfl | exact hS.one 10 rfl | exact hS.one 11 rfl) (fun hC => ?_)
          clear hK K
          try simp only [List.getElem_toArray, List.getElem_cons_succ, List.getElem_cons_zero, Act.put, List.setIfInBounds_toArray, List.set_cons_zero, List.set_cons_succ]
          refine mixs_one 26 (by kernel_rfl) rfl (fun K hK => ?_)
          go_simp
          ( first | (go_at_call 38; (with_reducible refine (cW.out _ hS.below).mono ?_); rintro _ w7 ⟨rfl, hk7⟩; have hS1 := hS.keepB hk7; clear hk7 hS; have hS := hS1; clear hS1) | (go_at_call 39; (with_reducible refine (cRW.out _ hS.below).mono ?_); rintro _ w7 ⟨rfl, hk7⟩; have hS1 := hS.keepB hk7; clear hk7 hS; have hS := hS1; clear hS1) | (go_at_call 40; (with_reducible refine (cSh.out _ hS.below).mono ?_); rintro _ w7 ⟨rfl, hk7⟩; have hS1 := hS.keepB hk7; clear hk7 hS; have hS := hS1; clear hS1) | (go_at_call 41; (with_reducible refine (cRSh.out _ hS.below).mono ?_); rintro _ w7 ⟨rfl, hk7⟩; have hS1 := hS.keepB hk7; clear hk7 hS; have hS := hS1; clear hS1) | (go_at_call 43; (with_reducible refine (cTo.out _ hS.below).mono ?_); rintro _ w7 ⟨a5, c5, rfl, ht5, hk7⟩; have hS1 := hS.keepB hk7; clear hk7 hS; have hS := hS1; clear hS1) | (go_at_call 42; (with_reducible refine (cQS.out _ _ _ hS.below ht5).mono ?_); rintro _ w7 ⟨rfl, hk7⟩; have hS1 := hS.keepB hk7; clear hk7 hS; have hS := hS1; clear hS1) )
          try clear hC
          refine hK.out _ _ _ (fun _ h => h) (by first | exact hS | exact hS.drop | exact hS.drop.drop | exact hS.drop.drop.drop | exact hS.drop.drop.drop.drop | exact hS.empty | exact hS.one 0 rfl | exact hS.one 1 rfl | exact hS.one 2 rfl | exact hS.one 3 rfl | exact hS.one 4 rfl | exact hS.one 5 rfl | exact hS.one 6 rfl | exact hS.one 7 rfl | exact hS.one 8 rfl | exact hS.one 9 rfl | exact hS.one 10 rfl | exact hS.one 11 rfl) (fun hC => ?_)
          clear hK K
          try simp only [List.getElem_toArray, List.getElem_cons_succ, List.getElem_cons_zero, Act.put, List.setIfInBounds_toArray, List.set_cons_zero, List.set_cons_succ]
          refine mixs_take 27 (v := ?_) rfl (by kernel_rfl) (fun _ _ _ h => h) (by kernel_rfl) (by assumption) (fun s => ?hy) ?_; case hy => (go_simp <;> with_reducible rfl)
          try simp only [List.getElem_toArray, List.getElem_cons_succ, List.getElem_cons_zero, Act.put, List.setIfInBounds_toArray, List.set_cons_zero, List.set_cons_succ]
          refine mixs_take 28 (v := ?_) rfl (by kernel_rfl) (fun _ _ _ h => h) (by kernel_rfl) (by assumption) (fun s => ?hy) ?_; case hy => (go_simp <;> with_reducible rfl)
          try simp only [List.getElem_toArray, List.getElem_cons_succ, List.getElem_cons_zero, Act.put, List.setIfInBounds_toArray, List.set_cons_zero, List.set_cons_succ]
          refine wpAnyH_done (by kernel_rfl) ?_ _
          clear kI kR hE hG
          obtain ⟨hI3, hQ3⟩ := hend.out _ hS.below
          have hS5 := (St.start w).keepB (below_step hB1 hS.below)
          go_wp2_with fail
          go_roundg (n - (k + 1))
          case measure => omega
          case rel => exact ⟨k + 1, _, _, _, _, _, by omega, by go_num, rfl, rfl, Lib.hid hI3, Lib.hid hQ3, hS5⟩
        · have he1b : (e1 == 0) = false := by rw [beq_eq_false_iff_ne]; exact he1
          clear he1
          go_wp2_with (first | (with_reducible refine wpList_rangerow (n := 54) hrg rfl rfl rfl (by kernel_rfl) (by kernel_rfl) qlen ?_) | (with_reducible refine wpList_alloc_st (L := []) hS rfl rfl ea ?_; intro b6 w1 hS1; clear hS; have hS := hS1; clear hS1) | ((with_reducible refine wpList_storerow_st (n := 54) (vs := RA) 0 hS rfl rfl rfl rfl (by kernel_rfl) rfl qlen qone (by kernel_rfl) ?_); intro w1 hS1; clear hS; have hS := hS1; clear hS1; simp only [List.set_cons_zero, List.take_zero, List.nil_append, List.drop_succ_cons, List.drop_zero, List.drop_nil, List.append_nil] at hS; replace hA := hA.below hS.below) | ((with_reducible refine wpList_load_st 0 hS rfl rfl rfl rfl ?_ v0 ?_); focus (simp [scalarB, go_sem]; done)) | ((with_reducible refine wpList_loadrow_st (n := 27) 0 hS rfl rfl rfl rfl ?_ (by kernel_rfl) vc2 lc ?_); focus (simp [rowB, go_sem]; done)) | ((with_reducible refine wpList_loadrow_st (n := 26) 0 hS rfl rfl rfl rfl ?_ (by kernel_rfl) vp2 lp ?_); focus (simp [rowB, go_sem]; done)) | (go_at_call 32; (with_reducible refine (cPush.out _ _ _ (hA.get 0 rfl)).mono ?_); rintro _ w9 ⟨a7, c7, rfl, hx, hk9⟩; replace hA := (hA.below hk9).cons hx; have hS1 := hS.keepB hk9; clear hk9 hS; have hS := hS1; clear hS1) | (go_at_call 33; (with_reducible refine (cRPush.out _ _ _ (hA.get 2 rfl)).mono ?_); rintro _ w9 ⟨a8, c8, rfl, hy, hk9⟩; replace hA := (hA.below hk9).cons hy; have hS1 := hS.keepB hk9; clear hk9 hS; have hS := hS1; clear hS1) | (go_at_call 35; (with_reducible refine (cF1.out _ _ _ (hA.get 1 rfl)).mono ?_); rintro _ w9 ⟨a9, c9, rfl, hf, hk9⟩; replace hA := (hA.below hk9).cons hf; have hS1 := hS.keepB hk9; clear hk9 hS; have hS := hS1; clear hS1) | (go_at_call 34; (with_reducible refine (cS1.out _ _ _ _ _ (hA.get 0 rfl) (hA.get 1 rfl)).mono ?_); rintro _ w9 ⟨rfl, hk9⟩; replace hA := hA.below hk9; have hS1 := hS.keepB hk9; clear hk9 hS; have hS := hS1; clear hS1))
          have hq := hA.get 3 rfl
          have hm := hA.get 4 rfl
          have hI2 := hI.out.mono (Nat.le_succ k)
          clear hA hI hx hy hf
          have z1 : w9.cell? ⟨b6, 1, none⟩ = some (.int .i64 c.id) := (hS.cell 0 rfl 1).trans (by simpa using v1.out)
          have zc : w9.rangeAt b6 1 (cdRow c) := Whole.range (hS.get 0 rfl) 1 (by rw [← vc2]; exact range_extract _ 1 27)
          have hB1 := below_step hB0 hS.below
          have cW := Lib.hid (fun (W : World) (h : Below w9.heap.size w9 W) => waits_q _ _ hI2 _ _ c.id W (hq.below h))
          have cRW := Lib.hid (fun (W : World) (h : Below w9.heap.size w9 W) => rwaits_q _ _ hI2 _ _ c.id W (hm.below h))
          have cSh := fun (W : World) (h : Below w9.heap.size w9 W) => show_q _ c hcl hcv.1 _ hI2 _ _ W (hq.below h) (Nat.lt_of_lt_of_le h0 (below_step hB1 h).size) (ht.out.below (below_step hB1 h))
          have cRSh := fun (W : World) (h : Below w9.heap.size w9 W) => rshow_q _ c hcl hcv _ hI2 _ _ W (hm.below h)
          have cTo := Lib.hid (fun (W : World) (h : Below w9.heap.size w9 W) => to_q _ _ hI2 _ _ W (hm.below h))
          have cQS := Lib.hid (fun (a' : Option Addr) (c' : Nat) (W : World) (h : Below w9.heap.size w9 W) (h2 : SlQ W a' c' _) => qsame_q _ _ hI2 _ a' _ c' W (hq.below h) h2)
          have hE := fun (M : List Wr) (W : World) => neq_cd _ _ (showQ_len c hcl hcv.1 M) (showQ_len c hcl hcv.1 M) W
          simp only [decide_true, Bool.not_true] at hE
          have hend := Lib.hid (fun (W : World) (h : Below w9.heap.size w9 W) => (⟨hI2, ((Qs.nil _).cons (hm.below h)).cons (hq.below h)⟩ : _ ∧ _))
          clear hS hI2
          have hS := St.start w9
          have kI := hS.kold0 z1
          have kR := hS.koldrow (P := Tryd.prog) zc (t := 27) (by kernel_rfl) (n := 27) (by kernel_rfl) lc
          have hG := guard_cd
          clear z1 zc hrg qone qlen vc vp vc2 vp2 v0 ht hq hm
          replace cSh := Lib.hid cSh
          replace cRSh := Lib.hid cRSh
          go_wp2_with fail
          refine mixs_begin (by kernel_rfl) hS ?_
          clear hS
          intro w8 hS
          refine mixs_take 0 (v := ?_) rfl (by kernel_rfl) (fun _ _ _ h => h) (by kernel_rfl) (by assumption) (fun s => ?hy) ?_; case hy => (go_simp <;> with_reducible rfl)
          try simp only [List.getElem_toArray, List.getElem_cons_succ, List.getElem_cons_zero, Act.put, List.setIfInBounds_toArray, List.set_cons_zero, List.set_cons_succ]
          refine mixs_take 1 (v := ?_) rfl (by kernel_rfl) (fun _ _ _ h => h) (by kernel_rfl) (by assumption) (fun s => ?hy) ?_; case hy => (go_simp <;> with_reducible rfl)
          try simp only [List.getElem_toArray, List.getElem_cons_succ, List.getElem_cons_zero, Act.put, List.setIfInBounds_toArray, List.set_cons_zero, List.set_cons_succ]
          refine mixs_take 2 (v := ?_) rfl (by kernel_rfl) (fun _ _ _ h => h) (by kernel_rfl) (by assumption) (fun s => ?hy) ?_; case hy => (go_simp <;> with_reducible rfl)
          try simp only [List.getElem_toArray, List.getElem_cons_succ, List.getElem_cons_zero, Act.put, List.setIfInBounds_toArray, List.set_cons_zero, List.set_cons_succ]
          refine mixs_take 3 (v := ?_) rfl (by kernel_rfl) (fun _ _ _ h => h) (by kernel_rfl) (by assumption) (fun s => ?hy) ?_; case hy => (go_simp <;> with_reducible rfl)
          try simp only [List.getElem_toArray, List.getElem_cons_succ, List.getElem_cons_zero, Act.put, List.setIfInBounds_toArray, List.set_cons_zero, List.set_cons_succ]
          refine mixs_take 5 (v := ?_) rfl (by kernel_rfl) (fun _ _ _ h => h) (by kernel_rfl) (by assumption) (fun s => ?hy) ?_; case hy => (go_simp <;> with_reducible rfl)
          try simp only [List.getElem_toArray, List.getElem_cons_succ, List.getElem_cons_zero, Act.put, List.setIfInBounds_toArray, List.set_cons_zero, List.set_cons_succ]
          refine mixs_take 6 (v := ?_) rfl (by kernel_rfl) (fun _ _ _ h => h) (by kernel_rfl) (by assumption) (fun s => ?hy) ?_; case hy => (go_simp <;> with_reducible rfl)
          try simp only [List.getElem_toArray, List.getElem_cons_succ, List.getElem_cons_zero, Act.put, List.setIfInBounds_toArray, List.set_cons_zero, List.set_cons_succ]
          refine mixs_take 7 (v := ?_) rfl (by kernel_rfl) (fun _ _ _ h => h) (by kernel_rfl) (by assumption) (fun s => ?hy) ?_; case hy => (go_simp <;> with_reducible rfl)
          try simp only [List.getElem_toArray, List.getElem_cons_succ, List.getElem_cons_zero, Act.put, List.setIfInBounds_toArray, List.set_cons_zero, List.set_cons_succ]
          refine mixs_take 8 (v := ?_) rfl (by kernel_rfl) (fun _ _ _ h => h) (by kernel_rfl) (by assumption) (fun s => ?hy) ?_; case hy => (go_simp <;> with_reducible rfl)
          try simp only [List.getElem_toArray, List.getElem_cons_succ, List.getElem_cons_zero, Act.put, List.setIfInBounds_toArray, List.set_cons_zero, List.set_cons_succ]
          refine mixs_one 4 (by kernel_rfl) rfl (fun K hK => ?_)
          go_simp
          ( first | (go_at_call 38; (with_reducible refine (cW.out _ hS.below).mono ?_); rintro _ w7 ⟨rfl, hk7⟩; have hS1 := hS.keepB hk7; clear hk7 hS; have hS := hS1; clear hS1) | (go_at_call 39; (with_reducible refine (cRW.out _ hS.below).mono ?_); rintro _ w7 ⟨rfl, hk7⟩; have hS1 := hS.keepB hk7; clear hk7 hS; have hS := hS1; clear hS1) | (go_at_call 40; (with_reducible refine (cSh.out _ hS.below).mono ?_); rintro _ w7 ⟨rfl, hk7⟩; have hS1 := hS.keepB hk7; clear hk7 hS; have hS := hS1; clear hS1) | (go_at_call 41; (with_reducible refine (cRSh.out _ hS.below).mono ?_); rintro _ w7 ⟨rfl, hk7⟩; have hS1 := hS.keepB hk7; clear hk7 hS; have hS := hS1; clear hS1) | (go_at_call 43; (with_reducible refine (cTo.out _ hS.below).mono ?_); rintro _ w7 ⟨a5, c5, rfl, ht5, hk7⟩; have hS1 := hS.keepB hk7; clear hk7 hS; have hS := hS1; clear hS1) | (go_at_call 42; (with_reducible refine (cQS.out _ _ _ hS.below ht5).mono ?_); rintro _ w7 ⟨rfl, hk7⟩; have hS1 := hS.keepB hk7; clear hk7 hS; have hS := hS1; clear hS1) )
          try clear hC
          refine hK.out _ _ _ (fun _ h => h) (by first | exact hS | exact hS.drop | exact hS.drop.drop | exact hS.drop.drop.drop | exact hS.drop.drop.drop.drop | exact hS.empty | exact hS.one 0 rfl | exact hS.one 1 rfl | exact hS.one 2 rfl | exact hS.one 3 rfl | exact hS.one 4 rfl | exact hS.one 5 rfl | exact hS.one 6 rfl | exact hS.one 7 rfl | exact hS.one 8 rfl | exact hS.one 9 rfl | exact hS.one 10 rfl | exact hS.one 11 rfl) (fun hC => ?_)
          clear hK K
          try simp only [List.getElem_toArray, List.getElem_cons_succ, List.getElem_cons_zero, Act.put, List.setIfInBounds_toArray, List.set_cons_zero, List.set_cons_succ]
          refine mixs_one 9 (by kernel_rfl) rfl (fun K hK => ?_)
          go_simp
          ( first | (go_at_call 38; (with_reducible refine (cW.out _ hS.below).mono ?_); rintro _ w7 ⟨rfl, hk7⟩; have hS1 := hS.keepB hk7; clear hk7 hS; have hS := hS1; clear hS1) | (go_at_call 39; (with_reducible refine (cRW.out _ hS.below).mono ?_); rintro _ w7 ⟨rfl, hk7⟩; have hS1 := hS.keepB hk7; clear hk7 hS; have hS := hS1; clear hS1) | (go_at_call 40; (with_reducible refine (cSh.out _ hS.below).mono ?_); rintro _ w7 ⟨rfl, hk7⟩; have hS1 := hS.keepB hk7; clear hk7 hS; have hS := hS1; clear hS1) | (go_at_call 41; (with_reducible refine (cRSh.out _ hS.below).mono ?_); rintro _ w7 ⟨rfl, hk7⟩; have hS1 := hS.keepB hk7; clear hk7 hS; have hS := hS1; clear hS1) | (go_at_call 43; (with_reducible refine (cTo.out _ hS.below).mono ?_); rintro _ w7 ⟨a5, c5, rfl, ht5, hk7⟩; have hS1 := hS.keepB hk7; clear hk7 hS; have hS := hS1; clear hS1) | (go_at_call 42; (with_reducible refine (cQS.out _ _ _ hS.below ht5).mono ?_); rintro _ w7 ⟨rfl, hk7⟩; have hS1 := hS.keepB hk7; clear hk7 hS; have hS := hS1; clear hS1) )
          try clear hC
          refine hK.out _ _ _ (fun _ h => h) (by first | exact hS | exact hS.drop | exact hS.drop.drop | exact hS.drop.drop.drop | exact hS.drop.drop.drop.drop | exact hS.empty | exact hS.one 0 rfl | exact hS.one 1 rfl | exact hS.one 2 rfl | exact hS.one 3 rfl | exact hS.one 4 rfl | exact hS.one 5 rfl | exact hS.one 6 rfl | exact hS.one 7 rfl | exact hS.one 8 rfl | exact hS.one 9 rfl | exact hS.one 10 rfl | exact hS.one 11 rfl) (fun hC => ?_)
          clear hK K
          try simp only [List.getElem_toArray, List.getElem_cons_succ, List.getElem_cons_zero, Act.put, List.setIfInBounds_toArray, List.set_cons_zero, List.set_cons_succ]
          refine mixs_take 10 (v := ?_) rfl (by kernel_rfl) (fun _ _ _ h => h) (by kernel_rfl) (by assumption) (fun s => ?hy) ?_; case hy => (go_simp <;> with_reducible rfl)
          try simp only [List.getElem_toArray, List.getElem_cons_succ, List.getElem_cons_zero, Act.put, List.setIfInBounds_toArray, List.set_cons_zero, List.set_cons_succ]
          refine mixs_take 11 (v := ?_) rfl (by kernel_rfl) (fun _ _ _ h => h) (by kernel_rfl) (by assumption) (fun s => ?hy) ?_; case hy => (go_simp <;> with_reducible rfl)
          try simp only [List.getElem_toArray, List.getElem_cons_succ, List.getElem_cons_zero, Act.put, List.setIfInBounds_toArray, List.set_cons_zero, List.set_cons_succ]
          refine mixs_take 12 (v := ?_) rfl (by kernel_rfl) (fun _ _ _ h => h) (by kernel_rfl) (by assumption) (fun s => ?hy) ?_; case hy => (go_simp <;> with_reducible rfl)
          try simp only [List.getElem_toArray, List.getElem_cons_succ, List.getElem_cons_zero, Act.put, List.setIfInBounds_toArray, List.set_cons_zero, List.set_cons_succ]
          refine mixs_take 13 (v := ?_) rfl (by kernel_rfl) (fun _ _ _ h => h) (by kernel_rfl) (by assumption) (fun s => ?hy) ?_; case hy => (refine Eq.trans (take_loadrow s rfl rfl kR) ?_; with_reducible rfl)
          try simp only [List.getElem_toArray, List.getElem_cons_succ, List.getElem_cons_zero, Act.put, List.setIfInBounds_toArray, List.set_cons_zero, List.set_cons_succ]
          refine mixs_take 14 (v := ?_) rfl (by kernel_rfl) (fun _ _ _ h => h) (by kernel_rfl) (by assumption) (fun s => ?hy) ?_; case hy => (go_simp <;> with_reducible rfl)
          try simp only [List.getElem_toArray, List.getElem_cons_succ, List.getElem_cons_zero, Act.put, List.setIfInBounds_toArray, List.set_cons_zero, List.set_cons_succ]
          refine mixs_take 16 (v := ?_) rfl (by kernel_rfl) (fun _ _ _ h => h) (by kernel_rfl) (by assumption) (fun s => ?hy) ?_; case hy => (go_simp <;> with_reducible rfl)
          try simp only [List.getElem_toArray, List.getElem_cons_succ, List.getElem_cons_zero, Act.put, List.setIfInBounds_toArray, List.set_cons_zero, List.set_cons_succ]
          refine mixs_take 17 (v := ?_) rfl (by kernel_rfl) (fun _ _ _ h => h) (by kernel_rfl) (by assumption) (fun s => ?hy) ?_; case hy => (refine Eq.trans (take_loadrow s rfl rfl kR) ?_; with_reducible rfl)
          try simp only [List.getElem_toArray, List.getElem_cons_succ, List.getElem_cons_zero, Act.put, List.setIfInBounds_toArray, List.set_cons_zero, List.set_cons_succ]
          refine mixs_take 18 (v := ?_) rfl (by kernel_rfl) (fun _ _ _ h => h) (by kernel_rfl) (by assumption) (fun s => ?hy) ?_; case hy => (go_simp <;> with_reducible rfl)
          try simp only [List.getElem_toArray, List.getElem_cons_succ, List.getElem_cons_zero, Act.put, List.setIfInBounds_toArray, List.set_cons_zero, List.set_cons_succ]
          refine mixs_one 15 (by kernel_rfl) rfl (fun K hK => ?_)
          go_simp
          ( first | (go_at_call 38; (with_reducible refine (cW.out _ hS.below).mono ?_); rintro _ w7 ⟨rfl, hk7⟩; have hS1 := hS.keepB hk7; clear hk7 hS; have hS := hS1; clear hS1) | (go_at_call 39; (with_reducible refine (cRW.out _ hS.below).mono ?_); rintro _ w7 ⟨rfl, hk7⟩; have hS1 := hS.keepB hk7; clear hk7 hS; have hS := hS1; clear hS1) | (go_at_call 40; (with_reducible refine (cSh.out _ hS.below).mono ?_); rintro _ w7 ⟨rfl, hk7⟩; have hS1 := hS.keepB hk7; clear hk7 hS; have hS := hS1; clear hS1) | (go_at_call 41; (with_reducible refine (cRSh.out _ hS.below).mono ?_); rintro _ w7 ⟨rfl, hk7⟩; have hS1 := hS.keepB hk7; clear hk7 hS; have hS := hS1; clear hS1) | (go_at_call 43; (with_reducible refine (cTo.out _ hS.below).mono ?_); rintro _ w7 ⟨a5, c5, rfl, ht5, hk7⟩; have hS1 := hS.keepB hk7; clear hk7 hS; have hS := hS1; clear hS1) | (go_at_call 42; (with_reducible refine (cQS.out _ _ _ hS.below ht5).mono ?_); rintro _ w7 ⟨rfl, hk7⟩; have hS1 := hS.keepB hk7; clear hk7 hS; have hS := hS1; clear hS1) )
          try clear hC
          refine hK.out _ _ _ (fun _ h => h) (by first | exact hS | exact hS.drop | exact hS.drop.drop | exact hS.drop.drop.drop | exact hS.drop.drop.drop.drop | exact hS.empty | exact hS.one 0 rfl | exact hS.one 1 rfl | exact hS.one 2 rfl | exact hS.one 3 rfl | exact hS.one 4 rfl | exact hS.one 5 rfl | exact hS.one 6 rfl | exact hS.one 7 rfl | exact hS.one 8 rfl | exact hS.one 9 rfl | exact hS.one 10 rfl | exact hS.one 11 rfl) (fun hC => ?_)
          clear hK K
          try simp only [List.getElem_toArray, List.getElem_cons_succ, List.getElem_cons_zero, Act.put, List.setIfInBounds_toArray, List.set_cons_zero, List.set_cons_succ]
          refine mixs_one 19 (by kernel_rfl) rfl (fun K hK => ?_)
          go_simp
          ( first | (go_at_call 38; (with_reducible refine (cW.out _ hS.below).mono ?_); rintro _ w7 ⟨rfl, hk7⟩; have hS1 := hS.keepB hk7; clear hk7 hS; have hS := hS1; clear hS1) | (go_at_call 39; (with_reducible refine (cRW.out _ hS.below).mono ?_); rintro _ w7 ⟨rfl, hk7⟩; have hS1 := hS.keepB hk7; clear hk7 hS; have hS := hS1; clear hS1) | (go_at_call 40; (with_reducible refine (cSh.out _ hS.below).mono ?_); rintro _ w7 ⟨rfl, hk7⟩; have hS1 := hS.keepB hk7; clear hk7 hS; have hS := hS1; clear hS1) | (go_at_call 41; (with_reducible refine (cRSh.out _ hS.below).mono ?_); rintro _ w7 ⟨rfl, hk7⟩; have hS1 := hS.keepB hk7; clear hk7 hS; have hS := hS1; clear hS1) | (go_at_call 43; (with_reducible refine (cTo.out _ hS.below).mono ?_); rintro _ w7 ⟨a5, c5, rfl, ht5, hk7⟩; have hS1 := hS.keepB hk7; clear hk7 hS; have hS := hS1; clear hS1) | (go_at_call 42; (with_reducible refine (cQS.out _ _ _ hS.below ht5).mono ?_); rintro _ w7 ⟨rfl, hk7⟩; have hS1 := hS.keepB hk7; clear hk7 hS; have hS := hS1; clear hS1) )
          try clear hC
          refine hK.out _ _ _ (fun _ h => h) (by first | exact hS | exact hS.drop | exact hS.drop.drop | exact hS.drop.drop.drop | exact hS.drop.drop.drop.drop | exact hS.empty | exact hS.one 0 rfl | exact hS.one 1 rfl | exact hS.one 2 rfl | exact hS.one 3 rfl | exact hS.one 4 rfl | exact hS.one 5 rfl | exact hS.one 6 rfl | exact hS.one 7 rfl | exact hS.one 8 rfl | exact hS.one 9 rfl | exact hS.one 10 rfl | exact hS.one 11 rfl) (fun hC => ?_)
          clear hK K
          try simp only [List.getElem_toArray, List.getElem_cons_succ, List.getElem_cons_zero, Act.put, List.setIfInBounds_toArray, List.set_cons_zero, List.set_cons_succ]
          refine mixs_take 20 (v := ?_) rfl (by kernel_rfl) (fun _ _ _ h => h) (by kernel_rfl) (by assumption) (fun s => ?hy) ?_; case hy => (go_simp <;> with_reducible rfl)
          try simp only [List.getElem_toArray, List.getElem_cons_succ, List.getElem_cons_zero, Act.put, List.setIfInBounds_toArray, List.set_cons_zero, List.set_cons_succ]
          refine mixs_take 21 (v := ?_) rfl (by kernel_rfl) (fun _ _ _ h => h) (by kernel_rfl) (by assumption) (fun s => ?hy) ?_; case hy => (go_simp <;> with_reducible rfl)
          try simp only [List.getElem_toArray, List.getElem_cons_succ, List.getElem_cons_zero, Act.put, List.setIfInBounds_toArray, List.set_cons_zero, List.set_cons_succ]
          refine mixs_take 22 (v := ?_) rfl (by kernel_rfl) (fun _ _ _ h => h) (by kernel_rfl) (by assumption) (fun s => ?hy) ?_; case hy => (go_simp <;> with_reducible rfl)
          try simp only [List.getElem_toArray, List.getElem_cons_succ, List.getElem_cons_zero, Act.put, List.setIfInBounds_toArray, List.set_cons_zero, List.set_cons_succ]
          refine mixs_take 23 (v := ?_) rfl (by kernel_rfl) (fun _ _ _ h => h) (by kernel_rfl) (by assumption) (fun s => ?hy) ?_; case hy => (go_simp <;> with_reducible rfl)
          try simp only [List.getElem_toArray, List.getElem_cons_succ, List.getElem_cons_zero, Act.put, List.setIfInBounds_toArray, List.set_cons_zero, List.set_cons_succ]
          refine mixs_take 24 (v := ?_) rfl (by kernel_rfl) (fun _ _ _ h => h) (by kernel_rfl) (by assumption) (fun s => ?hy) ?_; case hy => (go_simp <;> with_reducible rfl)
          try simp only [List.getElem_toArray, List.getElem_cons_succ, List.getElem_cons_zero, Act.put, List.setIfInBounds_toArray, List.set_cons_zero, List.set_cons_succ]
          refine mixs_one 25 (by kernel_rfl) rfl (fun K hK => ?_)
          go_simp
          ( first | (go_at_call 38; (with_reducible refine (cW.out _ hS.below).mono ?_); rintro _ w7 ⟨rfl, hk7⟩; have hS1 := hS.keepB hk7; clear hk7 hS; have hS := hS1; clear hS1) | (go_at_call 39; (with_reducible refine (cRW.out _ hS.below).mono ?_); rintro _ w7 ⟨rfl, hk7⟩; have hS1 := hS.keepB hk7; clear hk7 hS; have hS := hS1; clear hS1) | (go_at_call 40; (with_reducible refine (cSh.out _ hS.below).mono ?_); rintro _ w7 ⟨rfl, hk7⟩; have hS1 := hS.keepB hk7; clear hk7 hS; have hS := hS1; clear hS1) | (go_at_call 41; (with_reducible refine (cRSh.out _ hS.below).mono ?_); rintro _ w7 ⟨rfl, hk7⟩; have hS1 := hS.keepB hk7; clear hk7 hS; have hS := hS1; clear hS1) | (go_at_call 43; (with_reducible refine (cTo.out _ hS.below).mono ?_); rintro _ w7 ⟨a5, c5, rfl, ht5, hk7⟩; have hS1 := hS.keepB hk7; clear hk7 hS; have hS := hS1; clear hS1) | (go_at_call 42; (with_reducible refine (cQS.out _ _ _ hS.below ht5).mono ?_); rintro _ w7 ⟨rfl, hk7⟩; have hS1 := hS.keepB hk7; clear hk7 hS; have hS := hS1; clear hS1) )
          try clear hC
          refine hK.out _ _ _ (fun _ h => h) (by first | exact hS | exact hS.drop | exact hS.drop.drop | exact hS.drop.drop.drop | exact hS.drop.drop.drop.drop | exact hS.empty | exact hS.one 0 rfl | exact hS.one 1 rfl | exact hS.one 2 rfl | exact hS.one 3 rfl | exact hS.one 4 rfl | exact hS.one 5 rfl | exact hS.one 6 rfl | exact hS.one 7 rfl | exact hS.one 8 rfl | exact hS.one 9 rfl | exact hS.one 10 rfl | exact hS.one 11 rfl) (fun hC => ?_)
          clear hK K
          try simp only [List.getElem_toArray, List.getElem_cons_succ, List.getElem_cons_zero, Act.put, List.setIfInBounds_toArray, List.set_cons_zero, List.set_cons_succ]
          refine mixs_one 26 (by kernel_rfl) rfl (fun K hK => ?_)
          go_simp
          ( first | (go_at_call 38; (with_reducible refine (cW.out _ hS.below).mono ?_); rintro _ w7 ⟨rfl, hk7⟩; have hS1 := hS.keepB hk7; clear hk7 hS; have hS := hS1; clear hS1) | (go_at_call 39; (with_reducible refine (cRW.out _ hS.below).mono ?_); rintro _ w7 ⟨rfl, hk7⟩; have hS1 := hS.keepB hk7; clear hk7 hS; have hS := hS1; clear hS1) | (go_at_call 40; (with_reducible refine (cSh.out _ hS.below).mono ?_); rintro _ w7 ⟨rfl, hk7⟩; have hS1 := hS.keepB hk7; clear hk7 hS; have hS := hS1; clear hS1) | (go_at_call 41; (with_reducible refine (cRSh.out _ hS.below).mono ?_); rintro _ w7 ⟨rfl, hk7⟩; have hS1 := hS.keepB hk7; clear hk7 hS; have hS := hS1; clear hS1) | (go_at_call 43; (with_reducible refine (cTo.out _ hS.below).mono ?_); rintro _ w7 ⟨a5, c5, rfl, ht5, hk7⟩; have hS1 := hS.keepB hk7; clear hk7 hS; have hS := hS1; clear hS1) | (go_at_call 42; (with_reducible refine (cQS.out _ _ _ hS.below ht5).mono ?_); rintro _ w7 ⟨rfl, hk7⟩; have hS1 := hS.keepB hk7; clear hk7 hS; have hS := hS1; clear hS1) )
          try clear hC
          refine hK.out _ _ _ (fun _ h => h) (by first | exact hS | exact hS.drop | exact hS.drop.drop | exact hS.drop.drop.drop | exact hS.drop.drop.drop.drop | exact hS.empty | exact hS.one 0 rfl | exact hS.one 1 rfl | exact hS.one 2 rfl | exact hS.one 3 rfl | exact hS.one 4 rfl | exact hS.one 5 rfl | exact hS.one 6 rfl | exact hS.one 7 rfl | exact hS.one 8 rfl | exact hS.one 9 rfl | exact hS.one 10 rfl | exact hS.one 11 rfl) (fun hC => ?_)
          clear hK K
          try simp only [List.getElem_toArray, List.getElem_cons_succ, List.getElem_cons_zero, Act.put, List.setIfInBounds_toArray, List.set_cons_zero, List.set_cons_succ]
          refine mixs_take 27 (v := ?_) rfl (by kernel_rfl) (fun _ _ _ h => h) (by kernel_rfl) (by assumption) (fun s => ?hy) ?_; case hy => (go_simp <;> with_reducible rfl)
          try simp only [List.getElem_toArray, List.getElem_cons_succ, List.getElem_cons_zero, Act.put, List.setIfInBounds_toArray, List.set_cons_zero, List.set_cons_succ]
          refine mixs_take 28 (v := ?_) rfl (by kernel_rfl) (fun _ _ _ h => h) (by kernel_rfl) (by assumption) (fun s => ?hy) ?_; case hy => (go_simp <;> with_reducible rfl)
          try simp only [List.getElem_toArray, List.getElem_cons_succ, List.getElem_cons_zero, Act.put, List.setIfInBounds_toArray, List.set_cons_zero, List.set_cons_succ]
          refine wpAnyH_done (by kernel_rfl) ?_ _
          clear kI kR hE hG
          obtain ⟨hI3, hQ3⟩ := hend.out _ hS.below
          have hS5 := (St.start w).keepB (below_step hB1 hS.below)
          go_wp2_with fail
          go_roundg (n - (k + 1))
          case measure => omega
          case rel => exact ⟨k + 1, _, _, _, _, _, by omega, by go_num, rfl, rfl, Lib.hid hI3, Lib.hid hQ3, hS5⟩
      · have hk0b : (kd == 0) = false := by rw [beq_eq_false_iff_ne]; exact hk0
        clear hk0
        go_wp2_with (first | (with_reducible refine wpList_rangerow (n := 54) hrg rfl rfl rfl (by kernel_rfl) (by kernel_rfl) qlen ?_) | (with_reducible refine wpList_alloc_st (L := []) hS rfl rfl ea ?_; intro b6 w1 hS1; clear hS; have hS := hS1; clear hS1) | ((with_reducible refine wpList_storerow_st (n := 54) (vs := RA) 0 hS rfl rfl rfl rfl (by kernel_rfl) rfl qlen qone (by kernel_rfl) ?_); intro w1 hS1; clear hS; have hS := hS1; clear hS1; simp only [List.set_cons_zero, List.take_zero, List.nil_append, List.drop_succ_cons, List.drop_zero, List.drop_nil, List.append_nil] at hS; replace hA := hA.below hS.below) | ((with_reducible refine wpList_load_st 0 hS rfl rfl rfl rfl ?_ v0 ?_); focus (simp [scalarB, go_sem]; done)) | (go_at_call 36; (with_reducible refine (cDone.out _ _ _ (hA.get 0 rfl)).mono ?_); rintro _ w9 ⟨a7, c7, a6, c6, rfl, hx, hy, hk9⟩; replace hA := ((hA.below hk9).cons hy).cons hx; clear hx hy; have hS1 := hS.keepB hk9; clear hk9 hS; have hS := hS1; clear hS1) | (go_at_call 37; (with_reducible refine (cRDone.out _ _ _ (hA.get 3 rfl)).mono ?_); rintro _ w9 ⟨a5, c5, a4, c4, rfl, hx, hy, hk9⟩; replace hA := ((hA.below hk9).cons hy).cons hx; clear hx hy; have hS1 := hS.keepB hk9; clear hk9 hS; have hS := hS1; clear hS1) | (go_at_call 35; (with_reducible refine (cF2.out _ _ _ (hA.get 2 rfl)).mono ?_); rintro _ w9 ⟨a9, c9, rfl, hf, hk9⟩; replace hA := (hA.below hk9).cons hf; clear hf; have hS1 := hS.keepB hk9; clear hk9 hS; have hS := hS1; clear hS1) | (go_at_call 35; (with_reducible refine (cF3.out _ _ _ (hA.get 4 rfl)).mono ?_); rintro _ w9 ⟨a9, c9, rfl, hf, hk9⟩; replace hA := (hA.below hk9).cons hf; clear hf; have hS1 := hS.keepB hk9; clear hk9 hS; have hS := hS1; clear hS1) | (go_at_call 34; (with_reducible refine (cS2.out _ _ _ _ _ (hA.get 0 rfl) (hA.get 1 rfl)).mono ?_); rintro _ w9 ⟨rfl, hk9⟩; replace hA := hA.below hk9; have hS1 := hS.keepB hk9; clear hk9 hS; have hS := hS1; clear hS1) | (go_at_call 34; (with_reducible refine (cS3.out _ _ _ _ _ (hA.get 0 rfl) (hA.get 3 rfl)).mono ?_); rintro _ w9 ⟨rfl, hk9⟩; replace hA := hA.below hk9; have hS1 := hS.keepB hk9; clear hk9 hS; have hS := hS1; clear hS1))
        have hq := hA.get 4 rfl
        have hm := hA.get 2 rfl
        have hI2 := hD1.out.mono (Nat.le_succ k)
        clear hA hI
        have z1 : w9.cell? ⟨b6, 1, none⟩ = some (.int .i64 c.id) := (hS.cell 0 rfl 1).trans (by simpa using v1.out)
        have zc : w9.rangeAt b6 1 (cdRow c) := Whole.range (hS.get 0 rfl) 1 (by rw [← vc2]; exact range_extract _ 1 27)
        have hB1 := below_step hB0 hS.below
        have cW := Lib.hid (fun (W : World) (h : Below w9.heap.size w9 W) => waits_q _ _ hI2 _ _ c.id W (hq.below h))
        have cRW := Lib.hid (fun (W : World) (h : Below w9.heap.size w9 W) => rwaits_q _ _ hI2 _ _ c.id W (hm.below h))
        have cSh := fun (W : World) (h : Below w9.heap.size w9 W) => show_q _ c hcl hcv.1 _ hI2 _ _ W (hq.below h) (Nat.lt_of_lt_of_le h0 (below_step hB1 h).size) (ht.out.below (below_step hB1 h))
        have cRSh := fun (W : World) (h : Below w9.heap.size w9 W) => rshow_q _ c hcl hcv _ hI2 _ _ W (hm.below h)
        have cTo := Lib.hid (fun (W : World) (h : Below w9.heap.size w9 W) => to_q _ _ hI2 _ _ W (hm.below h))
        have cQS := Lib.hid (fun (a' : Option Addr) (c' : Nat) (W : World) (h : Below w9.heap.size w9 W) (h2 : SlQ W a' c' _) => qsame_q _ _ hI2 _ a' _ c' W (hq.below h) h2)
        have hE := fun (M : List Wr) (W : World) => neq_cd _ _ (showQ_len c hcl hcv.1 M) (showQ_len c hcl hcv.1 M) W
        simp only [decide_true, Bool.not_true] at hE
        have hend := Lib.hid (fun (W : World) (h : Below w9.heap.size w9 W) => (⟨hI2, ((Qs.nil _).cons (hm.below h)).cons (hq.below h)⟩ : _ ∧ _))
        clear hS hI2
        have hS := St.start w9
        have kI := hS.kold0 z1
        have kR := hS.koldrow (P := Tryd.prog) zc (t := 27) (by kernel_rfl) (n := 27) (by kernel_rfl) lc
        have hG := guard_cd
        clear z1 zc hrg qone qlen vc vp vc2 vp2 v0 ht hq hm
        replace cSh := Lib.hid cSh
        replace cRSh := Lib.hid cRSh
        go_wp2_with fail
        refine mixs_begin (by kernel_rfl) hS ?_
        clear hS
        intro w8 hS
        refine mixs_take 0 (v := ?_) rfl (by kernel_rfl) (fun _ _ _ h => h) (by kernel_rfl) (by assumption) (fun s => ?hy) ?_; case hy => (go_simp <;> with_reducible rfl)
        try simp only [List.getElem_toArray, List.getElem_cons_succ, List.getElem_cons_zero, Act.put, List.setIfInBounds_toArray, List.set_cons_zero, List.set_cons_succ]
        refine mixs_take 1 (v := ?_) rfl (by kernel_rfl) (fun _ _ _ h => h) (by kernel_rfl) (by assumption) (fun s => ?hy) ?_; case hy => (go_simp <;> with_reducible rfl)
        try simp only [List.getElem_toArray, List.getElem_cons_succ, List.getElem_cons_zero, Act.put, List.setIfInBounds_toArray, List.set_cons_zero, List.set_cons_succ]
        refine mixs_take 2 (v := ?_) rfl (by kernel_rfl) (fun _ _ _ h => h) (by kernel_rfl) (by assumption) (fun s => ?hy) ?_; case hy => (go_simp <;> with_reducible rfl)
        try simp only [List.getElem_toArray, List.getElem_cons_succ, List.getElem_cons_zero, Act.put, List.setIfInBounds_toArray, List.set_cons_zero, List.set_cons_succ]
        refine mixs_take 3 (v := ?_) rfl (by kernel_rfl) (fun _ _ _ h => h) (by kernel_rfl) (by assumption) (fun s => ?hy) ?_; case hy => (go_simp <;> with_reducible rfl)
        try simp only [List.getElem_toArray, List.getElem_cons_succ, List.getElem_cons_zero, Act.put, List.setIfInBounds_toArray, List.set_cons_zero, List.set_cons_succ]
        refine mixs_take 5 (v := ?_) rfl (by kernel_rfl) (fun _ _ _ h => h) (by kernel_rfl) (by assumption) (fun s => ?hy) ?_; case hy => (go_simp <;> with_reducible rfl)
        try simp only [List.getElem_toArray, List.getElem_cons_succ, List.getElem_cons_zero, Act.put, List.setIfInBounds_toArray, List.set_cons_zero, List.set_cons_succ]
        refine mixs_take 6 (v := ?_) rfl (by kernel_rfl) (fun _ _ _ h => h) (by kernel_rfl) (by assumption) (fun s => ?hy) ?_; case hy => (go_simp <;> with_reducible rfl)
        try simp only [List.getElem_toArray, List.getElem_cons_succ, List.getElem_cons_zero, Act.put, List.setIfInBounds_toArray, List.set_cons_zero, List.set_cons_succ]
        refine mixs_take 7 (v := ?_) rfl (by kernel_rfl) (fun _ _ _ h => h) (by kernel_rfl) (by assumption) (fun s => ?hy) ?_; case hy => (go_simp <;> with_reducible rfl)
        try simp only [List.getElem_toArray, List.getElem_cons_succ, List.getElem_cons_zero, Act.put, List.setIfInBounds_toArray, List.set_cons_zero, List.set_cons_succ]
        refine mixs_take 8 (v := ?_) rfl (by kernel_rfl) (fun _ _ _ h => h) (by kernel_rfl) (by assumption) (fun s => ?hy) ?_; case hy => (go_simp <;> with_reducible rfl)
        try simp only [List.getElem_toArray, List.getElem_cons_succ, List.getElem_cons_zero, Act.put, List.setIfInBounds_toArray, List.set_cons_zero, List.set_cons_succ]
        refine mixs_one 4 (by kernel_rfl) rfl (fun K hK => ?_)
        go_simp
        ( first | (go_at_call 38; (with_reducible refine (cW.out _ hS.below).mono ?_); rintro _ w7 ⟨rfl, hk7⟩; have hS1 := hS.keepB hk7; clear hk7 hS; have hS := hS1; clear hS1) | (go_at_call 39; (with_reducible refine (cRW.out _ hS.below).mono ?_); rintro _ w7 ⟨rfl, hk7⟩; have hS1 := hS.keepB hk7; clear hk7 hS; have hS := hS1; clear hS1) | (go_at_call 40; (with_reducible refine (cSh.out _ hS.below).mono ?_); rintro _ w7 ⟨rfl, hk7⟩; have hS1 := hS.keepB hk7; clear hk7 hS; have hS := hS1; clear hS1) | (go_at_call 41; (with_reducible refine (cRSh.out _ hS.below).mono ?_); rintro _ w7 ⟨rfl, hk7⟩; have hS1 := hS.keepB hk7; clear hk7 hS; have hS := hS1; clear hS1) | (go_at_call 43; (with_reducible refine (cTo.out _ hS.below).mono ?_); rintro _ w7 ⟨a5, c5, rfl, ht5, hk7⟩; have hS1 := hS.keepB hk7; clear hk7 hS; have hS := hS1; clear hS1) | (go_at_call 42; (with_reducible refine (cQS.out _ _ _ hS.below ht5).mono ?_); rintro _ w7 ⟨rfl, hk7⟩; have hS1 := hS.keepB hk7; clear hk7 hS; have hS := hS1; clear hS1) )
        try clear hC
        refine hK.out _ _ _ (fun _ h => h) (by first | exact hS | exact hS.drop | exact hS.drop.drop | exact hS.drop.drop.drop | exact hS.drop.drop.drop.drop | exact hS.empty | exact hS.one 0 rfl | exact hS.one 1 rfl | exact hS.one 2 rfl | exact hS.one 3 rfl | exact hS.one 4 rfl | exact hS.one 5 rfl | exact hS.one 6 rfl | exact hS.one 7 rfl | exact hS.one 8 rfl | exact hS.one 9 rfl | exact hS.one 10 rfl | exact hS.one 11 rfl) (fun hC => ?_)
        clear hK K
        try simp only [List.getElem_toArray, List.getElem_cons_succ, List.getElem_cons_zero, Act.put, List.setIfInBounds_toArray, List.set_cons_zero, List.set_cons_succ]
        refine mixs_one 9 (by kernel_rfl) rfl (fun K hK => ?_)
        go_simp
        ( first | (go_at_call 38; (with_reducible refine (cW.out _ hS.below).mono ?_); rintro _ w7 ⟨rfl, hk7⟩; have hS1 := hS.keepB hk7; clear hk7 hS; have hS := hS1; clear hS1) | (go_at_call 39; (with_reducible refine (cRW.out _ hS.below).mono ?_); rintro _ w7 ⟨rfl, hk7⟩; have hS1 := hS.keepB hk7; clear hk7 hS; have hS := hS1; clear hS1) | (go_at_call 40; (with_reducible refine (cSh.out _ hS.below).mono ?_); rintro _ w7 ⟨rfl, hk7⟩; have hS1 := hS.keepB hk7; clear hk7 hS; have hS := hS1; clear hS1) | (go_at_call 41; (with_reducible refine (cRSh.out _ hS.below).mono ?_); rintro _ w7 ⟨rfl, hk7⟩; have hS1 := hS.keepB hk7; clear hk7 hS; have hS := hS1; clear hS1) | (go_at_call 43; (with_reducible refine (cTo.out _ hS.below).mono ?_); rintro _ w7 ⟨a5, c5, rfl, ht5, hk7⟩; have hS1 := hS.keepB hk7; clear hk7 hS; have hS := hS1; clear hS1) | (go_at_call 42; (with_reducible refine (cQS.out _ _ _ hS.below ht5).mono ?_); rintro _ w7 ⟨rfl, hk7⟩; have hS1 := hS.keepB hk7; clear hk7 hS; have hS := hS1; clear hS1) )
        try clear hC
        refine hK.out _ _ _ (fun _ h => h) (by first | exact hS | exact hS.drop | exact hS.drop.drop | exact hS.drop.drop.drop | exact hS.drop.drop.drop.drop | exact hS.empty | exact hS.one 0 rfl | exact hS.one 1 rfl | exact hS.one 2 rfl | exact hS.one 3 rfl | exact hS.one 4 rfl | exact hS.one 5 rfl | exact hS.one 6 rfl | exact hS.one 7 rfl | exact hS.one 8 rfl | exact hS.one 9 rfl | exact hS.one 10 rfl | exact hS.one 11 rfl) (fun hC => ?_)
        clear hK K
        try simp only [List.getElem_toArray, List.getElem_cons_succ, List.getElem_cons_zero, Act.put, List.setIfInBounds_toArray, List.set_cons_zero, List.set_cons_succ]
        refine mixs_take 10 (v := ?_) rfl (by kernel_rfl) (fun _ _ _ h => h) (by kernel_rfl) (by assumption) (fun s => ?hy) ?_; case hy => (go_simp <;> with_reducible rfl)
        try simp only [List.getElem_toArray, List.getElem_cons_succ, List.getElem_cons_zero, Act.put, List.setIfInBounds_toArray, List.set_cons_zero, List.set_cons_succ]
        refine mixs_take 11 (v := ?_) rfl (by kernel_rfl) (fun _ _ _ h => h) (by kernel_rfl) (by assumption) (fun s => ?hy) ?_; case hy => (go_simp <;> with_reducible rfl)
        try simp only [List.getElem_toArray, List.getElem_cons_succ, List.getElem_cons_zero, Act.put, List.setIfInBounds_toArray, List.set_cons_zero, List.set_cons_succ]
        refine mixs_take 12 (v := ?_) rfl (by kernel_rfl) (fun _ _ _ h => h) (by kernel_rfl) (by assumption) (fun s => ?hy) ?_; case hy => (go_simp <;> with_reducible rfl)
        try simp only [List.getElem_toArray, List.getElem_cons_succ, List.getElem_cons_zero, Act.put, List.setIfInBounds_toArray, List.set_cons_zero, List.set_cons_succ]
        refine mixs_take 13 (v := ?_) rfl (by kernel_rfl) (fun _ _ _ h => h) (by kernel_rfl) (by assumption) (fun s => ?hy) ?_; case hy => (refine Eq.trans (take_loadrow s rfl rfl kR) ?_; with_reducible rfl)
        try simp only [List.getElem_toArray, List.getElem_cons_succ, List.getElem_cons_zero, Act.put, List.setIfInBounds_toArray, List.set_cons_zero, List.set_cons_succ]
        refine mixs_take 14 (v := ?_) rfl (by kernel_rfl) (fun _ _ _ h => h) (by kernel_rfl) (by assumption) (fun s => ?hy) ?_; case hy => (go_simp <;> with_reducible rfl)
        try simp only [List.getElem_toArray, List.getElem_cons_succ, List.getElem_cons_zero, Act.put, List.setIfInBounds_toArray, List.set_cons_zero, List.set_cons_succ]
        refine mixs_take 16 (v := ?_) rfl (by kernel_rfl) (fun _ _ _ h => h) (by kernel_rfl) (by assumption) (fun s => ?hy) ?_; case hy => (go_simp <;> with_reducible rfl)
        try simp only [List.getElem_toArray, List.getElem_cons_succ, List.getElem_cons_zero, Act.put, List.setIfInBounds_toArray, List.set_cons_zero, List.set_cons_succ]
        refine mixs_take 17 (v := ?_) rfl (by kernel_rfl) (fun _ _ _ h => h) (by kernel_rfl) (by assumption) (fun s => ?hy) ?_; case hy => (refine Eq.trans (take_loadrow s rfl rfl kR) ?_; with_reducible rfl)
        try simp only [List.getElem_toArray, List.getElem_cons_succ, List.getElem_cons_zero, Act.put, List.setIfInBounds_toArray, List.set_cons_zero, List.set_cons_succ]
        refine mixs_take 18 (v := ?_) rfl (by kernel_rfl) (fun _ _ _ h => h) (by kernel_rfl) (by assumption) (fun s => ?hy) ?_; case hy => (go_simp <;> with_reducible rfl)
        try simp only [List.getElem_toArray, List.getElem_cons_succ, List.getElem_cons_zero, Act.put, List.setIfInBounds_toArray, List.set_cons_zero, List.set_cons_succ]
        refine mixs_one 15 (by kernel_rfl) rfl (fun K hK => ?_)
        go_simp
        ( first | (go_at_call 38; (with_reducible refine (cW.out _ hS.below).mono ?_); rintro _ w7 ⟨rfl, hk7⟩; have hS1 := hS.keepB hk7; clear hk7 hS; have hS := hS1; clear hS1) | (go_at_call 39; (with_reducible refine (cRW.out _ hS.below).mono ?_); rintro _ w7 ⟨rfl, hk7⟩; have hS1 := hS.keepB hk7; clear hk7 hS; have hS := hS1; clear hS1) | (go_at_call 40; (with_reducible refine (cSh.out _ hS.below).mono ?_); rintro _ w7 ⟨rfl, hk7⟩; have hS1 := hS.keepB hk7; clear hk7 hS; have hS := hS1; clear hS1) | (go_at_call 41; (with_reducible refine (cRSh.out _ hS.below).mono ?_); rintro _ w7 ⟨rfl, hk7⟩; have hS1 := hS.keepB hk7; clear hk7 hS; have hS := hS1; clear hS1) | (go_at_call 43; (with_reducible refine (cTo.out _ hS.below).mono ?_); rintro _ w7 ⟨a5, c5, rfl, ht5, hk7⟩; have hS1 := hS.keepB hk7; clear hk7 hS; have hS := hS1; clear hS1) | (go_at_call 42; (with_reducible refine (cQS.out _ _ _ hS.below ht5).mono ?_); rintro _ w7 ⟨rfl, hk7⟩; have hS1 := hS.keepB hk7; clear hk7 hS; have hS := hS1; clear hS1) )
        try clear hC
        refine hK.out _ _ _ (fun _ h => h) (by first | exact hS | exact hS.drop | exact hS.drop.drop | exact hS.drop.drop.drop | exact hS.drop.drop.drop.drop | exact hS.empty | exact hS.one 0 rfl | exact hS.one 1 rfl | exact hS.one 2 rfl | exact hS.one 3 rfl | exact hS.one 4 rfl | exact hS.one 5 rfl | exact hS.one 6 rfl | exact hS.one 7 rfl | exact hS.one 8 rfl | exact hS.one 9 rfl | exact hS.one 10 rfl | exact hS.one 11 rfl) (fun hC => ?_)
        clear hK K
        try simp only [List.getElem_toArray, List.getElem_cons_succ, List.getElem_cons_zero, Act.put, List.setIfInBounds_toArray, List.set_cons_zero, List.set_cons_succ]
        refine mixs_one 19 (by kernel_rfl) rfl (fun K hK => ?_)
        go_simp
        ( first | (go_at_call 38; (with_reducible refine (cW.out _ hS.below).mono ?_); rintro _ w7 ⟨rfl, hk7⟩; have hS1 := hS.keepB hk7; clear hk7 hS; have hS := hS1; clear hS1) | (go_at_call 39; (with_reducible refine (cRW.out _ hS.below).mono ?_); rintro _ w7 ⟨rfl, hk7⟩; have hS1 := hS.keepB hk7; clear hk7 hS; have hS := hS1; clear hS1) | (go_at_call 40; (with_reducible refine (cSh.out _ hS.below).mono ?_); rintro _ w7 ⟨rfl, hk7⟩; have hS1 := hS.keepB hk7; clear hk7 hS; have hS := hS1; clear hS1) | (go_at_call 41; (with_reducible refine (cRSh.out _ hS.below).mono ?_); rintro _ w7 ⟨rfl, hk7⟩; have hS1 := hS.keepB hk7; clear hk7 hS; have hS := hS1; clear hS1) | (go_at_call 43; (with_reducible refine (cTo.out _ hS.below).mono ?_); rintro _ w7 ⟨a5, c5, rfl, ht5, hk7⟩; have hS1 := hS.keepB hk7; clear hk7 hS; have hS := hS1; clear hS1) | (go_at_call 42; (with_reducible refine (cQS.out _ _ _ hS.below ht5).mono ?_); rintro _ w7 ⟨rfl, hk7⟩; have hS1 := hS.keepB hk7; clear hk7 hS; have hS := hS1; clear hS1) )
        try clear hC
        refine hK.out _ _ _ (fun _ h => h) (by first | exact hS | exact hS.drop | exact hS.drop.drop | exact hS.drop.drop.drop | exact hS.drop.drop.drop.drop | exact hS.empty | exact hS.one 0 rfl | exact hS.one 1 rfl | exact hS.one 2 rfl | exact hS.one 3 rfl | exact hS.one 4 rfl | exact hS.one 5 rfl | exact hS.one 6 rfl | exact hS.one 7 rfl | exact hS.one 8 rfl | exact hS.one 9 rfl | exact hS.one 10 rfl | exact hS.one 11 rfl) (fun hC => ?_)
        clear hK K
        try simp only [List.getElem_toArray, List.getElem_cons_succ, List.getElem_cons_zero, Act.put, List.setIfInBounds_toArray, List.set_cons_zero, List.set_cons_succ]
        refine mixs_take 20 (v := ?_) rfl (by kernel_rfl) (fun _ _ _ h => h) (by kernel_rfl) (by assumption) (fun s => ?hy) ?_; case hy => (go_simp <;> with_reducible rfl)
        try simp only [List.getElem_toArray, List.getElem_cons_succ, List.getElem_cons_zero, Act.put, List.setIfInBounds_toArray, List.set_cons_zero, List.set_cons_succ]
        refine mixs_take 21 (v := ?_) rfl (by kernel_rfl) (fun _ _ _ h => h) (by kernel_rfl) (by assumption) (fun s => ?hy) ?_; case hy => (go_simp <;> with_reducible rfl)
        try simp only [List.getElem_toArray, List.getElem_cons_succ, List.getElem_cons_zero, Act.put, List.setIfInBounds_toArray, List.set_cons_zero, List.set_cons_succ]
        refine mixs_take 22 (v := ?_) rfl (by kernel_rfl) (fun _ _ _ h => h) (by kernel_rfl) (by assumption) (fun s => ?hy) ?_; case hy => (go_simp <;> with_reducible rfl)
        try simp only [List.getElem_toArray, List.getElem_cons_succ, List.getElem_cons_zero, Act.put, List.setIfInBounds_toArray, List.set_cons_zero, List.set_cons_succ]
        refine mixs_take 23 (v := ?_) rfl (by kernel_rfl) (fun _ _ _ h => h) (by kernel_rfl) (by assumption) (fun s => ?hy) ?_; case hy => (go_simp <;> with_reducible rfl)
        try simp only [List.getElem_toArray, List.getElem_cons_succ, List.getElem_cons_zero, Act.put, List.setIfInBounds_toArray, List.set_cons_zero, List.set_cons_succ]
        refine mixs_take 24 (v := ?_) rfl (by kernel_rfl) (fun _ _ _ h => h) (by kernel_rfl) (by assumption) (fun s => ?hy) ?_; case hy => (go_simp <;> with_reducible rfl)
        try simp only [List.getElem_toArray, List.getElem_cons_succ, List.getElem_cons_zero, Act.put, List.setIfInBounds_toArray, List.set_cons_zero, List.set_cons_succ]
        refine mixs_one 25 (by kernel_rfl) rfl (fun K hK => ?_)
        go_simp
        ( first | (go_at_call 38; (with_reducible refine (cW.out _ hS.below).mono ?_); rintro _ w7 ⟨rfl, hk7⟩; have hS1 := hS.keepB hk7; clear hk7 hS; have hS := hS1; clear hS1) | (go_at_call 39; (with_reducible refine (cRW.out _ hS.below).mono ?_); rintro _ w7 ⟨rfl, hk7⟩; have hS1 := hS.keepB hk7; clear hk7 hS; have hS := hS1; clear hS1) | (go_at_call 40; (with_reducible refine (cSh.out _ hS.below).mono ?_); rintro _ w7 ⟨rfl, hk7⟩; have hS1 := hS.keepB hk7; clear hk7 hS; have hS := hS1; clear hS1) | (go_at_call 41; (with_reducible refine (cRSh.out _ hS.below).mono ?_); rintro _ w7 ⟨rfl, hk7⟩; have hS1 := hS.keepB hk7; clear hk7 hS; have hS := hS1; clear hS1) | (go_at_call 43; (with_reducible refine (cTo.out _ hS.below).mono ?_); rintro _ w7 ⟨a5, c5, rfl, ht5, hk7⟩; have hS1 := hS.keepB hk7; clear hk7 hS; have hS := hS1; clear hS1) | (go_at_call 42; (with_reducible refine (cQS.out _ _ _ hS.below ht5).mono ?_); rintro _ w7 ⟨rfl, hk7⟩; have hS1 := hS.keepB hk7; clear hk7 hS; have hS := hS1; clear hS1) )
        try clear hC
        refine hK.out _ _ _ (fun _ h => h) (by first | exact hS | exact hS.drop | exact hS.drop.drop | exact hS.drop.drop.drop | exact hS.drop.drop.drop.drop | exact hS.empty | exact hS.one 0 rfl | exact hS.one 1 rfl | exact hS.one 2 rfl | exact hS.one 3 rfl | exact hS.one 4 rfl | exact hS.one 5 rfl | exact hS.one 6 rfl | exact hS.one 7 rfl | exact hS.one 8 rfl | exact hS.one 9 rfl | exact hS.one 10 rfl | exact hS.one 11 rfl) (fun hC => ?_)
        clear hK K
        try simp only [List.getElem_toArray, List.getElem_cons_succ, List.getElem_cons_zero, Act.put, List.setIfInBounds_toArray, List.set_cons_zero, List.set_cons_succ]
        refine mixs_one 26 (by kernel_rfl) rfl (fun K hK => ?_)
        go_simp
        ( first | (go_at_call 38; (with_reducible refine (cW.out _ hS.below).mono ?_); rintro _ w7 ⟨rfl, hk7⟩; have hS1 := hS.keepB hk7; clear hk7 hS; have hS := hS1; clear hS1) | (go_at_call 39; (with_reducible refine (cRW.out _ hS.below).mono ?_); rintro _ w7 ⟨rfl, hk7⟩; have hS1 := hS.keepB hk7; clear hk7 hS; have hS := hS1; clear hS1) | (go_at_call 40; (with_reducible refine (cSh.out _ hS.below).mono ?_); rintro _ w7 ⟨rfl, hk7⟩; have hS1 := hS.keepB hk7; clear hk7 hS; have hS := hS1; clear hS1) | (go_at_call 41; (with_reducible refine (cRSh.out _ hS.below).mono ?_); rintro _ w7 ⟨rfl, hk7⟩; have hS1 := hS.keepB hk7; clear hk7 hS; have hS := hS1; clear hS1) | (go_at_call 43; (with_reducible refine (cTo.out _ hS.below).mono ?_); rintro _ w7 ⟨a5, c5, rfl, ht5, hk7⟩; have hS1 := hS.keepB hk7; clear hk7 hS; have hS := hS1; clear hS1) | (go_at_call 42; (with_reducible refine (cQS.out _ _ _ hS.below ht5).mono ?_); rintro _ w7 ⟨rfl, hk7⟩; have hS1 := hS.keepB hk7; clear hk7 hS; have hS := hS1; clear hS1) )
        try clear hC
        refine hK.out _ _ _ (fun _ h => h) (by first | exact hS | exact hS.drop | exact hS.drop.drop | exact hS.drop.drop.drop | exact hS.drop.drop.drop.drop | exact hS.empty | exact hS.one 0 rfl | exact hS.one 1 rfl | exact hS.one 2 rfl | exact hS.one 3 rfl | exact hS.one 4 rfl | exact hS.one 5 rfl | exact hS.one 6 rfl | exact hS.one 7 rfl | exact hS.one 8 rfl | exact hS.one 9 rfl | exact hS.one 10 rfl | exact hS.one 11 rfl) (fun hC => ?_)
        clear hK K
        try simp only [List.getElem_toArray, List.getElem_cons_succ, List.getElem_cons_zero, Act.put, List.setIfInBounds_toArray, List.set_cons_zero, List.set_cons_succ]
        refine mixs_take 27 (v := ?_) rfl (by kernel_rfl) (fun _ _ _ h => h) (by kernel_rfl) (by assumption) (fun s => ?hy) ?_; case hy => (go_simp <;> with_reducible rfl)
        try simp only [List.getElem_toArray, List.getElem_cons_succ, List.getElem_cons_zero, Act.put, List.setIfInBounds_toArray, List.set_cons_zero, List.set_cons_succ]
        refine mixs_take 28 (v := ?_) rfl (by kernel_rfl) (fun _ _ _ h => h) (by kernel_rfl) (by assumption) (fun s => ?hy) ?_; case hy => (go_simp <;> with_reducible rfl)
        try simp only [List.getElem_toArray, List.getElem_cons_succ, List.getElem_cons_zero, Act.put, List.setIfInBounds_toArray, List.set_cons_zero, List.set_cons_succ]
        refine wpAnyH_done (by kernel_rfl) ?_ _
        clear kI kR hE hG
        obtain ⟨hI3, hQ3⟩ := hend.out _ hS.below
        have hS5 := (St.start w).keepB (below_step hB1 hS.below)
        go_wp2_with fail
        go_roundg (n - (k + 1))
        case measure => omega
        case rel => exact ⟨k + 1, _, _, _, _, _, by omega, by go_num, rfl, rfl, Lib.hid hI3, Lib.hid hQ3, hS5⟩
    · obtain rfl : k = n := by omega
      have hq := hL.out.get 0 rfl
      have hm := hL.out.get 1 rfl
      have hI2 := hI.out
      have cTo := Lib.hid (to_any L hI2.f am _ cm rfl (by have := hI2.len; omega) wr hm.1)
      have hzl : (wrRow ⟨0, 0, ⟨0, 0, noF⟩⟩).length = 1 * 28 := rfl
      have hzo : ∀ u ∈ wrRow ⟨0, 0, ⟨0, 0, noF⟩⟩, u.oneCell' = true := fun u hu => List.all_eq_true.1 (wrRow_one _) u hu
      have cS := fun (a' : Option Addr) (c' : Nat) (W : World) (h : Below wr.heap.size wr W) (h2 : Sl W a' (qRow (L ++ [⟨0, 0, ⟨0, 0, noF⟩⟩]))) => qsame_any aq a' L (L ++ [⟨0, 0, ⟨0, 0, noF⟩⟩]) hI2.f (by intro q hq; rcases List.mem_append.1 hq with hq | hq; exact hI2.f q hq; simp at hq; subst hq; rfl) _ (L.length + 1) cq c' rfl (by simp) (by have := hI2.len; omega) W (hq.below h).1 h2
      rw [decide_eq_false (show ¬ L = L ++ [⟨0, 0, ⟨0, 0, noF⟩⟩] from fun e => by have := congrArg List.length e; simp at this), qRow_snoc] at cS
      replace cS := Lib.hid cS
      have hb1 := fun W : World => run_build1 (P := Tryd.prog) W 53 _ Tryd.underlying53 ew (v := .agg (wrRow ⟨0, 0, ⟨0, 0, noF⟩⟩).toArray) rfl (by decide)
      have hl12 := hI2.len
      have hB0 := hS.below
      clear hS hq hm hI2 hL hI
      have hS := St.start wr
      unfold WrRet at cTo
      replace hb1 := Lib.hid hb1
      replace hzo := Lib.hid hzo
      go_wp2_with (first
        | (go_at_call 43; (with_reducible refine cTo.out.mono ?_); rintro _ w9 ⟨a9, c9, rfl, -, -, hk9⟩; have hS1 := hS.made hk9; clear hk9 hS; have hS := hS1; clear hS1; simp only [List.cons_append, List.nil_append] at hS)
        | ((with_reducible refine wpList_buildr_st hS rfl hb1.out rfl rfl ?_); intro gs w1 hS1; clear hS; have hS := hS1; clear hS1)
        | (at_builtin; (with_reducible refine wpList_app_st 1 hS rfl rfl rfl Tryd.underlying53 ew rfl (Src.slice Tryd.underlying53 (hS.blksl2 0 rfl) hzl) rfl hzo.out (by omega) (by unfold maxLen; omega) ?_); intro v5 w3 hS1; clear hS; have hS := hS1; clear hS1; simp only [List.set_cons_zero, List.set_cons_succ] at hS; obtain ⟨a5, c5, rfl, -⟩ := hS.row 1 rfl)
        | (go_at_call 42; (with_reducible refine (cS.out _ _ _ hS.below (hS.rowsl 1 rfl)).mono ?_); rintro _ w7 ⟨rfl, hk7⟩; have hS1 := hS.keepB hk7; clear hk7 hS; have hS := hS1; clear hS1)
        | (go_at_call 31; (with_reducible refine (cA.out _).mono ?_); rintro _ w7 ⟨rfl, hk7⟩; have hS1 := hS.keepB hk7; clear hk7 hS; have hS := hS1; clear hS1))
      go_ret
      exact ⟨rfl, below_step hB0 hS.below⟩
end Go.Proofs.YtplgpbbghhlbjaaDoor
end

section
/- The law QueuePlays: all cases. -/
set_option linter.unusedSimpArgs false
set_option linter.unusedVariables false
namespace Go.Proofs.YtplgpbbghhlbjaaDoor
open Go.RowKit Go.Ofp
set_option linter.unusedVariables false
set_option maxRecDepth 100000
set_option maxHeartbeats 4000000
theorem plays44_any (l : List QAc) (a : Option Addr) (n cap : Nat) (w : World) (hQ : QAcs w a n cap l) (h0 : 0 < w.heap.size) (ht : Sl w (some ⟨0, 0, none⟩) (tzTab.map vb)) :
    Calls Tryd.prog 7 #[.slice a n cap] w fun e w' => e = .returned (.bool true) ∧ Below w.heap.size w w' := by
  cases hsk : skipQ l with
  | false => exact plays44_main l a n cap w hQ hsk h0 ht
  | true =>
    have hS := St.start w
    have cK := fun (W : World) (hb : Below w.heap.size w W) => skip44_any l a n cap W (hQ.below hb)
    rw [hsk] at cK
    have cA := fun W : World => awake44_any W
    replace cK := Lib.hid cK
    replace cA := Lib.hid cA
    clear hQ hsk ht
    go_enter Tryd.func7, Tryd.ntmps7
    go_wp2_with (first
      | (go_at_call 30; (with_reducible refine (cK.out _ hS.below).mono ?_); rintro _ w9 ⟨rfl, hk9⟩; have hS1 := hS.keepB hk9; clear hk9 hS; have hS := hS1; clear hS1)
      | (go_at_call 31; (with_reducible refine (cA.out _).mono ?_); rintro _ w7 ⟨rfl, hk7⟩; have hS1 := hS.keepB hk7; clear hk7 hS; have hS := hS1; clear hS1))
    go_ret
    exact ⟨rfl, hS.below⟩
end Go.Proofs.YtplgpbbghhlbjaaDoor
end
