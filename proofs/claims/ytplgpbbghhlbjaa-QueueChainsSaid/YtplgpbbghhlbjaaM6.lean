/- Texts laid together: QueueChains QueueChainsE. -/
import Derived.Test.YtplgpbbghhlbjaaM2
import Derived.Test.YtplgpbbghhlbjaaM4
import Derived.Test.YtplgpbbghhlbjaaM5
section
/- The law QueueChains. -/
set_option linter.unusedSimpArgs false
set_option linter.unusedVariables false
namespace Go.Proofs.Ytplgpbbghhlbjaa
open Go.RowKit Go.Ofp
set_option linter.unusedVariables false
set_option maxRecDepth 100000
set_option maxHeartbeats 4000000
theorem QAcs.below2 {w w' : World} {a : Option Addr} {n c : Nat} {l : List QAc} (h : QAcs w a n c l) (hb : Below w.heap.size w w') : QAcs w' a n c l := ⟨h.sl.below hb, h.len, h.le, h.cm, h.mem⟩

theorem chains44_main (l : List QAc) (a : Option Addr) (n cap : Nat) (ok : Bool) (w : World) (hQ : QAcs w a n cap l) (hsk : skipQ l = false) :
    Calls Try.prog 4 #[.slice a n cap, .bool ok] w fun e w' => e = .returned (.bool true) ∧ Below w.heap.size w w' := by
  have hS := St.start w
  have ew := elem_wr
  have cK := fun (W : World) (hb : Below w.heap.size w W) => skip44_any l a n cap W (hQ.below2 hb)
  rw [hsk] at cK
  have cA := fun W : World => awake44_any W
  obtain ⟨hs, hn, hle, hcm, hin⟩ := hQ
  have h60 : n ≤ 60 := by
    rw [skipQ, Bool.or_eq_false_iff] at hsk
    have := of_decide_eq_false hsk.1
    omega
  have hok : ∀ x ∈ l, x.bad = false := by
    rw [skipQ, Bool.or_eq_false_iff] at hsk
    intro x hx
    have := List.any_eq_false.1 hsk.2 x hx
    simpa using this
  replace cK := Lib.hid cK
  replace cA := Lib.hid cA
  replace hs := Lib.hid hs
  replace hin := Lib.hid hin
  replace hn := Lib.hid hn
  replace hok := Lib.hid hok
  clear hsk
  go_enter Try.func4, Try.ntmps4
  go_wp2_with (first
    | (go_at_call 19; (with_reducible refine (cK.out _ hS.below).mono ?_); rintro _ w9 ⟨rfl, hk9⟩; have hS1 := hS.keepB hk9; clear hk9 hS; have hS := hS1; clear hS1)
    | ((with_reducible refine wpList_build0_st hS rfl rfl Try.underlying29 ew ?_); intro g1 w3 hS1; clear hS; have hS := hS1; clear hS1))
  go_loopg [5, 6] n (fun gk vq vx wr => ∃ (k : Nat) (aq : Option Addr) (cq : Nat) (L : List Wr), k + gk = n ∧ vx = .int .i64 k ∧ vq = .slice aq L.length cq ∧ Hid (QIn k L) ∧ Hid (Chain L) ∧ Hid (SlQ wr aq cq L) ∧ St w [] [] wr)
  case atStart => exact ⟨0, _, _, [], Nat.zero_add _, rfl, rfl, Lib.hid (QIn.nil 0), Lib.hid Chain.nil, Lib.hid (SlQ.row hS 0 rfl rfl), hS.empty⟩
  case round =>
    clear hS
    obtain ⟨k, aq, cq, L, hkn, rfl, rfl, hI, hCh, hq, hS⟩ := hrel
    by_cases hlt : k < n
    · have hkl : k < l.length := by rw [hn.out]; exact hlt
      have hxi := hin.out _ (List.getElem_mem hkl)
      have hxb := hok.out _ (List.getElem_mem hkl)
      obtain ⟨g3, o3, ha⟩ := Sl.cells hs.out (qaRows_ne l hin.out (by omega))
      subst ha
      have hrg := range_old hS (sl_range hs.out (qaRows_at l hin.out k hkl))
      have hB0 := hS.below
      clear hS
      have hS := St.start wr
      generalize l[k] = x at *
      obtain ⟨kd, c, p⟩ := x
      have hcl := hxi.c.len
      have hpl := hxi.p.len
      have hpm := hxi.p.mask
      have hplb := hxi.p.lab
      have hcv : 0 ≤ c.ver ∧ c.ver ≤ 1099511627776 := by
        rw [QAc.bad] at hxb
        simp only [Bool.or_eq_false_iff, decide_eq_false_iff_not] at hxb
        omega
      clear hxi hxb
      simp only at hcl hpl hpm hplb
      have e0 : qaRow ⟨kd, c, p⟩ = [.int .i64 kd] ++ (cdRow c ++ ptRow p) := rfl
      have e1 : qaRow ⟨kd, c, p⟩ = ([.int .i64 kd] ++ cdRow c) ++ (ptRow p ++ []) := by simp [qaRow]
      have lc := cdRow_len c hcl
      have lp := ptRow_len p hpl
      have zc := range_part (by rw [e0] at hrg; exact hrg)
      have zp := range_part (by rw [e1] at hrg; exact hrg)
      simp only [List.length_append, List.length_cons, List.length_nil, lc, Nat.reduceAdd] at zc zp
      have kC := hS.koldrow (P := Try.prog) zc (t := 38) (by kernel_rfl) (n := 27) (by kernel_rfl) lc
      have kP := hS.koldrow (P := Try.prog) zp (t := 40) (by kernel_rfl) (n := 26) (by kernel_rfl) lp
      have cPush := Lib.hid (fun (W : World) (h : Below wr.heap.size wr W) => push_any c hcl p hpl hpm hplb L hI.out.f (hI.out.bounds (by omega)) aq _ cq rfl W (hq.out.below h))
      have hP := hI.out.push c p hcv hpl hpm
      have hPC := hCh.out.push c p
      generalize (pushQ L c p).1 = P1 at *
      generalize (pushQ L c p).2 = e1 at *
      generalize cdRow c = RC at *
      generalize ptRow p = RP at *
      clear hrg e0 e1 zc zp lc lp hkl hplb hcl hpl hpm hcv
      have hsum : IntKind.i64.wrap ((k : Int) + 1) = (k : Int) + 1 := IntWalk.i64_in _ (by omega)
      clear hsum
      replace hP := Lib.hid hP
      replace hPC := Lib.hid hPC
      go_wp2_with fail
      refine mixs_begin (by kernel_rfl) hS ?_
      clear hS
      intro w8 hS
      refine mixs_take 0 (v := ?_) rfl (by kernel_rfl) (fun _ _ _ h => h) (by kernel_rfl) (by assumption) (fun s => ?hy) ?_; case hy => (go_simp <;> with_reducible rfl)
      try simp only [List.getElem_toArray, List.getElem_cons_succ, List.getElem_cons_zero, Act.put, List.setIfInBounds_toArray, List.set_cons_zero, List.set_cons_succ]
      refine mixs_take 1 (v := ?_) rfl (by kernel_rfl) (fun _ _ _ h => h) (by kernel_rfl) (by assumption) (fun s => ?hy) ?_; case hy => (go_simp <;> with_reducible rfl)
      try simp only [List.getElem_toArray, List.getElem_cons_succ, List.getElem_cons_zero, Act.put, List.setIfInBounds_toArray, List.set_cons_zero, List.set_cons_succ]
      refine mixs_take 2 (v := ?_) rfl (by kernel_rfl) (fun _ _ _ h => h) (by kernel_rfl) (by assumption) (fun s => ?hy) ?_; case hy => (go_simp <;> with_reducible rfl)
      try simp only [List.getElem_toArray, List.getElem_cons_succ, List.getElem_cons_zero, Act.put, List.setIfInBounds_toArray, List.set_cons_zero, List.set_cons_succ]
      refine mixs_take 3 (v := ?_) rfl (by kernel_rfl) (fun _ _ _ h => h) (by kernel_rfl) (by assumption) (fun s => ?hy) ?_; case hy => (go_simp <;> with_reducible rfl)
      try simp only [List.getElem_toArray, List.getElem_cons_succ, List.getElem_cons_zero, Act.put, List.setIfInBounds_toArray, List.set_cons_zero, List.set_cons_succ]
      refine mixs_take 4 (v := ?_) rfl (by kernel_rfl) (fun _ _ _ h => h) (by kernel_rfl) (by assumption) (fun s => ?hy) ?_; case hy => (go_simp <;> with_reducible rfl)
      try simp only [List.getElem_toArray, List.getElem_cons_succ, List.getElem_cons_zero, Act.put, List.setIfInBounds_toArray, List.set_cons_zero, List.set_cons_succ]
      refine mixs_take 5 (v := ?_) rfl (by kernel_rfl) (fun _ _ _ h => h) (by kernel_rfl) (by assumption) (fun s => ?hy) ?_; case hy => (refine Eq.trans (take_loadrow s rfl rfl kC) ?_; with_reducible rfl)
      try simp only [List.getElem_toArray, List.getElem_cons_succ, List.getElem_cons_zero, Act.put, List.setIfInBounds_toArray, List.set_cons_zero, List.set_cons_succ]
      refine mixs_take 6 (v := ?_) rfl (by kernel_rfl) (fun _ _ _ h => h) (by kernel_rfl) (by assumption) (fun s => ?hy) ?_; case hy => (go_simp <;> with_reducible rfl)
      try simp only [List.getElem_toArray, List.getElem_cons_succ, List.getElem_cons_zero, Act.put, List.setIfInBounds_toArray, List.set_cons_zero, List.set_cons_succ]
      refine mixs_take 7 (v := ?_) rfl (by kernel_rfl) (fun _ _ _ h => h) (by kernel_rfl) (by assumption) (fun s => ?hy) ?_; case hy => (go_simp <;> with_reducible rfl)
      try simp only [List.getElem_toArray, List.getElem_cons_succ, List.getElem_cons_zero, Act.put, List.setIfInBounds_toArray, List.set_cons_zero, List.set_cons_succ]
      refine mixs_take 8 (v := ?_) rfl (by kernel_rfl) (fun _ _ _ h => h) (by kernel_rfl) (by assumption) (fun s => ?hy) ?_; case hy => (go_simp <;> with_reducible rfl)
      try simp only [List.getElem_toArray, List.getElem_cons_succ, List.getElem_cons_zero, Act.put, List.setIfInBounds_toArray, List.set_cons_zero, List.set_cons_succ]
      refine mixs_take 9 (v := ?_) rfl (by kernel_rfl) (fun _ _ _ h => h) (by kernel_rfl) (by assumption) (fun s => ?hy) ?_; case hy => (go_simp <;> with_reducible rfl)
      try simp only [List.getElem_toArray, List.getElem_cons_succ, List.getElem_cons_zero, Act.put, List.setIfInBounds_toArray, List.set_cons_zero, List.set_cons_succ]
      refine mixs_take 10 (v := ?_) rfl (by kernel_rfl) (fun _ _ _ h => h) (by kernel_rfl) (by assumption) (fun s => ?hy) ?_; case hy => (refine Eq.trans (take_loadrow s rfl rfl kP) ?_; with_reducible rfl)
      try simp only [List.getElem_toArray, List.getElem_cons_succ, List.getElem_cons_zero, Act.put, List.setIfInBounds_toArray, List.set_cons_zero, List.set_cons_succ]
      refine mixs_one 11 (by kernel_rfl) rfl (fun K hK => ?_)
      go_simp
      ( first | (go_at_call 21; (with_reducible refine (cPush.out _ hS.below).mono ?_); rintro _ w7 ⟨a7, c7, rfl, hq7, hk7⟩; have hS1 := hS.keepB hk7; clear hk7 hS; have hS := hS1; clear hS1) )
      try clear hC
      refine hK.out _ _ _ (fun _ h => h) (by first | exact hS | exact hS.drop | exact hS.drop.drop | exact hS.drop.drop.drop | exact hS.drop.drop.drop.drop | exact hS.empty | exact hS.one 0 rfl | exact hS.one 1 rfl | exact hS.one 2 rfl | exact hS.one 3 rfl | exact hS.one 4 rfl | exact hS.one 5 rfl | exact hS.one 6 rfl | exact hS.one 7 rfl | exact hS.one 8 rfl | exact hS.one 9 rfl | exact hS.one 10 rfl | exact hS.one 11 rfl) (fun hC => ?_)
      clear hK K
      try simp only [List.getElem_toArray, List.getElem_cons_succ, List.getElem_cons_zero, Act.put, List.setIfInBounds_toArray, List.set_cons_zero, List.set_cons_succ]
      refine mixs_take 12 (v := ?_) rfl (by kernel_rfl) (fun _ _ _ h => h) (by kernel_rfl) (by assumption) (fun s => ?hy) ?_; case hy => (go_simp <;> with_reducible rfl)
      try simp only [List.getElem_toArray, List.getElem_cons_succ, List.getElem_cons_zero, Act.put, List.setIfInBounds_toArray, List.set_cons_zero, List.set_cons_succ]
      refine mixs_take 13 (v := ?_) rfl (by kernel_rfl) (fun _ _ _ h => h) (by kernel_rfl) (by assumption) (fun s => ?hy) ?_; case hy => (go_simp <;> with_reducible rfl)
      try simp only [List.getElem_toArray, List.getElem_cons_succ, List.getElem_cons_zero, Act.put, List.setIfInBounds_toArray, List.set_cons_zero, List.set_cons_succ]
      refine mixs_take 14 (v := ?_) rfl (by kernel_rfl) (fun _ _ _ h => h) (by kernel_rfl) (by assumption) (fun s => ?hy) ?_; case hy => (go_simp <;> with_reducible rfl)
      try simp only [List.getElem_toArray, List.getElem_cons_succ, List.getElem_cons_zero, Act.put, List.setIfInBounds_toArray, List.set_cons_zero, List.set_cons_succ]
      refine mixs_take 15 (v := ?_) rfl (by kernel_rfl) (fun _ _ _ h => h) (by kernel_rfl) (by assumption) (fun s => ?hy) ?_; case hy => (go_simp <;> with_reducible rfl)
      try simp only [List.getElem_toArray, List.getElem_cons_succ, List.getElem_cons_zero, Act.put, List.setIfInBounds_toArray, List.set_cons_zero, List.set_cons_succ]
      refine mixs_take 16 (v := ?_) rfl (by kernel_rfl) (fun _ _ _ h => h) (by kernel_rfl) (by assumption) (fun s => ?hy) ?_; case hy => (go_simp <;> with_reducible rfl)
      try simp only [List.getElem_toArray, List.getElem_cons_succ, List.getElem_cons_zero, Act.put, List.setIfInBounds_toArray, List.set_cons_zero, List.set_cons_succ]
      refine wpAnyH_done (by kernel_rfl) ?_ _
      clear kC kP
      have hBw := below_step hB0 hS.below
      by_cases he1 : e1 = 0
      · subst he1
        go_wp2_with fail
        go_roundg (n - (k + 1))
        case measure => omega
        case rel => exact ⟨k + 1, _, _, _, by omega, by go_num, rfl, hP, hPC, Lib.hid hq7, (St.start w).keepB hBw⟩
      · have he1b : (e1 == 0) = false := by rw [beq_eq_false_iff_ne]; exact he1
        clear he1
        go_wp2_with fail
        go_roundg (n - (k + 1))
        case measure => omega
        case rel => exact ⟨k + 1, _, _, _, by omega, by go_num, rfl, Lib.hid (hI.out.mono (Nat.le_succ k)), hCh, Lib.hid (hq.out.below hS.below), (St.start w).keepB hBw⟩
    · obtain rfl : k = n := by omega
      cases L with
      | nil =>
        clear hq hI hCh
        go_wp2_with (go_at_call 20; (with_reducible refine (cA.out _).mono ?_); rintro _ w7 ⟨rfl, hk7⟩; have hS1 := hS.keepB hk7; clear hk7 hS; have hS := hS1; clear hS1)
        go_ret
        exact ⟨rfl, hS.below⟩
      | cons q0 t =>
        have hI2 := hI.out
        have hne : ((((q0 :: t).length : Nat) : Int) == 0) = false := by rw [beq_eq_false_iff_ne]; simp; omega
        have cD := qdone_any (q0 :: t) ok hI2.f aq _ cq rfl (by have := hI2.len; omega) wr hq.out
        obtain ⟨b, o, ha⟩ := Sl.cells hq.out.1 (by intro e; have := congrArg List.length e; rw [qRow_len _ hI2.f] at this; simp at this)
        subst ha
        have hr0 := sl_range hq.out.1 (qRow_at (q0 :: t) hI2.f 0 (by simp))
        simp only [Nat.zero_mul, Nat.add_zero, List.getElem_cons_zero] at hr0
        have q8 := wrRow_len q0 (hI2.f q0 (by simp))
        have q9 := wrRow_one q0
        have hB0 := hS.below
        clear hS
        have hS := St.start wr
        have hq0 := hq.out
        clear hq hs hin hok cK
        cases ok with
        | true =>
          have hd1 : (doneQ (q0 :: t) true).1 = t := rfl
          have hd2 : (doneQ (q0 :: t) true).2 = [] := rfl
          unfold DoneRet at cD
          rw [hd1, hd2] at cD
          simp only [List.length_nil] at cD
          have hhead := fun (i : Nat) (hi : i < t.length) h1 h2 => hCh.out q0 t rfl _ (head_of hi h1 h2)
          have hbase := hI2.base q0 (by simp)
          have hti8 : ∀ q ∈ t, q.p.f.length = 8 := fun q hq => hI2.f q (by simp [hq])
          have hti := hI2.f
          have hlen := hI2.len
          simp only [List.length_cons] at hlen
          clear hd1 hd2 hI hCh hI2
          replace cD := Lib.hid cD
          replace hhead := Lib.hid hhead
          replace hti := Lib.hid hti
          obtain ⟨nL, hnq⟩ : ∃ nL, (q0 :: t).length = nL := ⟨_, rfl⟩
          have hnq2 : t.length + 1 = nL := by rw [← hnq]; rfl
          rw [hnq] at hne cD ⊢
          clear hnq hq0
          generalize hRW : wrRow q0 = RW at *
          have hv0 : RW.toArray[0]? = some (.int .i64 q0.id) := by rw [← hRW]; rfl
          have hv1 : RW.toArray[1]? = some (.int .i64 q0.base) := by rw [← hRW]; rfl
          clear hRW
          go_wp2_with (first | (go_at_call 22; (with_reducible refine cD.out.mono ?_); rintro _ w9 ⟨a1, c1, a2, c2, rfl, hl9, hg9, hk9⟩; have hS1 := hS.keepB hk9; have hB8' := hS1.below; have hr9 := range_old hS1 hr0; have hB9 := below_step hB0 hS1.below; clear hS hS1 hk9; have hS := St.start w9) | (with_reducible refine wpList_rangerow (n := 28) (range_old hS hr9) rfl rfl rfl (by kernel_rfl) (by kernel_rfl) q8 ?_) | (with_reducible refine wpList_alloc_st (L := []) hS rfl rfl ew ?_; intro b6 w1 hS1; clear hS; have hS := hS1; clear hS1) | ((with_reducible refine wpList_storerow_st (n := 28) (vs := RW) 0 hS rfl rfl rfl rfl (by kernel_rfl) rfl q8 q9 (by kernel_rfl) ?_); intro w1 hS1; clear hS; have hS := hS1; clear hS1; simp only [List.set_cons_zero, List.take_zero, List.nil_append, List.drop_succ_cons, List.drop_zero, List.drop_nil, List.append_nil] at hS))
          have z0 := (hS.cell 0 rfl 0).trans hv0
          have z1 := (hS.cell 0 rfl 1).trans hv1
          have hl1 := Lib.hid (hl9.below hS.below)
          have hB1 := below_step hB9 hS.below
          clear hS hr9 hr0 hl9 hg9 hB0 hB9 hv0 hv1
          have hS := St.start w1
          have hsum : IntKind.i64.wrap (q0.base + 1) = q0.base + 1 := IntWalk.i64_in _ (by omega)
          have hsub : IntKind.i64.wrap ((nL : Int) - 1) = (t.length : Int) := by
            rw [IntWalk.i64_in _ (by omega)]
            omega
          replace hsum := Lib.hid hsum
          replace hsub := Lib.hid hsub
          obtain ⟨id0, bs0, p0⟩ := q0
          simp only at z0 z1 hsum hhead hbase
          clear hti
          have hl8 : ∀ q ∈ t, q.p.f.length = 8 := hti8
          replace hl8 := Lib.hid hl8
          go_loopg [12] t.length (fun gk vx wr' => ∃ (i : Nat), i + gk = t.length ∧ vx = .int .i64 i ∧ Hid (∀ q ∈ t.take i, q.id ≠ id0) ∧ St w1 [] [] wr')
          case atStart => exact ⟨0, Nat.zero_add _, rfl, Lib.hid (by simp), hS⟩
          case round =>
            clear hS
            obtain ⟨i, hin, rfl, hr, hS⟩ := hrel
            by_cases hlt2 : i < t.length
            · have hit : i < t.length := hlt2
              have q1 := qRow_at t hl8.out i hit
              obtain ⟨g4, o4, ha⟩ := Sl.cells hl1.out.1 (by intro e; have := congrArg List.length e; rw [qRow_len _ hl8.out] at this; simp at this; omega)
              subst ha
              have hr1 := sl_range hl1.out.1 q1
              have hhd := fun h2 => hhead.out i hit hr.out h2
              have hnx : t[i].id ≠ id0 → ∀ q ∈ t.take (i + 1), q.id ≠ id0 := by
                intro hne q hq
                rw [List.take_succ_eq_append_getElem hit, List.mem_append] at hq
                rcases hq with hq | hq
                · exact hr.out q hq
                · simp at hq; subst hq; exact hne
              generalize t[i] = x at *
              obtain ⟨xi, xb, xp⟩ := x
              have y0 : w1.cell? ⟨g4, o4 + i * 28, none⟩ = some (.int .i64 xi) := hr1 0 _ rfl
              have y1 : w1.cell? ⟨g4, o4 + i * 28 + 1, none⟩ = some (.int .i64 xb) := hr1 1 _ rfl
              have y0' := hS.old y0 (by simp)
              have z0' := hS.old z0 (by simp)
              clear hr1 q1 hit
              by_cases he : xi = id0
              · have hb := hhd he
                simp only at hb
                subst hb
                subst he
                clear hhd hnx
                go_wp2_with fail
                go_quiet (fail)
                have hS1 := hS.keep (Fr.drewN wr nq)
                clear hS
                have hS := hS1
                clear hS1 y0' z0' y0 z0
                have k1 := hS.kold0 y1
                have k2 := hS.kold0 z1
                have hs1 := hsum.out
                have hs2 := hsub.out
                go_wp2_with fail
                refine mixs_begin (by kernel_rfl) hS ?_
                clear hS
                intro w8 hS
                refine mixs_take 0 (v := ?_) rfl (by kernel_rfl) (fun _ _ _ h => h) (by kernel_rfl) (by assumption) (fun s => ?hy) ?_; case hy => (go_simp <;> with_reducible rfl)
                try simp only [List.getElem_toArray, List.getElem_cons_succ, List.getElem_cons_zero, Act.put, List.setIfInBounds_toArray, List.set_cons_zero, List.set_cons_succ]
                refine mixs_take 1 (v := ?_) rfl (by kernel_rfl) (fun _ _ _ h => h) (by kernel_rfl) (by assumption) (fun s => ?hy) ?_; case hy => (go_simp <;> with_reducible rfl)
                try simp only [List.getElem_toArray, List.getElem_cons_succ, List.getElem_cons_zero, Act.put, List.setIfInBounds_toArray, List.set_cons_zero, List.set_cons_succ]
                refine mixs_take 2 (v := ?_) rfl (by kernel_rfl) (fun _ _ _ h => h) (by kernel_rfl) (by assumption) (fun s => ?hy) ?_; case hy => (go_simp <;> with_reducible rfl)
                try simp only [List.getElem_toArray, List.getElem_cons_succ, List.getElem_cons_zero, Act.put, List.setIfInBounds_toArray, List.set_cons_zero, List.set_cons_succ]
                refine mixs_take 3 (v := ?_) rfl (by kernel_rfl) (fun _ _ _ h => h) (by kernel_rfl) (by assumption) (fun s => ?hy) ?_; case hy => (go_simp <;> with_reducible rfl)
                try simp only [List.getElem_toArray, List.getElem_cons_succ, List.getElem_cons_zero, Act.put, List.setIfInBounds_toArray, List.set_cons_zero, List.set_cons_succ]
                refine mixs_take 4 (v := ?_) rfl (by kernel_rfl) (fun _ _ _ h => h) (by kernel_rfl) (by assumption) (fun s => ?hy) ?_; case hy => (go_simp <;> with_reducible rfl)
                try simp only [List.getElem_toArray, List.getElem_cons_succ, List.getElem_cons_zero, Act.put, List.setIfInBounds_toArray, List.set_cons_zero, List.set_cons_succ]
                refine mixs_take 5 (v := ?_) rfl (by kernel_rfl) (fun _ _ _ h => h) (by kernel_rfl) (by assumption) (fun s => ?hy) ?_; case hy => (go_simp <;> with_reducible rfl)
                try simp only [List.getElem_toArray, List.getElem_cons_succ, List.getElem_cons_zero, Act.put, List.setIfInBounds_toArray, List.set_cons_zero, List.set_cons_succ]
                refine mixs_take 6 (v := ?_) rfl (by kernel_rfl) (fun _ _ _ h => h) (by kernel_rfl) (by assumption) (fun s => ?hy) ?_; case hy => (go_simp <;> with_reducible rfl)
                try simp only [List.getElem_toArray, List.getElem_cons_succ, List.getElem_cons_zero, Act.put, List.setIfInBounds_toArray, List.set_cons_zero, List.set_cons_succ]
                refine mixs_take 7 (v := ?_) rfl (by kernel_rfl) (fun _ _ _ h => h) (by kernel_rfl) (by assumption) (fun s => ?hy) ?_; case hy => (go_simp <;> with_reducible rfl)
                try simp only [List.getElem_toArray, List.getElem_cons_succ, List.getElem_cons_zero, Act.put, List.setIfInBounds_toArray, List.set_cons_zero, List.set_cons_succ]
                refine mixs_take 8 (v := ?_) rfl (by kernel_rfl) (fun _ _ _ h => h) (by kernel_rfl) (by assumption) (fun s => ?hy) ?_; case hy => (go_simp <;> with_reducible rfl)
                try simp only [List.getElem_toArray, List.getElem_cons_succ, List.getElem_cons_zero, Act.put, List.setIfInBounds_toArray, List.set_cons_zero, List.set_cons_succ]
                refine mixs_take 9 (v := ?_) rfl (by kernel_rfl) (fun _ _ _ h => h) (by kernel_rfl) (by assumption) (fun s => ?hy) ?_; case hy => (go_simp <;> with_reducible rfl)
                try simp only [List.getElem_toArray, List.getElem_cons_succ, List.getElem_cons_zero, Act.put, List.setIfInBounds_toArray, List.set_cons_zero, List.set_cons_succ]
                refine mixs_take 10 (v := ?_) rfl (by kernel_rfl) (fun _ _ _ h => h) (by kernel_rfl) (by assumption) (fun s => ?hy) ?_; case hy => (go_simp <;> with_reducible rfl)
                try simp only [List.getElem_toArray, List.getElem_cons_succ, List.getElem_cons_zero, Act.put, List.setIfInBounds_toArray, List.set_cons_zero, List.set_cons_succ]
                refine mixs_take 11 (v := ?_) rfl (by kernel_rfl) (fun _ _ _ h => h) (by kernel_rfl) (by assumption) (fun s => ?hy) ?_; case hy => (go_simp <;> with_reducible rfl)
                try simp only [List.getElem_toArray, List.getElem_cons_succ, List.getElem_cons_zero, Act.put, List.setIfInBounds_toArray, List.set_cons_zero, List.set_cons_succ]
                refine mixs_take 12 (v := ?_) rfl (by kernel_rfl) (fun _ _ _ h => h) (by kernel_rfl) (by assumption) (fun s => ?hy) ?_; case hy => (go_simp <;> with_reducible rfl)
                try simp only [List.getElem_toArray, List.getElem_cons_succ, List.getElem_cons_zero, Act.put, List.setIfInBounds_toArray, List.set_cons_zero, List.set_cons_succ]
                refine mixs_take 13 (v := ?_) rfl (by kernel_rfl) (fun _ _ _ h => h) (by kernel_rfl) (by assumption) (fun s => ?hy) ?_; case hy => (go_simp <;> with_reducible rfl)
                try simp only [List.getElem_toArray, List.getElem_cons_succ, List.getElem_cons_zero, Act.put, List.setIfInBounds_toArray, List.set_cons_zero, List.set_cons_succ]
                refine mixs_take 14 (v := ?_) rfl (by kernel_rfl) (fun _ _ _ h => h) (by kernel_rfl) (by assumption) (fun s => ?hy) ?_; case hy => (go_simp <;> with_reducible rfl)
                try simp only [List.getElem_toArray, List.getElem_cons_succ, List.getElem_cons_zero, Act.put, List.setIfInBounds_toArray, List.set_cons_zero, List.set_cons_succ]
                refine mixs_take 15 (v := ?_) rfl (by kernel_rfl) (fun _ _ _ h => h) (by kernel_rfl) (by assumption) (fun s => ?hy) ?_; case hy => (go_simp <;> with_reducible rfl)
                try simp only [List.getElem_toArray, List.getElem_cons_succ, List.getElem_cons_zero, Act.put, List.setIfInBounds_toArray, List.set_cons_zero, List.set_cons_succ]
                refine mixs_take 16 (v := ?_) rfl (by kernel_rfl) (fun _ _ _ h => h) (by kernel_rfl) (by assumption) (fun s => ?hy) ?_; case hy => (go_simp <;> with_reducible rfl)
                try simp only [List.getElem_toArray, List.getElem_cons_succ, List.getElem_cons_zero, Act.put, List.setIfInBounds_toArray, List.set_cons_zero, List.set_cons_succ]
                refine mixs_take 17 (v := ?_) rfl (by kernel_rfl) (fun _ _ _ h => h) (by kernel_rfl) (by assumption) (fun s => ?hy) ?_; case hy => (go_simp <;> with_reducible rfl)
                try simp only [List.getElem_toArray, List.getElem_cons_succ, List.getElem_cons_zero, Act.put, List.setIfInBounds_toArray, List.set_cons_zero, List.set_cons_succ]
                refine mixs_take 18 (v := ?_) rfl (by kernel_rfl) (fun _ _ _ h => h) (by kernel_rfl) (by assumption) (fun s => ?hy) ?_; case hy => (go_simp <;> with_reducible rfl)
                try simp only [List.getElem_toArray, List.getElem_cons_succ, List.getElem_cons_zero, Act.put, List.setIfInBounds_toArray, List.set_cons_zero, List.set_cons_succ]
                refine mixs_take 19 (v := ?_) rfl (by kernel_rfl) (fun _ _ _ h => h) (by kernel_rfl) (by assumption) (fun s => ?hy) ?_; case hy => (go_simp <;> with_reducible rfl)
                try simp only [List.getElem_toArray, List.getElem_cons_succ, List.getElem_cons_zero, Act.put, List.setIfInBounds_toArray, List.set_cons_zero, List.set_cons_succ]
                refine mixs_take 20 (v := ?_) rfl (by kernel_rfl) (fun _ _ _ h => h) (by kernel_rfl) (by assumption) (fun s => ?hy) ?_; case hy => (go_simp <;> with_reducible rfl)
                try simp only [List.getElem_toArray, List.getElem_cons_succ, List.getElem_cons_zero, Act.put, List.setIfInBounds_toArray, List.set_cons_zero, List.set_cons_succ]
                refine mixs_take 21 (v := ?_) rfl (by kernel_rfl) (fun _ _ _ h => h) (by kernel_rfl) (by assumption) (fun s => ?hy) ?_; case hy => (go_simp <;> with_reducible rfl)
                try simp only [List.getElem_toArray, List.getElem_cons_succ, List.getElem_cons_zero, Act.put, List.setIfInBounds_toArray, List.set_cons_zero, List.set_cons_succ]
                refine mixs_take 22 (v := ?_) rfl (by kernel_rfl) (fun _ _ _ h => h) (by kernel_rfl) (by assumption) (fun s => ?hy) ?_; case hy => (go_simp <;> with_reducible rfl)
                try simp only [List.getElem_toArray, List.getElem_cons_succ, List.getElem_cons_zero, Act.put, List.setIfInBounds_toArray, List.set_cons_zero, List.set_cons_succ]
                refine mixs_one 23 (by kernel_rfl) rfl (fun K hK => ?_)
                go_simp
                ( first | (go_at_call 20; (with_reducible refine (cA.out _).mono ?_); rintro _ w7 ⟨rfl, hk7⟩; have hS1 := hS.keepB hk7; clear hk7 hS; have hS := hS1; clear hS1) )
                try clear hC
                refine hK.out _ _ _ (fun _ h => h) (by first | exact hS | exact hS.drop | exact hS.drop.drop | exact hS.drop.drop.drop | exact hS.drop.drop.drop.drop | exact hS.empty | exact hS.one 0 rfl | exact hS.one 1 rfl | exact hS.one 2 rfl | exact hS.one 3 rfl | exact hS.one 4 rfl | exact hS.one 5 rfl | exact hS.one 6 rfl | exact hS.one 7 rfl | exact hS.one 8 rfl | exact hS.one 9 rfl | exact hS.one 10 rfl | exact hS.one 11 rfl) (fun hC => ?_)
                clear hK K
                try simp only [List.getElem_toArray, List.getElem_cons_succ, List.getElem_cons_zero, Act.put, List.setIfInBounds_toArray, List.set_cons_zero, List.set_cons_succ]
                refine mixs_take 24 (v := ?_) rfl (by kernel_rfl) (fun _ _ _ h => h) (by kernel_rfl) (by assumption) (fun s => ?hy) ?_; case hy => (go_simp <;> with_reducible rfl)
                try simp only [List.getElem_toArray, List.getElem_cons_succ, List.getElem_cons_zero, Act.put, List.setIfInBounds_toArray, List.set_cons_zero, List.set_cons_succ]
                refine mixs_take 25 (v := ?_) rfl (by kernel_rfl) (fun _ _ _ h => h) (by kernel_rfl) (by assumption) (fun s => ?hy) ?_; case hy => (go_simp <;> with_reducible rfl)
                try simp only [List.getElem_toArray, List.getElem_cons_succ, List.getElem_cons_zero, Act.put, List.setIfInBounds_toArray, List.set_cons_zero, List.set_cons_succ]
                refine wpAnyH_done (by kernel_rfl) ?_ _
                clear k1 k2 hs1 hs2
                go_wp2_with fail
                go_ret
                exact ⟨rfl, below_step hB1 hS.below⟩
              · have hnx2 := Lib.hid (hnx he)
                have heb : (xi == id0) = false := by rw [beq_eq_false_iff_ne]; exact he
                clear hhd hnx he
                go_wp2_with fail
                go_quiet (fail)
                have hS1 := hS.keep (Fr.drewN wr nq)
                clear hS
                have hS := hS1
                clear hS1 y0' z0' y0 y1
                go_wp2_with fail
                go_roundg (t.length - (i + 1))
                case measure => omega
                case rel => exact ⟨i + 1, by omega, by go_num, hnx2, hS⟩
            · have hi2 : i = t.length := by omega
              subst hi2
              have hs2 := hsub.out
              clear hr hhead hl1 hl8 z0 z1
              go_wp2_with (go_at_call 20; (with_reducible refine (cA.out _).mono ?_); rintro _ w7 ⟨rfl, hk7⟩; have hS1 := hS.keepB hk7; clear hk7 hS; have hS := hS1; clear hS1)
              go_ret
              exact ⟨rfl, below_step hB1 hS.below⟩
        | false =>
          have hd1 : (doneQ (q0 :: t) false).1 = notId (q0 :: t) q0.id := rfl
          have hd2 : (doneQ (q0 :: t) false).2 = ofId (q0 :: t) q0.id := rfl
          unfold DoneRet at cD
          rw [hd1, hd2] at cD
          have hl8 := hI2.f
          have hl12 := hI2.len
          clear hd1 hd2 hI hCh hI2
          have hv0 : (wrRow q0).toArray[0]? = some (.int .i64 q0.id) := rfl
          have hpos : 0 < (q0 :: t).length := by simp
          generalize wrRow q0 = RW at *
          generalize q0.id = id at *
          generalize q0 :: t = L at *
          have hA8 : ∀ q ∈ notId L id, q.p.f.length = 8 := fun q hq => hl8 q (List.mem_filter.1 hq).1
          have hB8 : ∀ q ∈ ofId L id, q.p.f.length = 8 := fun q hq => hl8 q (List.mem_filter.1 hq).1
          have pA := Go.Ofp.notId_at L id
          have pB := Go.Ofp.ofId_at L id
          have hAl := notId_len L id
          have hBl := ofId_len L id
          have hAend : notId (L.take L.length) id = notId L id := by rw [List.take_length]
          have hBend : ofId (L.take L.length) id = ofId L id := by rw [List.take_length]
          generalize notId L id = A at *
          generalize ofId L id = B at *
          replace cD := Lib.hid cD
          replace pA := Lib.hid pA
          replace pB := Lib.hid pB
          replace hl8 := Lib.hid hl8
          replace hA8 := Lib.hid hA8
          replace hB8 := Lib.hid hB8
          replace hAend := Lib.hid hAend
          replace hBend := Lib.hid hBend
          replace hq0 := Lib.hid hq0
          go_wp2_with (first | (go_at_call 22; (with_reducible refine cD.out.mono ?_); rintro _ w9 ⟨a1, c1, a2, c2, rfl, hl9, hg9, hk9⟩; have hS1 := hS.keepB hk9; have hB8' := hS1.below; have hr9 := range_old hS1 hr0; have hB9 := below_step hB0 hS1.below; clear hS hS1 hk9; have hS := St.start w9) | (with_reducible refine wpList_rangerow (n := 28) (range_old hS hr9) rfl rfl rfl (by kernel_rfl) (by kernel_rfl) q8 ?_) | (with_reducible refine wpList_alloc_st (L := []) hS rfl rfl ew ?_; intro b6 w1 hS1; clear hS; have hS := hS1; clear hS1) | ((with_reducible refine wpList_storerow_st (n := 28) (vs := RW) 0 hS rfl rfl rfl rfl (by kernel_rfl) rfl q8 q9 (by kernel_rfl) ?_); intro w1 hS1; clear hS; have hS := hS1; clear hS1; simp only [List.set_cons_zero, List.take_zero, List.nil_append, List.drop_succ_cons, List.drop_zero, List.drop_nil, List.append_nil] at hS))
          have z0 := (hS.cell 0 rfl 0).trans hv0
          have hA1 := Lib.hid (hl9.below hS.below)
          have hB1' := Lib.hid (hg9.below hS.below)
          have hq1 := Lib.hid ((hq0.out.below hB8').below hS.below)
          have hBw := below_step hB9 hS.below
          clear hS hr9 hr0 hl9 hg9 hB0 hB9 hv0 hB8' hq0
          have hS := St.start w1
          have hG := guard_wr
          go_loopg [13, 14, 15] L.length (fun gk va vb vx wr' => ∃ (i : Nat), i + gk = L.length ∧ vx = .int .i64 i ∧ va = .int .i64 ((ofId (L.take i) id).length : Nat) ∧ vb = .int .i64 ((notId (L.take i) id).length : Nat) ∧ St w1 [] [] wr')
          case atStart => exact ⟨0, Nat.zero_add _, rfl, rfl, rfl, hS⟩
          case round =>
            clear hS
            obtain ⟨i, hin, rfl, rfl, rfl, hS⟩ := hrel
            by_cases hlt2 : i < L.length
            · have q1 := qRow_at L hl8.out i hlt2
              have hrL := sl_range hq1.out.1 q1
              have y0 : w1.cell? ⟨b, o + i * 28, none⟩ = some (.int .i64 L[i].id) := hrL 0 _ rfl
              have y0' := hS.old y0 (by simp)
              have z0' := hS.old z0 (by simp)
              have x8 := wrRow_len L[i] (hl8.out _ (List.getElem_mem hlt2))
              have hE := fun W : World => neq_wr L[i] L[i] (hl8.out _ (List.getElem_mem hlt2)) (hl8.out _ (List.getElem_mem hlt2)) W
              simp only [decide_true, Bool.not_true] at hE
              have o1 := Go.Ofp.ofId_next L id i hlt2
              have o2 := Go.Ofp.notId_next L id i hlt2
              by_cases he : L[i].id = id
              · obtain ⟨h2, h3⟩ := pB.out i hlt2 he
                rw [if_pos he] at o1
                rw [if_pos he, List.append_nil] at o2
                have o3 : (ofId (L.take (i + 1)) id).length = (ofId (L.take i) id).length + 1 := by rw [o1]; simp
                have o4 : (notId (L.take (i + 1)) id).length = (notId (L.take i) id).length := by rw [o2]
                rw [he] at y0'
                have q2 := qRow_at B hB8.out _ h2
                rw [h3] at q2
                obtain ⟨g4, p4, ha⟩ := Sl.cells hB1'.out.1 (by intro e; have := congrArg List.length e; rw [qRow_len _ hB8.out] at this; simp at this; omega)
                subst ha
                have hrB := sl_range hB1'.out.1 q2
                clear q1 q2 h3 o1 o2 he y0
                have o3' := Lib.hid o3
                have o4' := Lib.hid o4
                clear o3 o4
                generalize (ofId (L.take i) id).length = av at *
                generalize (notId (L.take i) id).length = bv at *
                generalize wrRow L[i] = RX at *
                go_wp2_with fail
                go_quiet (fail)
                have hS1 := hS.keep (Fr.drewN wr nq)
                clear hS
                have hS := hS1
                clear hS1 y0' z0'
                have kX := hS.koldrow (P := Try.prog) hrB (t := 46) (by kernel_rfl) (n := 28) (by kernel_rfl) x8
                have kY := hS.koldrow (P := Try.prog) hrL (t := 46) (by kernel_rfl) (n := 28) (by kernel_rfl) x8
                have d1 : decide ((B.length : Int) ≤ (av : Int)) = false := decide_eq_false (by omega)
                have d2 : decide (B.length ≤ av) = false := decide_eq_false (by omega)
                go_wp2_with fail
                refine mixs_begin (by kernel_rfl) hS ?_
                clear hS
                intro w8 hS
                refine mixs_take 0 (v := ?_) rfl (by kernel_rfl) (fun _ _ _ h => h) (by kernel_rfl) (by assumption) (fun s => ?hy) ?_; case hy => (go_simp <;> with_reducible rfl)
                try simp only [List.getElem_toArray, List.getElem_cons_succ, List.getElem_cons_zero, Act.put, List.setIfInBounds_toArray, List.set_cons_zero, List.set_cons_succ]
                refine mixs_take 1 (v := ?_) rfl (by kernel_rfl) (fun _ _ _ h => h) (by kernel_rfl) (by assumption) (fun s => ?hy) ?_; case hy => (go_simp <;> with_reducible rfl)
                try simp only [List.getElem_toArray, List.getElem_cons_succ, List.getElem_cons_zero, Act.put, List.setIfInBounds_toArray, List.set_cons_zero, List.set_cons_succ]
                refine mixs_take 2 (v := ?_) rfl (by kernel_rfl) (fun _ _ _ h => h) (by kernel_rfl) (by assumption) (fun s => ?hy) ?_; case hy => (go_simp <;> with_reducible rfl)
                try simp only [List.getElem_toArray, List.getElem_cons_succ, List.getElem_cons_zero, Act.put, List.setIfInBounds_toArray, List.set_cons_zero, List.set_cons_succ]
                refine mixs_take 3 (v := ?_) rfl (by kernel_rfl) (fun _ _ _ h => h) (by kernel_rfl) (by assumption) (fun s => ?hy) ?_; case hy => (go_simp <;> with_reducible rfl)
                try simp only [List.getElem_toArray, List.getElem_cons_succ, List.getElem_cons_zero, Act.put, List.setIfInBounds_toArray, List.set_cons_zero, List.set_cons_succ]
                refine mixs_take 4 (v := ?_) rfl (by kernel_rfl) (fun _ _ _ h => h) (by kernel_rfl) (by assumption) (fun s => ?hy) ?_; case hy => (go_simp <;> with_reducible rfl)
                try simp only [List.getElem_toArray, List.getElem_cons_succ, List.getElem_cons_zero, Act.put, List.setIfInBounds_toArray, List.set_cons_zero, List.set_cons_succ]
                refine mixs_take 5 (v := ?_) rfl (by kernel_rfl) (fun _ _ _ h => h) (by kernel_rfl) (by assumption) (fun s => ?hy) ?_; case hy => (go_simp <;> with_reducible rfl)
                try simp only [List.getElem_toArray, List.getElem_cons_succ, List.getElem_cons_zero, Act.put, List.setIfInBounds_toArray, List.set_cons_zero, List.set_cons_succ]
                refine mixs_take 6 (v := ?_) rfl (by kernel_rfl) (fun _ _ _ h => h) (by kernel_rfl) (by assumption) (fun s => ?hy) ?_; case hy => (go_simp <;> with_reducible rfl)
                try simp only [List.getElem_toArray, List.getElem_cons_succ, List.getElem_cons_zero, Act.put, List.setIfInBounds_toArray, List.set_cons_zero, List.set_cons_succ]
                refine mixs_take 7 (v := ?_) rfl (by kernel_rfl) (fun _ _ _ h => h) (by kernel_rfl) (by assumption) (fun s => ?hy) ?_; case hy => (go_simp <;> with_reducible rfl)
                try simp only [List.getElem_toArray, List.getElem_cons_succ, List.getElem_cons_zero, Act.put, List.setIfInBounds_toArray, List.set_cons_zero, List.set_cons_succ]
                refine mixs_take 8 (v := ?_) rfl (by kernel_rfl) (fun _ _ _ h => h) (by kernel_rfl) (by assumption) (fun s => ?hy) ?_; case hy => (refine Eq.trans (take_loadrow s rfl rfl kX) ?_; with_reducible rfl)
                try simp only [List.getElem_toArray, List.getElem_cons_succ, List.getElem_cons_zero, Act.put, List.setIfInBounds_toArray, List.set_cons_zero, List.set_cons_succ]
                refine mixs_take 9 (v := ?_) rfl (by kernel_rfl) (fun _ _ _ h => h) (by kernel_rfl) (by assumption) (fun s => ?hy) ?_; case hy => (go_simp <;> with_reducible rfl)
                try simp only [List.getElem_toArray, List.getElem_cons_succ, List.getElem_cons_zero, Act.put, List.setIfInBounds_toArray, List.set_cons_zero, List.set_cons_succ]
                refine mixs_take 10 (v := ?_) rfl (by kernel_rfl) (fun _ _ _ h => h) (by kernel_rfl) (by assumption) (fun s => ?hy) ?_; case hy => (go_simp <;> with_reducible rfl)
                try simp only [List.getElem_toArray, List.getElem_cons_succ, List.getElem_cons_zero, Act.put, List.setIfInBounds_toArray, List.set_cons_zero, List.set_cons_succ]
                refine mixs_take 11 (v := ?_) rfl (by kernel_rfl) (fun _ _ _ h => h) (by kernel_rfl) (by assumption) (fun s => ?hy) ?_; case hy => (go_simp <;> with_reducible rfl)
                try simp only [List.getElem_toArray, List.getElem_cons_succ, List.getElem_cons_zero, Act.put, List.setIfInBounds_toArray, List.set_cons_zero, List.set_cons_succ]
                refine mixs_take 12 (v := ?_) rfl (by kernel_rfl) (fun _ _ _ h => h) (by kernel_rfl) (by assumption) (fun s => ?hy) ?_; case hy => (refine Eq.trans (take_loadrow s rfl rfl kY) ?_; with_reducible rfl)
                try simp only [List.getElem_toArray, List.getElem_cons_succ, List.getElem_cons_zero, Act.put, List.setIfInBounds_toArray, List.set_cons_zero, List.set_cons_succ]
                refine mixs_take 13 (v := ?_) rfl (by kernel_rfl) (fun _ _ _ h => h) (by kernel_rfl) (by assumption) (fun s => ?hy) ?_; case hy => (go_simp <;> with_reducible rfl)
                try simp only [List.getElem_toArray, List.getElem_cons_succ, List.getElem_cons_zero, Act.put, List.setIfInBounds_toArray, List.set_cons_zero, List.set_cons_succ]
                refine mixs_take 14 (v := ?_) rfl (by kernel_rfl) (fun _ _ _ h => h) (by kernel_rfl) (by assumption) (fun s => ?hy) ?_; case hy => (go_simp <;> with_reducible rfl)
                try simp only [List.getElem_toArray, List.getElem_cons_succ, List.getElem_cons_zero, Act.put, List.setIfInBounds_toArray, List.set_cons_zero, List.set_cons_succ]
                refine wpAnyH_done (by kernel_rfl) ?_ _
                clear kX kY
                go_wp2_with fail
                go_roundg (L.length - (i + 1))
                case measure => omega
                case rel => exact ⟨i + 1, by omega, by go_num, by rw [o3'.out]; go_num, by rw [o4'.out], hS⟩
              · obtain ⟨h2, h3⟩ := pA.out i hlt2 he
                rw [if_neg he, List.append_nil] at o1
                rw [if_neg he] at o2
                have o3 : (ofId (L.take (i + 1)) id).length = (ofId (L.take i) id).length := by rw [o1]
                have o4 : (notId (L.take (i + 1)) id).length = (notId (L.take i) id).length + 1 := by rw [o2]; simp
                have heb : (L[i].id == id) = false := by rw [beq_eq_false_iff_ne]; exact he
                have q2 := qRow_at A hA8.out _ h2
                rw [h3] at q2
                obtain ⟨g4, p4, ha⟩ := Sl.cells hA1.out.1 (by intro e; have := congrArg List.length e; rw [qRow_len _ hA8.out] at this; simp at this; omega)
                subst ha
                have hrB := sl_range hA1.out.1 q2
                clear q1 q2 h3 o1 o2 he y0
                have o3' := Lib.hid o3
                have o4' := Lib.hid o4
                clear o3 o4
                generalize (ofId (L.take i) id).length = av at *
                generalize (notId (L.take i) id).length = bv at *
                generalize wrRow L[i] = RX at *
                generalize L[i].id = lid at *
                go_wp2_with fail
                go_quiet (fail)
                have hS1 := hS.keep (Fr.drewN wr nq)
                clear hS
                have hS := hS1
                clear hS1 y0' z0'
                have kX := hS.koldrow (P := Try.prog) hrB (t := 46) (by kernel_rfl) (n := 28) (by kernel_rfl) x8
                have kY := hS.koldrow (P := Try.prog) hrL (t := 46) (by kernel_rfl) (n := 28) (by kernel_rfl) x8
                have d1 : decide ((A.length : Int) ≤ (bv : Int)) = false := decide_eq_false (by omega)
                have d2 : decide (A.length ≤ bv) = false := decide_eq_false (by omega)
                go_wp2_with fail
                refine mixs_begin (by kernel_rfl) hS ?_
                clear hS
                intro w8 hS
                refine mixs_take 0 (v := ?_) rfl (by kernel_rfl) (fun _ _ _ h => h) (by kernel_rfl) (by assumption) (fun s => ?hy) ?_; case hy => (go_simp <;> with_reducible rfl)
                try simp only [List.getElem_toArray, List.getElem_cons_succ, List.getElem_cons_zero, Act.put, List.setIfInBounds_toArray, List.set_cons_zero, List.set_cons_succ]
                refine mixs_take 1 (v := ?_) rfl (by kernel_rfl) (fun _ _ _ h => h) (by kernel_rfl) (by assumption) (fun s => ?hy) ?_; case hy => (go_simp <;> with_reducible rfl)
                try simp only [List.getElem_toArray, List.getElem_cons_succ, List.getElem_cons_zero, Act.put, List.setIfInBounds_toArray, List.set_cons_zero, List.set_cons_succ]
                refine mixs_take 2 (v := ?_) rfl (by kernel_rfl) (fun _ _ _ h => h) (by kernel_rfl) (by assumption) (fun s => ?hy) ?_; case hy => (go_simp <;> with_reducible rfl)
                try simp only [List.getElem_toArray, List.getElem_cons_succ, List.getElem_cons_zero, Act.put, List.setIfInBounds_toArray, List.set_cons_zero, List.set_cons_succ]
                refine mixs_take 3 (v := ?_) rfl (by kernel_rfl) (fun _ _ _ h => h) (by kernel_rfl) (by assumption) (fun s => ?hy) ?_; case hy => (go_simp <;> with_reducible rfl)
                try simp only [List.getElem_toArray, List.getElem_cons_succ, List.getElem_cons_zero, Act.put, List.setIfInBounds_toArray, List.set_cons_zero, List.set_cons_succ]
                refine mixs_take 4 (v := ?_) rfl (by kernel_rfl) (fun _ _ _ h => h) (by kernel_rfl) (by assumption) (fun s => ?hy) ?_; case hy => (go_simp <;> with_reducible rfl)
                try simp only [List.getElem_toArray, List.getElem_cons_succ, List.getElem_cons_zero, Act.put, List.setIfInBounds_toArray, List.set_cons_zero, List.set_cons_succ]
                refine mixs_take 5 (v := ?_) rfl (by kernel_rfl) (fun _ _ _ h => h) (by kernel_rfl) (by assumption) (fun s => ?hy) ?_; case hy => (go_simp <;> with_reducible rfl)
                try simp only [List.getElem_toArray, List.getElem_cons_succ, List.getElem_cons_zero, Act.put, List.setIfInBounds_toArray, List.set_cons_zero, List.set_cons_succ]
                refine mixs_take 6 (v := ?_) rfl (by kernel_rfl) (fun _ _ _ h => h) (by kernel_rfl) (by assumption) (fun s => ?hy) ?_; case hy => (go_simp <;> with_reducible rfl)
                try simp only [List.getElem_toArray, List.getElem_cons_succ, List.getElem_cons_zero, Act.put, List.setIfInBounds_toArray, List.set_cons_zero, List.set_cons_succ]
                refine mixs_take 7 (v := ?_) rfl (by kernel_rfl) (fun _ _ _ h => h) (by kernel_rfl) (by assumption) (fun s => ?hy) ?_; case hy => (go_simp <;> with_reducible rfl)
                try simp only [List.getElem_toArray, List.getElem_cons_succ, List.getElem_cons_zero, Act.put, List.setIfInBounds_toArray, List.set_cons_zero, List.set_cons_succ]
                refine mixs_take 8 (v := ?_) rfl (by kernel_rfl) (fun _ _ _ h => h) (by kernel_rfl) (by assumption) (fun s => ?hy) ?_; case hy => (refine Eq.trans (take_loadrow s rfl rfl kX) ?_; with_reducible rfl)
                try simp only [List.getElem_toArray, List.getElem_cons_succ, List.getElem_cons_zero, Act.put, List.setIfInBounds_toArray, List.set_cons_zero, List.set_cons_succ]
                refine mixs_take 9 (v := ?_) rfl (by kernel_rfl) (fun _ _ _ h => h) (by kernel_rfl) (by assumption) (fun s => ?hy) ?_; case hy => (go_simp <;> with_reducible rfl)
                try simp only [List.getElem_toArray, List.getElem_cons_succ, List.getElem_cons_zero, Act.put, List.setIfInBounds_toArray, List.set_cons_zero, List.set_cons_succ]
                refine mixs_take 10 (v := ?_) rfl (by kernel_rfl) (fun _ _ _ h => h) (by kernel_rfl) (by assumption) (fun s => ?hy) ?_; case hy => (go_simp <;> with_reducible rfl)
                try simp only [List.getElem_toArray, List.getElem_cons_succ, List.getElem_cons_zero, Act.put, List.setIfInBounds_toArray, List.set_cons_zero, List.set_cons_succ]
                refine mixs_take 11 (v := ?_) rfl (by kernel_rfl) (fun _ _ _ h => h) (by kernel_rfl) (by assumption) (fun s => ?hy) ?_; case hy => (go_simp <;> with_reducible rfl)
                try simp only [List.getElem_toArray, List.getElem_cons_succ, List.getElem_cons_zero, Act.put, List.setIfInBounds_toArray, List.set_cons_zero, List.set_cons_succ]
                refine mixs_take 12 (v := ?_) rfl (by kernel_rfl) (fun _ _ _ h => h) (by kernel_rfl) (by assumption) (fun s => ?hy) ?_; case hy => (refine Eq.trans (take_loadrow s rfl rfl kY) ?_; with_reducible rfl)
                try simp only [List.getElem_toArray, List.getElem_cons_succ, List.getElem_cons_zero, Act.put, List.setIfInBounds_toArray, List.set_cons_zero, List.set_cons_succ]
                refine mixs_take 13 (v := ?_) rfl (by kernel_rfl) (fun _ _ _ h => h) (by kernel_rfl) (by assumption) (fun s => ?hy) ?_; case hy => (go_simp <;> with_reducible rfl)
                try simp only [List.getElem_toArray, List.getElem_cons_succ, List.getElem_cons_zero, Act.put, List.setIfInBounds_toArray, List.set_cons_zero, List.set_cons_succ]
                refine mixs_take 14 (v := ?_) rfl (by kernel_rfl) (fun _ _ _ h => h) (by kernel_rfl) (by assumption) (fun s => ?hy) ?_; case hy => (go_simp <;> with_reducible rfl)
                try simp only [List.getElem_toArray, List.getElem_cons_succ, List.getElem_cons_zero, Act.put, List.setIfInBounds_toArray, List.set_cons_zero, List.set_cons_succ]
                refine wpAnyH_done (by kernel_rfl) ?_ _
                clear kX kY
                go_wp2_with fail
                go_roundg (L.length - (i + 1))
                case measure => omega
                case rel => exact ⟨i + 1, by omega, by go_num, by rw [o3'.out], by rw [o4'.out]; go_num, hS⟩
            · have hi2 : i = L.length := by omega
              subst hi2
              rw [hAend.out, hBend.out]
              clear pA pB hA1 hB1' hq1 z0 hG
              go_wp2_with (go_at_call 20; (with_reducible refine (cA.out _).mono ?_); rintro _ w7 ⟨rfl, hk7⟩; have hS1 := hS.keepB hk7; clear hk7 hS; have hS := hS1; clear hS1)
              go_ret
              exact ⟨rfl, below_step hBw hS.below⟩
end Go.Proofs.Ytplgpbbghhlbjaa
end

section
/- The law QueueChains: all cases. -/
set_option linter.unusedSimpArgs false
set_option linter.unusedVariables false
namespace Go.Proofs.Ytplgpbbghhlbjaa
open Go.RowKit Go.Ofp
set_option linter.unusedVariables false
set_option maxRecDepth 100000
set_option maxHeartbeats 4000000
theorem chains44_any (l : List QAc) (a : Option Addr) (n cap : Nat) (ok : Bool) (w : World) (hQ : QAcs w a n cap l) :
    Calls Try.prog 4 #[.slice a n cap, .bool ok] w fun e w' => e = .returned (.bool true) ∧ Below w.heap.size w w' := by
  cases hsk : skipQ l with
  | false => exact chains44_main l a n cap ok w hQ hsk
  | true =>
    have hS := St.start w
    have cK := fun (W : World) (hb : Below w.heap.size w W) => skip44_any l a n cap W (hQ.below2 hb)
    rw [hsk] at cK
    have cA := fun W : World => awake44_any W
    replace cK := Lib.hid cK
    replace cA := Lib.hid cA
    clear hQ hsk
    go_enter Try.func4, Try.ntmps4
    go_wp2_with (first
      | (go_at_call 19; (with_reducible refine (cK.out _ hS.below).mono ?_); rintro _ w9 ⟨rfl, hk9⟩; have hS1 := hS.keepB hk9; clear hk9 hS; have hS := hS1; clear hS1)
      | (go_at_call 20; (with_reducible refine (cA.out _).mono ?_); rintro _ w7 ⟨rfl, hk7⟩; have hS1 := hS.keepB hk7; clear hk7 hS; have hS := hS1; clear hS1))
    go_ret
    exact ⟨rfl, hS.below⟩
end Go.Proofs.Ytplgpbbghhlbjaa
end
