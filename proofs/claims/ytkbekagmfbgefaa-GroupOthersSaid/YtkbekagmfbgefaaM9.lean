import Derived.Test.YtkbekagmfbgefaaM8
set_option linter.unusedVariables false
set_option linter.unusedSimpArgs false
set_option maxRecDepth 100000
section
namespace Go.Ofp
open Go.RowKit
section
variable {P : Program} {w w0 : World} {F : List Nat} {L : List Ch} {ops : Array Oper} {rest : List Oper} {o : Oper} {a : Act} {Q : Exit → Act → World → Prop} {K : Act → World → Prop}
theorem op_build0_st (hw : Region.wanted o (yielded ops a.tmps) = true) (hS : St w0 F L w) {t : TypeId} (ho : o.op = .buildSlice t 0 #[]) {e : TypeId} (ht : P.underlying t = some (.slice e)) {z : Value} {size bytes : Nat} (he : Elem P e z size bytes)
    (h : ∀ g w', St w0 F (Ch.row e size (.slice (some ⟨g, 0, none⟩) 0 0) 0 [] :: L) w' → K (a.put o.dst (.slice (some ⟨g, 0, none⟩) 0 0)) w') : if Region.wanted o (yielded ops a.tmps) = true then Oper.wp P o a w K Q else K (a.put o.dst undef) w := by
  rw [if_pos hw]
  have hr := run_build0 (P := P) w t e ht he
  unfold Oper.wp execOp
  simp only [ho, List.map_toArray, List.map_nil, Sem.run_bind, hr, Result.andThen_ok, Sem.run_pure]
  exact h _ _ (hS.build0 e size)
end
end Go.Ofp
namespace Go.Proofs.Ytkbekagmfbgefaa
open Go.RowKit Go.Ofp
set_option maxHeartbeats 4000000
theorem rgcheck_any (a : Option Addr) (gs : List Gr) (n cap : Nat) (w : World) (hD : Deep w a n cap gs) (hm : n ≤ 100000) :
    Calls Try.prog 7 #[.slice a n cap] w fun e w' => e = .returned (.bool (chkK (keys gs))) ∧ Below w.heap.size w w' := by
  have hS := St.start w
  have hlen := Lib.hid hD.len
  have hget := Lib.hid hD.get
  have hM := Lib.hid (fun j (hj : j < gs.length) => hD.mem gs[j] (List.getElem_mem hj))
  clear hD
  go_enter Try.func7, Try.ntmps7
  go_wp2_with fail
  go_loopg [3] n (fun gk vx wr => ∃ j : Nat, j + gk = n ∧ vx = .int .i64 j ∧ Hid (chkK ((keys gs).take j) = true) ∧ St w [] [] wr)
  case atStart => exact ⟨0, Nat.zero_add _, rfl, Lib.hid rfl, hS⟩
  case round =>
    clear hS
    obtain ⟨j, hj, rfl, hr, hS⟩ := hrel
    by_cases hlt : j < n
    · have hjg : j < gs.length := by rw [hlen.out]; exact hlt
      have hjk : j < (keys gs).length := by simpa [keys] using hjg
      obtain ⟨b, off, rfl, c0, c1⟩ := hget.out j hjg
      have hMj := hM.out j hjg
      have t1 : (keys gs).take (j + 1) = (keys gs).take j ++ [gs[j].key] := by rw [List.take_succ_eq_append_getElem hjk]; simp [keys]
      have hsn := chkK_snoc ((keys gs).take j) gs[j].no gs[j].mem
      have t2 : (keys gs).take j ++ [(gs[j].no, gs[j].mem)] = (keys gs).take (j + 1) := by rw [t1]; rfl
      rw [t2, hr.out, Bool.true_and] at hsn
      have hno : chkK ((keys gs).take (j + 1)) = false → chkK (keys gs) = false := fun e => by
        cases h : chkK (keys gs) with
        | false => rfl
        | true => rw [chkK_take (keys gs) (j + 1) h] at e; cases e
      have hl0 := lastNo_ge _ hr.out
      clear t1 t2
      generalize gs[j] = x at c0 c1 hMj hsn
      have cC := fun W h => rcheck_any x.a x.mem x.mem.length x.c W h rfl (Nat.le_trans hMj.le hMj.cm)
      have hsl := Lib.hid (fun W (h : St w [] [] W) => h.sl hMj.sl)
      have k0 := hS.kold0 c0
      have k1 := hS.kold0 c1
      clear hMj c0 c1
      obtain ⟨xn, xa, xc, xm⟩ := x
      simp only at *
      generalize hcx : Ids.chk xm = cx at cC hsn
      generalize xm.length = l1 at *
      clear hcx
      replace cC := Lib.hid cC
      rcases Nat.eq_zero_or_pos j with rfl | hpos
      ·
        have hz : lastNo ((keys gs).take 0) = -1 := rfl
        rw [hz] at hsn
        clear hl0 hz
        simp only [Nat.zero_mul, Nat.add_zero] at k0 k1
        by_cases h1 : xn < 0
        · have e1 := Lib.hid (show chkK (keys gs) = false from hno (by rw [hsn, decide_eq_false (by omega)]; rfl))
          clear hno hsn
          go_wp2_with fail
          refine mixs_begin (by kernel_rfl) hS ?_
          clear hS
          intro w2 hS
          refine tk 0 ?_
          refine tk 1 ?_
          refine tk 2 ?_
          refine tk 3 ?_
          refine tk 4 ?_
          refine tk 5 ?_
          refine tk 6 ?_
          refine sk 7 ?_
          refine sk 8 ?_
          refine sk 9 ?_
          refine sk 10 ?_
          refine sk 11 ?_
          refine sk 12 ?_
          refine tk 13 ?_
          refine tk 14 ?_
          refine sk 15 ?_
          refine sk 16 ?_
          refine sk 17 ?_
          refine sk 18 ?_
          refine sk 19 ?_
          refine sk 20 ?_
          refine sk 21 ?_
          refine sk 22 ?_
          refine sk 23 ?_
          refine sk 24 ?_
          refine sk 25 ?_
          refine sk 26 ?_
          refine sk 27 ?_
          refine sk 28 ?_
          refine sk 29 ?_
          refine sk 30 ?_
          refine tk 31 ?_
          refine tk 32 ?_
          refine sk 33 ?_
          refine sk 34 ?_
          refine sk 35 ?_
          refine sk 36 ?_
          refine sk 37 ?_
          refine sk 38 ?_
          refine sk 39 ?_
          refine tk 40 ?_
          refine wpAnyH_done (by kernel_rfl) ?_ _
          clear k0 k1
          go_wp2_with fail
          go_ret
          exact ⟨by rw [e1.out]; rfl, hS.below⟩
        · have d1 : decide (xn < 0) = false := decide_eq_false h1
          by_cases h2 : 16 ≤ xn
          · have e1 := Lib.hid (show chkK (keys gs) = false from hno (by rw [hsn, decide_eq_false (p := xn < 16) (by omega), Bool.false_and, Bool.and_false]))
            clear hno hsn h1
            go_wp2_with fail
            refine mixs_begin (by kernel_rfl) hS ?_
            clear hS
            intro w2 hS
            refine tk 0 ?_
            refine tk 1 ?_
            refine tk 2 ?_
            refine tk 3 ?_
            refine tk 4 ?_
            refine tk 5 ?_
            refine tk 6 ?_
            refine tk 7 ?_
            refine tk 8 ?_
            refine tk 9 ?_
            refine tk 10 ?_
            refine tk 11 ?_
            refine tk 12 ?_
            refine tk 13 ?_
            refine tk 14 ?_
            refine sk 15 ?_
            refine sk 16 ?_
            refine sk 17 ?_
            refine sk 18 ?_
            refine sk 19 ?_
            refine sk 20 ?_
            refine sk 21 ?_
            refine sk 22 ?_
            refine sk 23 ?_
            refine sk 24 ?_
            refine sk 25 ?_
            refine sk 26 ?_
            refine sk 27 ?_
            refine sk 28 ?_
            refine sk 29 ?_
            refine sk 30 ?_
            refine tk 31 ?_
            refine tk 32 ?_
            refine sk 33 ?_
            refine sk 34 ?_
            refine sk 35 ?_
            refine sk 36 ?_
            refine sk 37 ?_
            refine sk 38 ?_
            refine sk 39 ?_
            refine tk 40 ?_
            refine wpAnyH_done (by kernel_rfl) ?_ _
            clear k0 k1
            go_wp2_with fail
            go_ret
            exact ⟨by rw [e1.out]; rfl, hS.below⟩
          · have d2 : decide (16 ≤ xn) = false := decide_eq_false h2
            cases cx with
            | false =>
              have e1 := Lib.hid (show chkK (keys gs) = false from hno (by rw [hsn]; simp))
              clear hno hsn h1 h2
              go_wp2_with fail
              refine mixs_begin (by kernel_rfl) hS ?_
              clear hS
              intro w2 hS
              refine tk 0 ?_
              refine tk 1 ?_
              refine tk 2 ?_
              refine tk 3 ?_
              refine tk 4 ?_
              refine tk 5 ?_
              refine tk 6 ?_
              refine tk 7 ?_
              refine tk 8 ?_
              refine tk 9 ?_
              refine tk 10 ?_
              refine tk 11 ?_
              refine tk 12 ?_
              refine tk 13 ?_
              refine tk 14 ?_
              refine tk 15 ?_
              refine tk 16 ?_
              refine tk 17 ?_
              refine sk 18 ?_
              refine sk 19 ?_
              refine sk 20 ?_
              refine sk 21 ?_
              refine sk 22 ?_
              refine sk 23 ?_
              refine sk 24 ?_
              refine sk 25 ?_
              refine sk 26 ?_
              refine sk 27 ?_
              refine sk 28 ?_
              refine sk 29 ?_
              refine tk 30 ?_
              refine tk 31 ?_
              refine tk 32 ?_
              refine tk 33 ?_
              refine tk 34 ?_
              refine tk 35 ?_
              refine tk 36 ?_
              refine tk 37 ?_
              refine mixs_one 38 (by kernel_rfl) rfl (fun K hK => ?_)
              go_simp
              ( (go_at_call 30; (with_reducible refine (cC.out _ (hsl.out _ hS.empty)).mono ?_); rintro _ w3 ⟨rfl, hb3⟩; have hS1 := hS.keepB hb3; clear hb3 hS; have hS := hS1; clear hS1) )
              try clear hC
              refine cl hK (fun hC => ?_)
              clear hK K
              refine tk 39 ?_
              refine tk 40 ?_
              refine wpAnyH_done (by kernel_rfl) ?_ _
              clear k0 k1
              go_wp2_with fail
              go_ret
              exact ⟨by rw [e1.out]; rfl, hS.below⟩
            | true =>
              have e1 := Lib.hid (show chkK ((keys gs).take (0 + 1)) = true by rw [hsn, decide_eq_true (by omega), decide_eq_true (by omega)]; rfl)
              clear hno hsn h1 h2
              go_wp2_with fail
              refine mixs_begin (by kernel_rfl) hS ?_
              clear hS
              intro w2 hS
              refine tk 0 ?_
              refine tk 1 ?_
              refine tk 2 ?_
              refine tk 3 ?_
              refine tk 4 ?_
              refine tk 5 ?_
              refine tk 6 ?_
              refine tk 7 ?_
              refine tk 8 ?_
              refine tk 9 ?_
              refine tk 10 ?_
              refine tk 11 ?_
              refine tk 12 ?_
              refine tk 13 ?_
              refine tk 14 ?_
              refine tk 15 ?_
              refine tk 16 ?_
              refine tk 17 ?_
              refine sk 18 ?_
              refine sk 19 ?_
              refine sk 20 ?_
              refine sk 21 ?_
              refine sk 22 ?_
              refine sk 23 ?_
              refine sk 24 ?_
              refine sk 25 ?_
              refine sk 26 ?_
              refine sk 27 ?_
              refine sk 28 ?_
              refine sk 29 ?_
              refine tk 30 ?_
              refine tk 31 ?_
              refine tk 32 ?_
              refine tk 33 ?_
              refine tk 34 ?_
              refine tk 35 ?_
              refine tk 36 ?_
              refine tk 37 ?_
              refine mixs_one 38 (by kernel_rfl) rfl (fun K hK => ?_)
              go_simp
              ( (go_at_call 30; (with_reducible refine (cC.out _ (hsl.out _ hS.empty)).mono ?_); rintro _ w3 ⟨rfl, hb3⟩; have hS1 := hS.keepB hb3; clear hb3 hS; have hS := hS1; clear hS1) )
              try clear hC
              refine cl hK (fun hC => ?_)
              clear hK K
              refine tk 39 ?_
              refine tk 40 ?_
              refine wpAnyH_done (by kernel_rfl) ?_ _
              clear k0 k1
              go_wp2_with fail
              go_roundg (n - (0 + 1))
              case measure => omega
              case rel => exact ⟨0 + 1, by omega, by go_num, e1, hS⟩
      ·
        obtain ⟨i, hi⟩ : ∃ i, j = i + 1 := ⟨j - 1, by omega⟩
        have hin : i < n := by omega
        have hig : i < gs.length := by omega
        have hpi : (0 : Int) < (j : Int) := by omega
        obtain ⟨b2, o2, e2, c2, -⟩ := hget.out i hig
        cases e2
        have hln : lastNo ((keys gs).take j) = gs[i].no := by
          rw [hi, lastNo_take (keys gs) i (by simpa [keys] using hig)]
          simp [keys, Gr.key]
        rw [hln] at hsn hl0
        have k2 := hS.kold0 c2
        generalize gs[i].no = y at c2 k2 hsn hl0
        have hsub : IntKind.i64.wrap ((j : Int) - 1) = (i : Int) := by rw [IntWalk.i64_in _ (by omega)]; omega
        clear c2 hln
        replace hi := Lib.hid hi
        by_cases h1 : xn < 0
        · have e1 := Lib.hid (show chkK (keys gs) = false from hno (by rw [hsn, decide_eq_false (by omega)]; rfl))
          clear hno hsn
          go_wp2_with fail
          refine mixs_begin (by kernel_rfl) hS ?_
          clear hS
          intro w2 hS
          refine tk 0 ?_
          refine tk 1 ?_
          refine tk 2 ?_
          refine tk 3 ?_
          refine tk 4 ?_
          refine tk 5 ?_
          refine tk 6 ?_
          refine sk 7 ?_
          refine sk 8 ?_
          refine sk 9 ?_
          refine sk 10 ?_
          refine sk 11 ?_
          refine sk 12 ?_
          refine tk 13 ?_
          refine tk 14 ?_
          refine sk 15 ?_
          refine sk 16 ?_
          refine sk 17 ?_
          refine sk 18 ?_
          refine sk 19 ?_
          refine sk 20 ?_
          refine sk 21 ?_
          refine sk 22 ?_
          refine sk 23 ?_
          refine sk 24 ?_
          refine sk 25 ?_
          refine sk 26 ?_
          refine sk 27 ?_
          refine sk 28 ?_
          refine sk 29 ?_
          refine sk 30 ?_
          refine tk 31 ?_
          refine tk 32 ?_
          refine sk 33 ?_
          refine sk 34 ?_
          refine sk 35 ?_
          refine sk 36 ?_
          refine sk 37 ?_
          refine sk 38 ?_
          refine sk 39 ?_
          refine tk 40 ?_
          refine wpAnyH_done (by kernel_rfl) ?_ _
          clear k0 k1 k2 hsub
          go_wp2_with fail
          go_ret
          exact ⟨by rw [e1.out]; rfl, hS.below⟩
        · have d1 : decide (xn < 0) = false := decide_eq_false h1
          by_cases h2 : 16 ≤ xn
          · have e1 := Lib.hid (show chkK (keys gs) = false from hno (by rw [hsn, decide_eq_false (p := xn < 16) (by omega), Bool.false_and, Bool.and_false]))
            clear hno hsn h1
            go_wp2_with fail
            refine mixs_begin (by kernel_rfl) hS ?_
            clear hS
            intro w2 hS
            refine tk 0 ?_
            refine tk 1 ?_
            refine tk 2 ?_
            refine tk 3 ?_
            refine tk 4 ?_
            refine tk 5 ?_
            refine tk 6 ?_
            refine tk 7 ?_
            refine tk 8 ?_
            refine tk 9 ?_
            refine tk 10 ?_
            refine tk 11 ?_
            refine tk 12 ?_
            refine tk 13 ?_
            refine tk 14 ?_
            refine sk 15 ?_
            refine sk 16 ?_
            refine sk 17 ?_
            refine sk 18 ?_
            refine sk 19 ?_
            refine sk 20 ?_
            refine sk 21 ?_
            refine sk 22 ?_
            refine sk 23 ?_
            refine sk 24 ?_
            refine sk 25 ?_
            refine sk 26 ?_
            refine sk 27 ?_
            refine sk 28 ?_
            refine sk 29 ?_
            refine sk 30 ?_
            refine tk 31 ?_
            refine tk 32 ?_
            refine sk 33 ?_
            refine sk 34 ?_
            refine sk 35 ?_
            refine sk 36 ?_
            refine sk 37 ?_
            refine sk 38 ?_
            refine sk 39 ?_
            refine tk 40 ?_
            refine wpAnyH_done (by kernel_rfl) ?_ _
            clear k0 k1 k2 hsub
            go_wp2_with fail
            go_ret
            exact ⟨by rw [e1.out]; rfl, hS.below⟩
          · have d2 : decide (16 ≤ xn) = false := decide_eq_false h2
            by_cases h3 : xn ≤ y
            · have e1 := Lib.hid (show chkK (keys gs) = false from hno (by rw [hsn, decide_eq_false (p := y < xn) (by omega)]; rfl))
              clear hno hsn h1 h2
              go_wp2_with fail
              refine mixs_begin (by kernel_rfl) hS ?_
              clear hS
              intro w2 hS
              refine tk 0 ?_
              refine tk 1 ?_
              refine tk 2 ?_
              refine tk 3 ?_
              refine tk 4 ?_
              refine tk 5 ?_
              refine tk 6 ?_
              refine tk 7 ?_
              refine tk 8 ?_
              refine tk 9 ?_
              refine tk 10 ?_
              refine tk 11 ?_
              refine tk 12 ?_
              refine tk 13 ?_
              refine tk 14 ?_
              refine tk 15 ?_
              refine tk 16 ?_
              refine tk 17 ?_
              refine tk 18 ?_
              refine tk 19 ?_
              refine tk 20 ?_
              refine tk 21 ?_
              refine tk 22 ?_
              refine tk 23 ?_
              refine tk 24 ?_
              refine tk 25 ?_
              refine tk 26 ?_
              refine tk 27 ?_
              refine tk 28 ?_
              refine tk 29 ?_
              refine tk 30 ?_
              refine tk 31 ?_
              refine tk 32 ?_
              refine sk 33 ?_
              refine sk 34 ?_
              refine sk 35 ?_
              refine sk 36 ?_
              refine sk 37 ?_
              refine sk 38 ?_
              refine sk 39 ?_
              refine tk 40 ?_
              refine wpAnyH_done (by kernel_rfl) ?_ _
              clear k0 k1 k2 hsub
              go_wp2_with fail
              go_ret
              exact ⟨by rw [e1.out]; rfl, hS.below⟩
            · have d3 : decide (xn ≤ y) = false := decide_eq_false h3
              cases cx with
              | false =>
                have e1 := Lib.hid (show chkK (keys gs) = false from hno (by rw [hsn]; simp))
                clear hno hsn h1 h2
                go_wp2_with fail
                refine mixs_begin (by kernel_rfl) hS ?_
                clear hS
                intro w2 hS
                refine tk 0 ?_
                refine tk 1 ?_
                refine tk 2 ?_
                refine tk 3 ?_
                refine tk 4 ?_
                refine tk 5 ?_
                refine tk 6 ?_
                refine tk 7 ?_
                refine tk 8 ?_
                refine tk 9 ?_
                refine tk 10 ?_
                refine tk 11 ?_
                refine tk 12 ?_
                refine tk 13 ?_
                refine tk 14 ?_
                refine tk 15 ?_
                refine tk 16 ?_
                refine tk 17 ?_
                refine tk 18 ?_
                refine tk 19 ?_
                refine tk 20 ?_
                refine tk 21 ?_
                refine tk 22 ?_
                refine tk 23 ?_
                refine tk 24 ?_
                refine tk 25 ?_
                refine tk 26 ?_
                refine tk 27 ?_
                refine tk 28 ?_
                refine tk 29 ?_
                refine tk 30 ?_
                refine tk 31 ?_
                refine tk 32 ?_
                refine tk 33 ?_
                refine tk 34 ?_
                refine tk 35 ?_
                refine tk 36 ?_
                refine tk 37 ?_
                refine mixs_one 38 (by kernel_rfl) rfl (fun K hK => ?_)
                go_simp
                ( (go_at_call 30; (with_reducible refine (cC.out _ (hsl.out _ hS.empty)).mono ?_); rintro _ w3 ⟨rfl, hb3⟩; have hS1 := hS.keepB hb3; clear hb3 hS; have hS := hS1; clear hS1) )
                try clear hC
                refine cl hK (fun hC => ?_)
                clear hK K
                refine tk 39 ?_
                refine tk 40 ?_
                refine wpAnyH_done (by kernel_rfl) ?_ _
                clear k0 k1 k2 hsub
                go_wp2_with fail
                go_ret
                exact ⟨by rw [e1.out]; rfl, hS.below⟩
              | true =>
                have e1 := Lib.hid (show chkK ((keys gs).take (j + 1)) = true by rw [hsn, decide_eq_true (by omega), decide_eq_true (by omega)]; rfl)
                clear hno hsn h1 h2
                go_wp2_with fail
                refine mixs_begin (by kernel_rfl) hS ?_
                clear hS
                intro w2 hS
                refine tk 0 ?_
                refine tk 1 ?_
                refine tk 2 ?_
                refine tk 3 ?_
                refine tk 4 ?_
                refine tk 5 ?_
                refine tk 6 ?_
                refine tk 7 ?_
                refine tk 8 ?_
                refine tk 9 ?_
                refine tk 10 ?_
                refine tk 11 ?_
                refine tk 12 ?_
                refine tk 13 ?_
                refine tk 14 ?_
                refine tk 15 ?_
                refine tk 16 ?_
                refine tk 17 ?_
                refine tk 18 ?_
                refine tk 19 ?_
                refine tk 20 ?_
                refine tk 21 ?_
                refine tk 22 ?_
                refine tk 23 ?_
                refine tk 24 ?_
                refine tk 25 ?_
                refine tk 26 ?_
                refine tk 27 ?_
                refine tk 28 ?_
                refine tk 29 ?_
                refine tk 30 ?_
                refine tk 31 ?_
                refine tk 32 ?_
                refine tk 33 ?_
                refine tk 34 ?_
                refine tk 35 ?_
                refine tk 36 ?_
                refine tk 37 ?_
                refine mixs_one 38 (by kernel_rfl) rfl (fun K hK => ?_)
                go_simp
                ( (go_at_call 30; (with_reducible refine (cC.out _ (hsl.out _ hS.empty)).mono ?_); rintro _ w3 ⟨rfl, hb3⟩; have hS1 := hS.keepB hb3; clear hb3 hS; have hS := hS1; clear hS1) )
                try clear hC
                refine cl hK (fun hC => ?_)
                clear hK K
                refine tk 39 ?_
                refine tk 40 ?_
                refine wpAnyH_done (by kernel_rfl) ?_ _
                clear k0 k1 k2 hsub
                go_wp2_with fail
                go_roundg (n - (j + 1))
                case measure => omega
                case rel => exact ⟨j + 1, by omega, by go_num, e1, hS⟩
    · obtain rfl : j = n := by omega
      go_wp2_with fail
      go_ret
      have e1 := hr.out
      rw [List.take_of_length_le (by simp [keys, hlen.out])] at e1
      exact ⟨by rw [e1]; rfl, hS.below⟩
end Go.Proofs.Ytkbekagmfbgefaa
end
section
namespace Go.Proofs.Ytkbekagmfbgefaa
open Go.RowKit Go.Ofp
set_option maxHeartbeats 4000000
theorem build_g2 (g : Int) (A : Option Addr) (N C : Nat) (w : World) : (Instr.build 31 #[(0, .int .i64 g), (1, .slice A N C)]).run Try.prog w = .ok (.agg #[.int .i64 g, .slice A N C]) w := by kernel_rfl
theorem wpList_build2 {P : Program} {w : World} {ops : Array Oper} {rest : List Oper} {o : Oper} {a : Act} {Q : Exit → Act → World → Prop} (hgd : o.guard = none) {t k1 k2 : Nat} {x1 x2 : Operand} (ho : o.op = .build t #[(k1, x1), (k2, x2)]) (v1 v2 : Value) (hx1 : a.eval x1 = v1) (hx2 : a.eval x2 = v2) {u : Value} (hr : ∀ w : World, (Instr.build t #[(k1, v1), (k2, v2)]).run P w = .ok u w)
    (h : wpList P ops Q rest (a.put o.dst u) w) : wpList P ops Q (o :: rest) a w := by
  refine wpList_plain hgd fun K hK => ?_
  unfold Oper.wp execOp
  simp only [ho, List.map_toArray, List.map_cons, List.map_nil, hx1, hx2, Sem.run_bind, hr, Result.andThen_ok, Sem.run_pure]
  exact hK _ _ h
theorem rgturn_any (a : Option Addr) (gs : List Gr) (n cap p : Nat) (A : Option Addr) (N C : Nat) (w : World) (hD : Deep w a n cap gs) (hm : n ≤ 1000) (hp : p < gs.length) :
    Calls Try.prog 47 #[.slice a n cap, .int .i64 p, .slice A N C] w (GRowRet (grows (gs.take p) ++ [.int .i64 gs[p].no, .slice A N C] ++ grows (gs.drop (p + 1))) n w) := by
  have hS := St.start w
  have hlen := hD.len
  have hpn : p < n := by omega
  obtain ⟨b, off, rfl, c0, -⟩ := hD.get p hp
  have hsl := hD.sl
  have hgl := grows_len gs
  have hone := grows_one gs
  have hfin : (grows gs).take (p * 2) ++ [.int .i64 gs[p].no, .slice A N C] ++ (grows gs).drop (p * 2 + 2) = grows (gs.take p) ++ [.int .i64 gs[p].no, .slice A N C] ++ grows (gs.drop (p + 1)) := by
    rw [grows_take, show p * 2 + 2 = (p + 1) * 2 by omega, grows_drop]
  rw [← hfin]
  rw [hlen] at hgl
  generalize gs[p].no = g at c0
  clear hfin hlen hD
  generalize grows gs = xs at *
  replace hsl := Lib.hid hsl
  replace hgl := Lib.hid hgl
  replace c0 := Lib.hid c0
  go_enter Try.func47, Try.ntmps47
  go_wp2_with (first
    | ((with_reducible refine wpList_build0_st hS rfl rfl Try.underlying22 elem_g ?_); intro g1 w3 hS1; clear hS; have hS := hS1; clear hS1)
    | (at_builtin; ((with_reducible refine wpList_app_st 0 hS rfl rfl rfl Try.underlying22 elem_g rfl (Src.slice Try.underlying22 (hS.sl hsl.out) hgl.out) rfl hone (by omega) (by unfold maxLen; omega) ?_); intro v5 w3 hS1; clear hS; simp only [List.set_cons_zero, Nat.zero_add, List.nil_append] at hS1; have hS := hS1; clear hS1; obtain ⟨g5, c5, rfl, -⟩ := hS.rowat 0 rfl (by omega); have hcell := hS.old c0.out (by simp)))
    | ((with_reducible refine wpList_build2 rfl rfl (.int .i64 g) (.slice A N C) rfl rfl (build_g2 g A N C) ?_); clear hcell)
    | ((with_reducible refine wpList_storeelem_st 0 p (vs := [.int .i64 g, .slice A N C]) hS rfl rfl rfl rfl rfl (by kernel_rfl) rfl rfl rfl hpn ?_); intro w4 hS1; clear hS; simp only [List.set_cons_zero] at hS1; have hS := hS1; clear hS1))
  go_ret
  exact ⟨_, _, rfl, hS⟩
theorem rjoin_any (a : Option Addr) (gs : List Gr) (n cap : Nat) (g id : Int) (w : World) (hD : Deep w a n cap gs) (hm : n ≤ 1000) (hmm : ∀ g ∈ gs, g.mem.length ≤ 10000) (hu : Ids.Up (nos gs)) :
    Calls Try.prog 22 #[.slice a n cap, .int .i64 g, .int .i64 id] w (GsOut (joinK (keys gs) g id) w) := by
  rw [← turn_join]
  have hS := St.start w
  have cF := rfind_any a gs n cap g id w hD (by omega) hu
  have hlt := Ids.has_lt (nos gs) g hu
  have hhp := Ids.has_place (nos gs) g hu
  have hnl : (nos gs).length = n := by rw [nos, List.length_map, hD.len]
  have hlen := hD.len
  rw [hnl] at hlt
  unfold turnK memAt
  rw [← nos_keys]
  generalize Ids.has (nos gs) g = hb at cF hlt hhp ⊢
  generalize Ids.place (nos gs) g = p at cF hlt hhp ⊢
  clear hu
  unfold findR at cF
  by_cases hbad : g < 0 ∨ 16 ≤ g ∨ id < 1 ∨ 1073741824 ≤ id
  · rw [if_pos hbad] at cF ⊢
    replace cF := Lib.hid cF
    clear hlen hlt hnl hhp hbad hD
    go_enter Try.func22, Try.ntmps22
    go_wp2_with (go_at_call 46; (with_reducible refine cF.out.mono ?_); rintro _ _ ⟨rfl, rfl⟩)
    go_ret2
    exact gsOut_err hS.below
  · rw [if_neg hbad] at cF ⊢
    clear hbad
    cases hb with
    | false =>
      rw [if_neg (by simp)] at cF ⊢
      replace cF := Lib.hid cF
      clear hlen hlt hnl hhp hD
      go_enter Try.func22, Try.ntmps22
      go_wp2_with (go_at_call 46; (with_reducible refine cF.out.mono ?_); rintro _ _ ⟨rfl, rfl⟩)
      go_ret2
      exact gsOut_err hS.below
    | true =>
      rw [if_pos rfl] at cF ⊢
      have hpn := hlt rfl
      have hpg : p < gs.length := by omega
      have hno : gs[p].no = g := by
        rw [dif_pos (by rw [hnl]; exact hpn)] at hhp
        have := of_decide_eq_true hhp.symm
        simpa [nos] using this
      have cT := fun A N C W (h : Deep W a n cap gs) => rgturn_any a gs n cap p A N C W h hm hpg
      obtain ⟨b, off, rfl, c0, c1⟩ := hD.get p hpg
      have hgM := hD.mem gs[p] (List.getElem_mem hpg)
      have hgl := hmm gs[p] (List.getElem_mem hpg)
      have hmem : ((keys gs).getD p (0, [])).2 = gs[p].mem := by
        unfold keys
        simp [List.getD_eq_getElem?_getD, hpg, Gr.key]
      rw [hmem]
      have hset : (keys gs).set p (g, (joinM gs[p].mem id).2) = (keys gs).take p ++ (gs[p].no, (joinM gs[p].mem id).2) :: (keys gs).drop (p + 1) := by
        rw [set_split _ _ _ (by simp [keys]; exact hpg), hno]
      rw [hset]
      generalize gs[p] = gp0 at c0 c1 hgM hgl cT
      have cH := fun W h => rhas_any gp0.a gp0.mem gp0.mem.length gp0.c id W h rfl (Nat.le_trans hgM.le hgM.cm)
      have cP := fun W h => rput_any gp0.a gp0.mem gp0.mem.length gp0.c id W h rfl (by omega) hgM.le
      have hsl := Lib.hid (fun W (h : St w [] [] W) => h.sl hgM.sl)
      have hDl := Lib.hid (fun W (h : St w [] [] W) => hD.below h.below)
      have hMl := Lib.hid (fun W (h : St w [] [] W) g hg => (hD.mem g hg).below h.below)
      unfold joinM
      generalize Ids.has gp0.mem id = hb2 at cH ⊢
      generalize Ids.put gp0.mem id = nm at cP ⊢
      generalize gp0.mem.length = l1 at *
      replace c1 := Lib.hid c1
      have hcc := Lib.hid (fun W (h : St w [] [] W) => h.old c1.out (by simp))
      replace cF := Lib.hid cF
      replace cH := Lib.hid cH
      replace cP := Lib.hid cP
      replace cT := Lib.hid cT
      have hlx : ∀ x : Gr, (gs.take p ++ x :: gs.drop (p + 1)).length = n := by intro x; simp; omega
      clear hlt hnl hhp hmem hset hno c0 hD
      have hcell := hcc.out _ hS
      cases hb2
      all_goals
        simp only [reduceIte, Bool.false_eq_true, Int.reduceEq]
        go_enter Try.func22, Try.ntmps22
        go_wp2_with (first
          | (go_at_call 46; (with_reducible refine cF.out.mono ?_); rintro _ _ ⟨rfl, rfl⟩)
          | (go_at_call 11; (with_reducible refine (cH.out _ (hsl.out _ hS)).mono ?_); rintro _ _ ⟨rfl, rfl⟩)
          | (go_at_call 48; (with_reducible refine (cP.out _ (hsl.out _ hS)).mono ?_); rintro _ w4 ⟨a5, c5, rfl, h51, h52, hb4⟩; have hS1 := hS.made hb4; clear hS hb4 hcell; have hS := hS1; clear hS1)
          | (go_at_call 47; (with_reducible refine (cT.out _ _ _ _ (hDl.out _ hS.empty)).mono ?_); rintro _ w5 ⟨a6, c6, rfl, hb5⟩; have hS1 := hS.made hb5; clear hS hb5; have hS := hS1; clear hS1))
        go_ret2
        first
          | exact gsOut_err hS.below
          | (have hd := deep_of (gs := gs.take p ++ (⟨gp0.no, a5, c5, nm⟩ : Gr) :: gs.drop (p + 1)) hS (by rw [grows_append]; simp [grows, Gr.row]) (hlx _) (by
              intro x hx
              simp only [List.mem_append, List.mem_cons] at hx
              rcases hx with hx | rfl | hx
              · exact .inr (hMl.out _ hS.empty x (List.mem_of_mem_take hx))
              · exact .inl List.mem_cons_self
              · exact .inr (hMl.out _ hS.empty x (List.mem_of_mem_drop hx)))
             refine ⟨_, _, _, ?_, ?_, by rw [hlx]; exact hd, hS.below⟩
             · simp [keys, Gr.key]
             · rw [hlx]; rfl)
theorem rquit_any (a : Option Addr) (gs : List Gr) (n cap : Nat) (g id : Int) (w : World) (hD : Deep w a n cap gs) (hm : n ≤ 1000) (hmm : ∀ g ∈ gs, g.mem.length ≤ 10000) (hu : Ids.Up (nos gs)) :
    Calls Try.prog 23 #[.slice a n cap, .int .i64 g, .int .i64 id] w (GsOut (quitK (keys gs) g id) w) := by
  rw [← turn_quit]
  have hS := St.start w
  have cF := rfind_any a gs n cap g id w hD (by omega) hu
  have hlt := Ids.has_lt (nos gs) g hu
  have hhp := Ids.has_place (nos gs) g hu
  have hnl : (nos gs).length = n := by rw [nos, List.length_map, hD.len]
  have hlen := hD.len
  rw [hnl] at hlt
  unfold turnK memAt
  rw [← nos_keys]
  generalize Ids.has (nos gs) g = hb at cF hlt hhp ⊢
  generalize Ids.place (nos gs) g = p at cF hlt hhp ⊢
  clear hu
  unfold findR at cF
  by_cases hbad : g < 0 ∨ 16 ≤ g ∨ id < 1 ∨ 1073741824 ≤ id
  · rw [if_pos hbad] at cF ⊢
    replace cF := Lib.hid cF
    clear hlen hlt hnl hhp hbad hD
    go_enter Try.func23, Try.ntmps23
    go_wp2_with (go_at_call 46; (with_reducible refine cF.out.mono ?_); rintro _ _ ⟨rfl, rfl⟩)
    go_ret2
    exact gsOut_err hS.below
  · rw [if_neg hbad] at cF ⊢
    clear hbad
    cases hb with
    | false =>
      rw [if_neg (by simp)] at cF ⊢
      replace cF := Lib.hid cF
      clear hlen hlt hnl hhp hD
      go_enter Try.func23, Try.ntmps23
      go_wp2_with (go_at_call 46; (with_reducible refine cF.out.mono ?_); rintro _ _ ⟨rfl, rfl⟩)
      go_ret2
      exact gsOut_err hS.below
    | true =>
      rw [if_pos rfl] at cF ⊢
      have hpn := hlt rfl
      have hpg : p < gs.length := by omega
      have hno : gs[p].no = g := by
        rw [dif_pos (by rw [hnl]; exact hpn)] at hhp
        have := of_decide_eq_true hhp.symm
        simpa [nos] using this
      have cT := fun A N C W (h : Deep W a n cap gs) => rgturn_any a gs n cap p A N C W h hm hpg
      obtain ⟨b, off, rfl, c0, c1⟩ := hD.get p hpg
      have hgM := hD.mem gs[p] (List.getElem_mem hpg)
      have hgl := hmm gs[p] (List.getElem_mem hpg)
      have hmem : ((keys gs).getD p (0, [])).2 = gs[p].mem := by
        unfold keys
        simp [List.getD_eq_getElem?_getD, hpg, Gr.key]
      rw [hmem]
      have hset : (keys gs).set p (g, (quitM gs[p].mem id).2) = (keys gs).take p ++ (gs[p].no, (quitM gs[p].mem id).2) :: (keys gs).drop (p + 1) := by
        rw [set_split _ _ _ (by simp [keys]; exact hpg), hno]
      rw [hset]
      generalize gs[p] = gp0 at c0 c1 hgM hgl cT
      have cH := fun W h => rhas_any gp0.a gp0.mem gp0.mem.length gp0.c id W h rfl (Nat.le_trans hgM.le hgM.cm)
      have cP := fun W h => rdrop_any gp0.a gp0.mem gp0.mem.length gp0.c id W h rfl (by omega)
      have hsl := Lib.hid (fun W (h : St w [] [] W) => h.sl hgM.sl)
      have hDl := Lib.hid (fun W (h : St w [] [] W) => hD.below h.below)
      have hMl := Lib.hid (fun W (h : St w [] [] W) g hg => (hD.mem g hg).below h.below)
      unfold quitM
      generalize Ids.has gp0.mem id = hb2 at cH ⊢
      generalize Ids.drop gp0.mem id = nm at cP ⊢
      generalize gp0.mem.length = l1 at *
      replace c1 := Lib.hid c1
      have hcc := Lib.hid (fun W (h : St w [] [] W) => h.old c1.out (by simp))
      replace cF := Lib.hid cF
      replace cH := Lib.hid cH
      replace cP := Lib.hid cP
      replace cT := Lib.hid cT
      have hlx : ∀ x : Gr, (gs.take p ++ x :: gs.drop (p + 1)).length = n := by intro x; simp; omega
      clear hlt hnl hhp hmem hset hno c0 hD
      have hcell := hcc.out _ hS
      cases hb2
      all_goals
        simp only [reduceIte, Bool.false_eq_true, Int.reduceEq]
        go_enter Try.func23, Try.ntmps23
        go_wp2_with (first
          | (go_at_call 46; (with_reducible refine cF.out.mono ?_); rintro _ _ ⟨rfl, rfl⟩)
          | (go_at_call 11; (with_reducible refine (cH.out _ (hsl.out _ hS)).mono ?_); rintro _ _ ⟨rfl, rfl⟩)
          | (go_at_call 49; (with_reducible refine (cP.out _ (hsl.out _ hS)).mono ?_); rintro _ w4 ⟨a5, c5, rfl, h51, h52, hb4⟩; have hS1 := hS.made hb4; clear hS hb4 hcell; have hS := hS1; clear hS1)
          | (go_at_call 47; (with_reducible refine (cT.out _ _ _ _ (hDl.out _ hS.empty)).mono ?_); rintro _ w5 ⟨a6, c6, rfl, hb5⟩; have hS1 := hS.made hb5; clear hS hb5; have hS := hS1; clear hS1))
        go_ret2
        first
          | exact gsOut_err hS.below
          | (have hd := deep_of (gs := gs.take p ++ (⟨gp0.no, a5, c5, nm⟩ : Gr) :: gs.drop (p + 1)) hS (by rw [grows_append]; simp [grows, Gr.row]) (hlx _) (by
              intro x hx
              simp only [List.mem_append, List.mem_cons] at hx
              rcases hx with hx | rfl | hx
              · exact .inr (hMl.out _ hS.empty x (List.mem_of_mem_take hx))
              · exact .inl List.mem_cons_self
              · exact .inr (hMl.out _ hS.empty x (List.mem_of_mem_drop hx)))
             refine ⟨_, _, _, ?_, ?_, by rw [hlx]; exact hd, hS.below⟩
             · simp [keys, Gr.key]
             · rw [hlx]; rfl)
end Go.Proofs.Ytkbekagmfbgefaa
end
