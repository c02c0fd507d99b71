/- The walks of pieces: joined. -/
import Derived.Test.YtcpkmgmdhjhfaaaPiece3
set_option linter.unusedSimpArgs false
set_option linter.unusedVariables false
namespace Go.Proofs.Ytcpkmgmdhjhfaaa
open Go.RowKit Go.Ofp
set_option linter.unusedVariables false
set_option maxRecDepth 100000
set_option maxHeartbeats 4000000

/-- A world's cells of a piece that was copied into a new block. -/
theorem cat_next (ps : List Pc) (j : Nat) (p : Pc) (hp : ps[j]? = some p) : str (catB (ps.take j)) ++ p.body = str (catB (ps.take (j + 1))) := by
  apply ba_ext
  rw [List.take_add_one, hp]
  simp [catB, ByteArray.data_append]

theorem joinB_no (ps : List Pc) (l0 : Pc) (h0 : ps[0]? = some l0) (j : Nat) (p : Pc) (hp : ps[j]? = some p) (h : ¬ joinAt l0 ps.length j p = true) : joinB ps = (str [], false) := by
  rw [joinB, if_neg]
  intro hj
  exact h ((joinOk_iff _ _ h0).1 hj j p hp)

theorem isEmpty_size (s : ByteArray) : s.toList.isEmpty = (s.size == 0) := by
  rw [ByteArray.toList_eq, ba_size]
  cases s.data.toList <;> rfl

section
variable (l0 : Pc) (n j : Nat) (p : Pc)
theorem int_z : ((j : Int) == 0) = (j == 0) := by rw [Bool.eq_iff_iff]; simp
theorem int_l (h : 0 < n) : ((j : Int) == (n : Int) - 1) = (j == n - 1) := by rw [Bool.eq_iff_iff]; simp; omega
theorem join_bad1 (h : ¬ p.first = ((j : Int) == 0)) : ¬ joinAt l0 n j p = true := by
  rw [joinAt_iff]
  rintro ⟨-, -, -, q4, -⟩
  exact h (by rw [q4, int_z])
theorem join_bad2 (hj : j < n) (h : (!p.last == ((j : Int) == (n : Int) - 1)) = true) : ¬ joinAt l0 n j p = true := by
  rw [joinAt_iff]
  rintro ⟨-, -, -, -, q5, -⟩
  rw [q5, int_l n j (by omega)] at h
  simp at h
theorem join_bad3 (h : (j : Int) = (n : Int) - 1) (h1 : 1 < (n : Int)) (h2 : p.body.toList.isEmpty = true) : ¬ joinAt l0 n j p = true := by
  rw [joinAt_iff]
  rw [isEmpty_size, beq_iff_eq] at h2
  omega
theorem join_bad4 (h : ¬ (j : Int) = (n : Int) - 1) (h0 : 52 ≤ (p.body.size : Int)) (h1 : 0 < j) (h2 : (!((j : Int) == (n : Int) - 1)) = true ∧ (p.body.size : Int) < 52 ∨ p.body.toList.isEmpty = true) : ¬ joinAt l0 n j p = true := by
  rw [joinAt_iff]
  rcases h2 with ⟨_, h2⟩ | h2
  · omega
  · rw [isEmpty_size, beq_iff_eq] at h2
    omega
theorem join_bad5 (hj : j < n) (h : ¬ (j : Int) = (n : Int) - 1) (h0 : (p.body.size : Int) < 52) : ¬ joinAt l0 n j p = true := by
  rw [joinAt_iff]
  omega
theorem join_good1 (hj : j < n) (a : p.ok = true) (b : p.life = l0.life) (c : p.place = l0.place + j) (h1 : p.first = ((j : Int) == 0)) (h2 : (!p.last == ((j : Int) == (n : Int) - 1)) = false) (h3 : (j : Int) = (n : Int) - 1) (h5 : p.body.toList.isEmpty = false) : joinAt l0 n j p = true := by
  rw [joinAt_iff]
  rw [isEmpty_size, beq_eq_false_iff_ne] at h5
  refine ⟨a, b, c, by rw [h1, int_z], ?_, by omega, by omega⟩
  have e := int_l n j (by omega)
  rw [e] at h2
  simpa using h2
theorem join_good2 (hj : j < n) (a : p.ok = true) (b : p.life = l0.life) (c : p.place = l0.place + j) (h1 : p.first = ((j : Int) == 0)) (h2 : (!p.last == ((j : Int) == (n : Int) - 1)) = false) (h3 : (j : Int) = (n : Int) - 1) (h5 : (n : Int) ≤ 1) : joinAt l0 n j p = true := by
  rw [joinAt_iff]
  refine ⟨a, b, c, by rw [h1, int_z], ?_, by omega, by omega⟩
  have e := int_l n j (by omega)
  rw [e] at h2
  simpa using h2
theorem join_good3 (hj : j < n) (a : p.ok = true) (b : p.life = l0.life) (c : p.place = l0.place + j) (h1 : p.first = ((j : Int) == 0)) (h2 : (!p.last == ((j : Int) == (n : Int) - 1)) = false) (h4 : 52 ≤ (p.body.size : Int)) (h5 : ((!((j : Int) == (n : Int) - 1)) = false ∨ 52 ≤ (p.body.size : Int)) ∧ p.body.toList.isEmpty = false) : joinAt l0 n j p = true := by
  rw [joinAt_iff]
  refine ⟨a, b, c, by rw [h1, int_z], ?_, by omega, by omega⟩
  have e := int_l n j (by omega)
  rw [e] at h2
  simpa using h2
theorem join_good4 (hj : j < n) (a : p.ok = true) (b : p.life = l0.life) (c : p.place = l0.place + j) (h1 : p.first = ((j : Int) == 0)) (h2 : (!p.last == ((j : Int) == (n : Int) - 1)) = false) (h4 : 52 ≤ (p.body.size : Int)) (h5 : ¬ 0 < j) : joinAt l0 n j p = true := by
  rw [joinAt_iff]
  refine ⟨a, b, c, by rw [h1, int_z], ?_, by omega, by omega⟩
  have e := int_l n j (by omega)
  rw [e] at h2
  simpa using h2
end

theorem pjoin_any (a : Option Addr) (ps : List Pc) (n cap : Nat) (w : World) (ha : Ps w a ps) (hn : n = ps.length) (hn1 : n ≤ 100000) :
    Calls Try.prog 20 #[.slice a n cap] w fun e w' => e = .returned (.tuple #[.string (joinB ps).1, .bool (joinB ps).2]) ∧ Below w.heap.size w w' := by
  replace ha := Lib.hid ha
  replace hn := Lib.hid hn
  go_enter Try.func20, Try.ntmps20
  go_wp2_with fail
  go_loopg [4, 10] n (fun gk vr vi wr => ∃ j : Nat, j + gk = n ∧ vi = .int .i64 j ∧ vr = .string (str (catB (ps.take j))) ∧ (str (catB (ps.take j))).size ≤ j * 52 ∧ Below w.heap.size w wr ∧ ∀ l0, ps[0]? = some l0 → ∀ i p, i < j → ps[i]? = some p → joinAt l0 n i p = true)
  case atStart => exact ⟨0, by omega, rfl, rfl, by simp [catB], Below.refl _ _, fun l0 _ i p h => absurd h (by omega)⟩
  case round =>
    obtain ⟨j, hjk, rfl, rfl, hsz, hb, hall⟩ := hrel
    by_cases hj : j < n
    · obtain ⟨p, hp⟩ : ∃ p, ps[j]? = some p := ⟨_, List.getElem?_eq_getElem (by have := hn.out; omega)⟩
      obtain ⟨l0, h0⟩ : ∃ p, ps[0]? = some p := ⟨_, List.getElem?_eq_getElem (by have := hn.out; omega)⟩
      obtain ⟨b, off, hab, c0, c1, c2, c3, c4⟩ := (ha.out.below hb).get j p hp
      subst hab
      obtain ⟨b', off', hab', z0, z1, -, -, -⟩ := (ha.out.below hb).get 0 l0 h0
      cases hab'
      simp only [Nat.zero_mul, Nat.add_zero] at z0 z1
      have hl0 : 0 < j → l0.ok = true := fun h => ((joinAt_iff _ _ _ _).1 (hall l0 h0 0 l0 h h0)).1
      have hl1 : j = 0 → p = l0 := fun h => by subst h; rw [hp] at h0; cases h0; rfl
      have hno : ¬ joinAt l0 n j p = true → joinB ps = (str [], false) := fun h => joinB_no ps l0 h0 j p hp (by rw [← hn.out]; exact h)
      have hat := joinAt_iff l0 n j p
      obtain ⟨okb, hok⟩ : ∃ b, p.ok = b := ⟨_, rfl⟩
      have hcat := cat_next ps j p hp
      replace hall := Lib.hid hall
      replace hp := Lib.hid hp
      replace h0 := Lib.hid h0
      replace hl0 := Lib.hid hl0
      replace hl1 := Lib.hid hl1
      replace hno := Lib.hid hno
      replace hat := Lib.hid hat
      generalize hS : str (catB (ps.take j)) = S at hcat hsz
      replace hS := Lib.hid hS
      replace hcat := Lib.hid hcat
      have hW := Whole.new wr 58 #[.int .i64 p.life, .int .i64 p.place, .bool p.first, .bool p.last, .string p.body]
      have hWb : Below wr.heap.size wr (wr.alloc (.cells #[.int .i64 p.life, .int .i64 p.place, .bool p.first, .bool p.last, .string p.body] 58)) := (Below.refl _ _).alloc (Nat.le_refl _) _
      replace hW := Lib.hid hW
      replace hWb := Lib.hid hWb
      have cK : ∀ W : World, Calls Try.prog 40 #[.agg #[.int .i64 p.life, .int .i64 p.place, .bool p.first, .bool p.last, .string p.body]] W fun e w' => e = .returned (.bool okb) ∧ Below W.heap.size W w' := by
        intro W
        have := check_any p W
        rw [hok] at this
        exact this
      replace cK := Lib.hid cK
      cases okb with
      | false =>
        replace hok := Lib.hid hok
        go_wp2_with fail
        generalize (wr.alloc (Obj.cells #[.int .i64 p.life, .int .i64 p.place, .bool p.first, .bool p.last, .string p.body] 58)) = W1 at hW hWb ⊢
        have k0 : ∀ s : Past W1, s.1.cell? ⟨wr.heap.size, 0, none⟩ = some (.int .i64 p.life) := fun s => s.cell (hW.out.cell 0)
        have k1 : ∀ s : Past W1, s.1.cell? ⟨wr.heap.size, 1, none⟩ = some (.int .i64 p.place) := fun s => s.cell (hW.out.cell 1)
        have k2 : ∀ s : Past W1, s.1.cell? ⟨wr.heap.size, 2, none⟩ = some (.bool p.first) := fun s => s.cell (hW.out.cell 2)
        have k3 : ∀ s : Past W1, s.1.cell? ⟨wr.heap.size, 3, none⟩ = some (.bool p.last) := fun s => s.cell (hW.out.cell 3)
        have k4 : ∀ s : Past W1, s.1.cell? ⟨wr.heap.size, 4, none⟩ = some (.string p.body) := fun s => s.cell (hW.out.cell 4)
        have y0 : ∀ s : Past W1, s.1.cell? ⟨b, off, none⟩ = some (.int .i64 l0.life) := fun s => s.cell ((hWb.out.cell (World.block_lt_of_cell? _ _ z0)).trans z0)
        have y1 : ∀ s : Past W1, s.1.cell? ⟨b, off + 1, none⟩ = some (.int .i64 l0.place) := fun s => s.cell ((hWb.out.cell (World.block_lt_of_cell? _ _ z1)).trans z1)
        refine wp_region_past_lit (by kernel_rfl) (by kernel_rfl) ?_
        repeat (go_big_quiet_step ((go_at_call 40; refine Calls.past (cK.out _))))
        refine wpQuiet_nil ?_
        rintro w5 ⟨⟨_, hb5⟩, rfl⟩
        replace hb5 : Below wr.heap.size wr w5 := hWb.out.trans (hb5.mono hWb.out.size)
        go_wp2_with fail
        go_ret2
        have hbad : ¬ joinAt l0 n j p = true := by
          rw [hat.out]
          rintro ⟨q1, q2, q3, q4, q5, q6, q7⟩
          first | exact absurd q2 hlf.out | exact absurd q3 hpl.out | exact absurd (hok.out.symm.trans q1) (by simp)
        rw [hno.out hbad]
        exact ⟨rfl, hb.trans (hb5.mono hb.size)⟩
      | true =>
        have hl0k : l0.ok = true := by
          by_cases h : 0 < j
          · exact hl0.out h
          · rw [← hl1.out (by omega)]; exact hok
        rw [Pc.ok_iff] at hl0k
        have hpk := (Pc.ok_iff _).1 hok
        replace hok := Lib.hid hok
        by_cases hlf : p.life = l0.life
        · have e1 : (p.life == l0.life) = true := by rw [beq_iff_eq]; exact hlf
          have e2 : (p.life != l0.life) = false := by rw [bne, e1]; rfl
          replace hlf := Lib.hid hlf
          by_cases hpl : p.place = l0.place + j
          · have e3 : (p.place == l0.place + (j : Int)) = true := by rw [beq_iff_eq]; exact hpl
            have e4 : (p.place != l0.place + (j : Int)) = false := by rw [bne, e3]; rfl
            replace hpl := Lib.hid hpl
            go_wp2_with fail
            generalize (wr.alloc (Obj.cells #[.int .i64 p.life, .int .i64 p.place, .bool p.first, .bool p.last, .string p.body] 58)) = W1 at hW hWb ⊢
            have k0 : ∀ s : Past W1, s.1.cell? ⟨wr.heap.size, 0, none⟩ = some (.int .i64 p.life) := fun s => s.cell (hW.out.cell 0)
            have k1 : ∀ s : Past W1, s.1.cell? ⟨wr.heap.size, 1, none⟩ = some (.int .i64 p.place) := fun s => s.cell (hW.out.cell 1)
            have k2 : ∀ s : Past W1, s.1.cell? ⟨wr.heap.size, 2, none⟩ = some (.bool p.first) := fun s => s.cell (hW.out.cell 2)
            have k3 : ∀ s : Past W1, s.1.cell? ⟨wr.heap.size, 3, none⟩ = some (.bool p.last) := fun s => s.cell (hW.out.cell 3)
            have k4 : ∀ s : Past W1, s.1.cell? ⟨wr.heap.size, 4, none⟩ = some (.string p.body) := fun s => s.cell (hW.out.cell 4)
            have y0 : ∀ s : Past W1, s.1.cell? ⟨b, off, none⟩ = some (.int .i64 l0.life) := fun s => s.cell ((hWb.out.cell (World.block_lt_of_cell? _ _ z0)).trans z0)
            have y1 : ∀ s : Past W1, s.1.cell? ⟨b, off + 1, none⟩ = some (.int .i64 l0.place) := fun s => s.cell ((hWb.out.cell (World.block_lt_of_cell? _ _ z1)).trans z1)
            refine wp_region_past_lit (by kernel_rfl) (by kernel_rfl) ?_
            repeat (go_big_quiet_step ((go_at_call 40; refine Calls.past (cK.out _))))
            refine wpQuiet_nil ?_
            rintro w5 ⟨⟨_, hb5⟩, rfl⟩
            have d2 : w5.cell? ⟨wr.heap.size, 2, none⟩ = some (.bool p.first) := k2 ⟨w5, hb5⟩
            have d3 : w5.cell? ⟨wr.heap.size, 3, none⟩ = some (.bool p.last) := k3 ⟨w5, hb5⟩
            have d4 : w5.cell? ⟨wr.heap.size, 4, none⟩ = some (.string p.body) := k4 ⟨w5, hb5⟩
            clear k0 k1 k2 k3 k4 y0 y1
            replace hb5 : Below wr.heap.size wr w5 := hWb.out.trans (hb5.mono hWb.out.size)
            have hov : ¬ 9223372036854775807 < S.size + p.body.size := by omega
            go_wp2_with fail
            all_goals first
              | (go_ret2
                 have hbad : ¬ joinAt l0 n j p = true := by
                   first
                     | exact join_bad1 l0 n j p (by assumption)
                     | exact join_bad2 l0 n j p hj (by assumption)
                     | exact join_bad3 l0 n j p (by assumption) (by assumption) (by assumption)
                     | exact join_bad4 l0 n j p (by assumption) (by assumption) (by assumption) (by assumption)
                     | exact join_bad5 l0 n j p hj (by assumption) (by assumption)
                 rw [hno.out hbad]
                 exact ⟨rfl, hb.trans (hb5.mono hb.size)⟩)
              | (go_roundg (n - (j + 1))
                 case measure => omega
                 case rel =>
                   have hgood : joinAt l0 n j p = true := by
                     first
                       | exact join_good1 l0 n j p hj hok.out hlf.out hpl.out (by assumption) (by assumption) (by assumption) (by assumption)
                       | exact join_good2 l0 n j p hj hok.out hlf.out hpl.out (by assumption) (by assumption) (by assumption) (by assumption)
                       | exact join_good3 l0 n j p hj hok.out hlf.out hpl.out (by assumption) (by assumption) (by assumption) (by assumption)
                       | exact join_good4 l0 n j p hj hok.out hlf.out hpl.out (by assumption) (by assumption) (by assumption) (by assumption)
                   refine ⟨j + 1, by omega, (congrArg (Value.int .i64) (by omega)), congrArg Value.string hcat.out, ?_, hb.trans (hb5.mono hb.size), ?_⟩
                   · rw [← hcat.out, ByteArray.size_append]
                     omega
                   · intro l0' h0' i q hi hq
                     by_cases hij : i < j
                     · exact hall.out l0' h0' i q hij hq
                     · have : i = j := by omega
                       subst this
                       rw [hp.out] at hq
                       rw [h0.out] at h0'
                       cases hq
                       cases h0'
                       exact hgood)
          · have e3 : (p.place == l0.place + (j : Int)) = false := by rw [beq_eq_false_iff_ne]; exact hpl
            have e4 : (p.place != l0.place + (j : Int)) = true := by rw [bne, e3]; rfl
            replace hpl := Lib.hid hpl
            go_wp2_with fail
            generalize (wr.alloc (Obj.cells #[.int .i64 p.life, .int .i64 p.place, .bool p.first, .bool p.last, .string p.body] 58)) = W1 at hW hWb ⊢
            have k0 : ∀ s : Past W1, s.1.cell? ⟨wr.heap.size, 0, none⟩ = some (.int .i64 p.life) := fun s => s.cell (hW.out.cell 0)
            have k1 : ∀ s : Past W1, s.1.cell? ⟨wr.heap.size, 1, none⟩ = some (.int .i64 p.place) := fun s => s.cell (hW.out.cell 1)
            have k2 : ∀ s : Past W1, s.1.cell? ⟨wr.heap.size, 2, none⟩ = some (.bool p.first) := fun s => s.cell (hW.out.cell 2)
            have k3 : ∀ s : Past W1, s.1.cell? ⟨wr.heap.size, 3, none⟩ = some (.bool p.last) := fun s => s.cell (hW.out.cell 3)
            have k4 : ∀ s : Past W1, s.1.cell? ⟨wr.heap.size, 4, none⟩ = some (.string p.body) := fun s => s.cell (hW.out.cell 4)
            have y0 : ∀ s : Past W1, s.1.cell? ⟨b, off, none⟩ = some (.int .i64 l0.life) := fun s => s.cell ((hWb.out.cell (World.block_lt_of_cell? _ _ z0)).trans z0)
            have y1 : ∀ s : Past W1, s.1.cell? ⟨b, off + 1, none⟩ = some (.int .i64 l0.place) := fun s => s.cell ((hWb.out.cell (World.block_lt_of_cell? _ _ z1)).trans z1)
            refine wp_region_past_lit (by kernel_rfl) (by kernel_rfl) ?_
            repeat (go_big_quiet_step ((go_at_call 40; refine Calls.past (cK.out _))))
            refine wpQuiet_nil ?_
            rintro w5 ⟨⟨_, hb5⟩, rfl⟩
            replace hb5 : Below wr.heap.size wr w5 := hWb.out.trans (hb5.mono hWb.out.size)
            go_wp2_with fail
            go_ret2
            have hbad : ¬ joinAt l0 n j p = true := by
              rw [hat.out]
              rintro ⟨q1, q2, q3, q4, q5, q6, q7⟩
              first | exact absurd q2 hlf.out | exact absurd q3 hpl.out | exact absurd (hok.out.symm.trans q1) (by simp)
            rw [hno.out hbad]
            exact ⟨rfl, hb.trans (hb5.mono hb.size)⟩
        · have e3 : (p.life == l0.life) = false := by rw [beq_eq_false_iff_ne]; exact hlf
          have e4 : (p.life != l0.life) = true := by rw [bne, e3]; rfl
          replace hlf := Lib.hid hlf
          go_wp2_with fail
          generalize (wr.alloc (Obj.cells #[.int .i64 p.life, .int .i64 p.place, .bool p.first, .bool p.last, .string p.body] 58)) = W1 at hW hWb ⊢
          have k0 : ∀ s : Past W1, s.1.cell? ⟨wr.heap.size, 0, none⟩ = some (.int .i64 p.life) := fun s => s.cell (hW.out.cell 0)
          have k1 : ∀ s : Past W1, s.1.cell? ⟨wr.heap.size, 1, none⟩ = some (.int .i64 p.place) := fun s => s.cell (hW.out.cell 1)
          have k2 : ∀ s : Past W1, s.1.cell? ⟨wr.heap.size, 2, none⟩ = some (.bool p.first) := fun s => s.cell (hW.out.cell 2)
          have k3 : ∀ s : Past W1, s.1.cell? ⟨wr.heap.size, 3, none⟩ = some (.bool p.last) := fun s => s.cell (hW.out.cell 3)
          have k4 : ∀ s : Past W1, s.1.cell? ⟨wr.heap.size, 4, none⟩ = some (.string p.body) := fun s => s.cell (hW.out.cell 4)
          have y0 : ∀ s : Past W1, s.1.cell? ⟨b, off, none⟩ = some (.int .i64 l0.life) := fun s => s.cell ((hWb.out.cell (World.block_lt_of_cell? _ _ z0)).trans z0)
          have y1 : ∀ s : Past W1, s.1.cell? ⟨b, off + 1, none⟩ = some (.int .i64 l0.place) := fun s => s.cell ((hWb.out.cell (World.block_lt_of_cell? _ _ z1)).trans z1)
          refine wp_region_past_lit (by kernel_rfl) (by kernel_rfl) ?_
          repeat (go_big_quiet_step ((go_at_call 40; refine Calls.past (cK.out _))))
          refine wpQuiet_nil ?_
          rintro w5 ⟨⟨_, hb5⟩, rfl⟩
          replace hb5 : Below wr.heap.size wr w5 := hWb.out.trans (hb5.mono hWb.out.size)
          go_wp2_with fail
          go_ret2
          have hbad : ¬ joinAt l0 n j p = true := by
            rw [hat.out]
            rintro ⟨q1, q2, q3, q4, q5, q6, q7⟩
            first | exact absurd q2 hlf.out | exact absurd q3 hpl.out | exact absurd (hok.out.symm.trans q1) (by simp)
          rw [hno.out hbad]
          exact ⟨rfl, hb.trans (hb5.mono hb.size)⟩
    · have e : j = n := by omega
      subst e
      go_wp2_with fail
      go_ret2
      have hx : joinB ps = (str (catB (ps.take j)), decide (0 < j)) := by
        have h1 := hn.out
        by_cases h : 0 < j
        · obtain ⟨l0, h0⟩ : ∃ p, ps[0]? = some p := ⟨_, List.getElem?_eq_getElem (by omega)⟩
          rw [joinB, if_pos, List.take_of_length_le (by omega)]
          · simp [h]
          · rw [joinOk_iff _ _ h0]
            intro i p hp
            rw [← h1]
            exact hall l0 h0 i p (by rw [h1]; exact (List.getElem?_eq_some_iff.1 hp).1) hp
        · have : ps = [] := List.eq_nil_of_length_eq_zero (by omega)
          subst this
          have : j = 0 := by omega
          subst this
          rfl
      rw [hx]
      exact ⟨rfl, hb⟩

end Go.Proofs.Ytcpkmgmdhjhfaaa
