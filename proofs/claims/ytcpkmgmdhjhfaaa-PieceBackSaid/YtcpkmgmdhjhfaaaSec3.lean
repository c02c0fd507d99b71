/- The walk of piece.Put: a piece's sector. -/
import Derived.Test.YtcpkmgmdhjhfaaaSec2
import Derived.Test.YtcpkmgmdhjhfaaaMixB
set_option linter.unusedSimpArgs false
set_option linter.unusedVariables false
namespace Go.Proofs.Ytcpkmgmdhjhfaaa
open Go.RowKit Go.Ofp
set_option linter.unusedVariables false
set_option maxRecDepth 100000
set_option maxHeartbeats 4000000

theorem cell_keep {w w' : World} {g : Nat} {p : Addr} {v : Value} (h : w.cell? p = some v) (hg : w.grownBy w' (some g)) (hne : p.block ≠ g) : w'.cell? p = some v := by
  rw [World.cell?_of_block (hg.block p.block (World.block_lt_of_cell? w p h) (by simpa using hne))]
  exact h

theorem vb_wrap (n : Nat) : vb (UInt8.ofNat n) = .int .u8 (IntKind.u8.wrap (n : Int)) := by
  rw [vb_ofNat]
  congr 1

theorem or_flags (p : Pc) (F : Nat) (hF : (F : Int) = (if p.first then 64 else 0) + (if p.last then 128 else 0)) (h : p.body.size ≤ 52) : bits .or .i64 (p.body.size : Int) (F : Int) = ((sizeFlags p : Nat) : Int) := by
  have h1 : F % 2 ^ 6 = 0 ∧ F ≤ 192 ∧ sizeFlags p = F + p.body.size := by
    unfold sizeFlags
    cases h1 : p.first <;> cases h2 : p.last <;> simp [h1, h2] at hF ⊢ <;> omega
  rw [i64_or_nat _ _ (by omega) (by omega), Nat.or_comm, nat_join 6 F p.body.size h1.1 (by omega), h1.2.2]

theorem put_bytes (p : Pc) (L M : Nat) (hok : p.ok = true) (hL : (L : Int) = p.life) (hM : (M : Int) = p.place) (bs0 bs1 bs2 bs3 bs4 bs5 : List UInt8) (C : Nat)
    (h0 : bs0 = List.replicate 64 0) (h1 : bs1 = laidAt bs0 0 L 4) (h2 : bs2 = laidAt bs1 4 M 5) (h3 : bs3 = bs2.set 9 (UInt8.ofNat (sizeFlags p)))
    (h4 : bs4 = bs3.take 10 ++ p.body.data.toList ++ bs3.drop (10 + p.body.size)) (hC : C = (crc (bs4.take 62)).toNat) (h5 : bs5 = laidAt bs4 62 C 2) : bs5 = putB p := by
  have hs := ((Pc.ok_iff p).1 hok).2.2.2.2
  have eL : p.life.toNat = L := by omega
  have eM : p.place.toNat = M := by omega
  have e1 : bs1 = le L 4 ++ List.replicate 60 0 := by
    rw [h1, h0, laidAt]
    simp [List.drop_replicate]
  have e2 : bs2 = le L 4 ++ (le M 5 ++ List.replicate 55 0) := by
    rw [h2, e1, laidAt, List.take_append_of_le_length (by simp), List.take_of_length_le (by simp), List.drop_append, List.drop_of_length_le (by simp)]
    simp [List.drop_replicate]
  have e3 : bs3 = le L 4 ++ (le M 5 ++ (UInt8.ofNat (sizeFlags p) :: List.replicate 54 0)) := by
    rw [h3, e2, List.set_append_right _ _ (by simp), List.set_append_right _ _ (by simp)]
    simp only [le_length]
    rw [show List.replicate 55 (0 : UInt8) = 0 :: List.replicate 54 0 from rfl]
    rfl
  have hd : headB p = le L 4 ++ (le M 5 ++ (UInt8.ofNat (sizeFlags p) :: (p.body.data.toList ++ List.replicate (52 - p.body.size) 0))) := by rw [headB, eL, eM]
  have hlen := headB_length p hs
  have e4 : bs4 = headB p ++ List.replicate 2 0 := by
    have t10 : bs3.take 10 = le L 4 ++ (le M 5 ++ [UInt8.ofNat (sizeFlags p)]) := by
      rw [e3, List.take_append, List.take_of_length_le (by simp), List.take_append, List.take_of_length_le (by simp)]
      simp
    have d10 : bs3.drop (10 + p.body.size) = List.replicate (52 - p.body.size) 0 ++ List.replicate 2 0 := by
      rw [← List.drop_drop]
      have : bs3.drop 10 = List.replicate 54 0 := by
        rw [e3, List.drop_append, List.drop_of_length_le (by simp), List.nil_append, List.drop_append, List.drop_of_length_le (by simp)]
        simp
      rw [this, List.drop_replicate, List.replicate_append_replicate]
      congr 1
      omega
    rw [h4, t10, d10, hd]
    simp
  have t62 : bs4.take 62 = headB p := by rw [e4, List.take_append_of_le_length (by omega), List.take_of_length_le (by omega)]
  have d64 : bs4.drop 64 = [] := by rw [e4]; exact List.drop_of_length_le (by simp; omega)
  rw [h5, laidAt, t62, hC, t62, putB, if_pos hok, d64]
  simp

theorem put_any (p : Pc) (w : World) : Calls Try.prog 43 #[p.val] w fun e w' => e = .returned (.string (str (putB p))) ∧ Below w.heap.size w w' := by
  have hok := Pc.ok_iff p
  obtain ⟨b, hb⟩ : ∃ b, p.ok = b := ⟨_, rfl⟩
  have cK : ∀ W : World, Calls Try.prog 40 #[.agg #[.int .i64 p.life, .int .i64 p.place, .bool p.first, .bool p.last, .string p.body]] W fun e w' => e = .returned (.bool b) ∧ Below W.heap.size W w' := by
    intro W
    have := check_any p W
    rw [hb] at this
    exact this
  cases b with
  | false =>
    have hp : putB p = [] := by rw [putB, if_neg]; rw [hb]; simp
    rw [hp]
    replace hb := Lib.hid hb
    replace hok := Lib.hid hok
    simp only [Pc.val, Pc.row]
    go_enter Try.func43, Try.ntmps43
    go_wp2_with (go_at_call 40; refine (cK _).mono ?_; rintro _ w1 ⟨rfl, hb1⟩)
    go_ret
    exact ⟨rfl, Below.trans ((Below.refl _ _).alloc (Nat.le_refl _) _) (hb1.mono (by simp))⟩
  | true =>
    obtain ⟨h1, h2, h3, h4, h5⟩ := hok.1 hb
    obtain ⟨L, hL⟩ : ∃ L : Nat, (L : Int) = p.life := ⟨p.life.toNat, by omega⟩
    obtain ⟨M, hM⟩ : ∃ M : Nat, (M : Int) = p.place := ⟨p.place.toNat, by omega⟩
    have hL1 : L < 9223372036854775808 := by omega
    have hM1 : M < 9223372036854775808 := by omega
    replace hb := Lib.hid hb
    replace hok := Lib.hid hok
    replace hL := Lib.hid hL
    replace hM := Lib.hid hM
    simp only [Pc.val, Pc.row]
    rw [← hL.out, ← hM.out] at cK ⊢
    clear h1 h2 h3 h4
    replace cK := Lib.hid cK
    go_enter Try.func43, Try.ntmps43
    go_wp2_with (first
      | (go_at_call 40; refine (cK.out _).mono ?_; rintro _ w1 ⟨rfl, hb1⟩)
      | (with_reducible refine wpList_alloc_row (t := 116) (z := .agg (bytesOf (List.replicate 64 0))) rfl rfl (by kernel_rfl) ?_; intro w2 hW2 hb2 hs2))
    have hx1 := (Whole.new w 58 #[.int .i64 L, .int .i64 M, .bool p.first, .bool p.last, .string p.body]).below hb1 (by simp)
    have hlt : w.heap.size < w1.heap.size := hx1.lt
    have hx2 := hx1.below hb2 hlt
    have hne : w.heap.size ≠ w1.heap.size := by omega
    have hB1 : Below w.heap.size w w1 := Below.trans ((Below.refl _ _).alloc (Nat.le_refl _) _) (hb1.mono (by simp))
    have hB2 : Below w.heap.size w w2 := hB1.trans (hb2.mono (by omega))
    clear hb1 hb2 hx1 hs2
    generalize w1.heap.size = g at hW2 hlt hne ⊢
    generalize hpb : w.heap.size = pb at hx2 hlt hne hB2 ⊢
    clear hB1
    have c0 := hx2.cell 0
    have c1 := hx2.cell 1
    have c2 := hx2.cell 2
    have c3 := hx2.cell 3
    have c4 := hx2.cell 4
    simp at c0 c1 c2 c3 c4
    simp only [Value.cells] at hW2
    obtain ⟨bs0, hbs0⟩ : ∃ bs0, bs0 = List.replicate 64 (0 : UInt8) := ⟨_, rfl⟩
    rw [← hbs0] at hW2
    have hl0 : bs0.length = 64 := by rw [hbs0, List.length_replicate]
    replace hbs0 := Lib.hid hbs0
    have hW2' := hW2.drew
    replace hW2' := Lib.hid hW2'
    clear hW2
    replace hpb := Lib.hid hpb
    clear hx2
    simp only [Act.put, List.setIfInBounds_toArray, List.set_cons_zero, List.set_cons_succ]
    have d0 : w2.drew.cell? ⟨pb, 0, none⟩ = some (.int .i64 L) := c0
    have d1 : w2.drew.cell? ⟨pb, 1, none⟩ = some (.int .i64 M) := c1
    have d2 : w2.drew.cell? ⟨pb, 2, none⟩ = some (.bool p.first) := c2
    have d3 : w2.drew.cell? ⟨pb, 3, none⟩ = some (.bool p.last) := c3
    have d4 : w2.drew.cell? ⟨pb, 4, none⟩ = some (.string p.body) := c4
    have hBd : Below pb w w2.drew := hB2.drew
    clear c0 c1 c2 c3 c4 hB2
    go_region_held (fun w' => w'.cell? ⟨pb, 0, none⟩ = some (.int .i64 L)) (assumption) ((go_at_call 82; refine (low_any g 0 4 64 L 116 bs0 w2.drew hW2'.out (by omega) (by omega) hL1).mono ?_; rintro _ w3 ⟨rfl, hW3, hg3⟩; have c0 := cell_keep d0 hg3 hne; have c1 := cell_keep d1 hg3 hne; have c2 := cell_keep d2 hg3 hne; have c3 := cell_keep d3 hg3 hne; have c4 := cell_keep d4 hg3 hne))
    have hB3 : Below pb w w3 := hBd.grown hg3 (Nat.le_of_lt (World.block_lt_of_cell? _ _ d0)) (fun k hk => by cases hk; omega)
    generalize hbs1 : laidAt bs0 0 L 4 = bs1 at hW3
    have hl1 : bs1.length = 64 := by rw [← hbs1, laidAt_length _ _ _ _ (by omega), hl0]
    replace hbs1 := Lib.hid hbs1
    clear d0 d1 d2 d3 d4 hg3
    go_wp2_with fail
    have hW3' := hW3.drew
    replace hW3' := Lib.hid hW3'
    clear hW3
    have d0 : w3.drew.cell? ⟨pb, 0, none⟩ = some (.int .i64 L) := c0
    have d1 : w3.drew.cell? ⟨pb, 1, none⟩ = some (.int .i64 M) := c1
    have d2 : w3.drew.cell? ⟨pb, 2, none⟩ = some (.bool p.first) := c2
    have d3 : w3.drew.cell? ⟨pb, 3, none⟩ = some (.bool p.last) := c3
    have d4 : w3.drew.cell? ⟨pb, 4, none⟩ = some (.string p.body) := c4
    have hBd' : Below pb w w3.drew := hB3.drew
    clear c0 c1 c2 c3 c4 hBd
    go_region_held (fun w' => w'.cell? ⟨pb, 1, none⟩ = some (.int .i64 M)) (assumption) ((go_at_call 82; refine (low_any g 4 5 60 M 116 bs1 w3.drew hW3'.out (by omega) (by omega) hM1).mono ?_; rintro _ w4 ⟨rfl, hW4, hg4⟩; have c0 := cell_keep d0 hg4 hne; have c1 := cell_keep d1 hg4 hne; have c2 := cell_keep d2 hg4 hne; have c3 := cell_keep d3 hg4 hne; have c4 := cell_keep d4 hg4 hne))
    have hB4 : Below pb w w4 := hBd'.grown hg4 (Nat.le_of_lt (World.block_lt_of_cell? _ _ d0)) (fun k hk => by cases hk; omega)
    generalize hbs2 : laidAt bs1 4 M 5 = bs2 at hW4
    have hl2 : bs2.length = 64 := by rw [← hbs2, laidAt_length _ _ _ _ (by omega), hl1]
    replace hbs2 := Lib.hid hbs2
    clear d0 d1 d2 d3 d4 hg4
    go_wp2_with fail
    refine mixb_begin g (by kernel_rfl) ?_
    have hW4' := hW4.drew
    replace hW4' := Lib.hid hW4'
    have d0 : w4.drew.cell? ⟨pb, 0, none⟩ = some (.int .i64 L) := c0
    have d2 : w4.drew.cell? ⟨pb, 2, none⟩ = some (.bool p.first) := c2
    have d3 : w4.drew.cell? ⟨pb, 3, none⟩ = some (.bool p.last) := c3
    have d4 : w4.drew.cell? ⟨pb, 4, none⟩ = some (.string p.body) := c4
    have hBd4 : Below pb w w4.drew := hB4.drew
    generalize w4.drew = w5 at hW4' d0 d2 d3 d4 hBd4 ⊢
    clear hW4 c0 c1 c2 c3 c4 hB4 hBd'
    have k0 : Below g w5 w5 := Below.refl _ _
    have k2 : ∀ s : PastB g w5, s.1.cell? ⟨pb, 2, none⟩ = some (.bool p.first) := fun s => s.cell d2 hlt
    have k3 : ∀ s : PastB g w5, s.1.cell? ⟨pb, 3, none⟩ = some (.bool p.last) := fun s => s.cell d3 hlt
    have k4 : ∀ s : PastB g w5, s.1.cell? ⟨pb, 4, none⟩ = some (.string p.body) := fun s => s.cell d4 hlt
    refine mixb_take 0 (v := ?_) rfl (by kernel_rfl) (fun _ _ _ h => h) (by kernel_rfl) (by assumption) (fun s => ?hy) ?_; case hy => (go_simp <;> with_reducible rfl)
    try simp only [List.getElem_toArray, List.getElem_cons_succ, List.getElem_cons_zero, Act.put, List.setIfInBounds_toArray, List.set_cons_zero, List.set_cons_succ]
    refine mixb_take 1 (v := ?_) rfl (by kernel_rfl) (fun _ _ _ h => h) (by kernel_rfl) (by assumption) (fun s => ?hy) ?_; case hy => (go_simp <;> with_reducible rfl)
    try simp only [List.getElem_toArray, List.getElem_cons_succ, List.getElem_cons_zero, Act.put, List.setIfInBounds_toArray, List.set_cons_zero, List.set_cons_succ]
    refine mixb_take 2 (v := ?_) rfl (by kernel_rfl) (fun _ _ _ h => h) (by kernel_rfl) (by assumption) (fun s => ?hy) ?_; case hy => (go_simp <;> with_reducible rfl)
    try simp only [List.getElem_toArray, List.getElem_cons_succ, List.getElem_cons_zero, Act.put, List.setIfInBounds_toArray, List.set_cons_zero, List.set_cons_succ]
    refine mixb_take 3 (v := ?_) rfl (by kernel_rfl) (fun _ _ _ h => h) (by kernel_rfl) (by assumption) (fun s => ?hy) ?_; case hy => (go_simp <;> with_reducible rfl)
    try simp only [List.getElem_toArray, List.getElem_cons_succ, List.getElem_cons_zero, Act.put, List.setIfInBounds_toArray, List.set_cons_zero, List.set_cons_succ]
    refine mixb_take 4 (v := ?_) rfl (by kernel_rfl) (fun _ _ _ h => h) (by kernel_rfl) (by assumption) (fun s => ?hy) ?_; case hy => (go_simp <;> with_reducible rfl)
    try simp only [List.getElem_toArray, List.getElem_cons_succ, List.getElem_cons_zero, Act.put, List.setIfInBounds_toArray, List.set_cons_zero, List.set_cons_succ]
    refine mixb_take 5 (v := ?_) rfl (by kernel_rfl) (fun _ _ _ h => h) (by kernel_rfl) (by assumption) (fun s => ?hy) ?_; case hy => (go_simp <;> with_reducible rfl)
    try simp only [List.getElem_toArray, List.getElem_cons_succ, List.getElem_cons_zero, Act.put, List.setIfInBounds_toArray, List.set_cons_zero, List.set_cons_succ]
    refine mixb_take 6 (v := ?_) rfl (by kernel_rfl) (fun _ _ _ h => h) (by kernel_rfl) (by assumption) (fun s => ?hy) ?_; case hy => (go_simp <;> with_reducible rfl)
    try simp only [List.getElem_toArray, List.getElem_cons_succ, List.getElem_cons_zero, Act.put, List.setIfInBounds_toArray, List.set_cons_zero, List.set_cons_succ]
    obtain ⟨F, hF⟩ : ∃ F : Nat, (F : Int) = (if p.first then 64 else 0) + (if p.last then 128 else 0) := ⟨(if p.first then 64 else 0) + (if p.last then 128 else 0), by cases p.first <;> cases p.last <;> rfl⟩
    have hor := or_flags p F hF h5
    replace hF := Lib.hid hF
    have hgs : g < w5.heap.size := hW4'.out.lt
    refine mixb_one 7 (by kernel_rfl) rfl (by assumption) (fun K hK => ?_)
    go_simp
    (skip)
    have hsl := Sl.new w5 #[.bool p.first, .bool p.last] 4 (0, 0)
    have hW6 := Whole.below hW4'.out ((Below.refl w5.heap.size w5).alloc (Nat.le_refl _) (.cells #[.bool p.first, .bool p.last] 4)) hgs
    have k6 : Below g w5 (w5.alloc (.cells #[.bool p.first, .bool p.last] 4)) := (Below.refl _ _).alloc (by omega) _
    refine hK.out g _ _ (Nat.le_refl _) k6 fun h6 => ?_
    clear hK K k2 k3 k4
    have hBd6 : Below pb w (w5.alloc (.cells #[.bool p.first, .bool p.last] 4)) := hBd4.trans (k6.mono (by omega))
    have e0 := (k6.cell hlt).trans d0
    have e4 := (k6.cell hlt).trans d4
    generalize hsz5 : w5.heap.size = q5 at hsl hgs ⊢
    generalize w5.alloc (.cells #[.bool p.first, .bool p.last] 4) = w6 at hsl hW6 k6 h6 hBd6 e0 e4 ⊢
    clear d0 d2 d3 d4 hBd4 k0
    skip
    refine mixb_one 8 (by kernel_rfl) rfl (by assumption) (fun K hK => ?_)
    go_simp
    (refine (flags_any _ _ p.first p.last w6 hsl).mono ?_; rintro _ _ ⟨rfl, rfl⟩; rw [← hF.out])
    refine hK.out g _ _ (Nat.le_refl _) (Below.refl _ _) fun h7 => ?_
    clear hK K h7
    refine mixb_take 9 (v := ?_) rfl (by kernel_rfl) (fun _ _ _ h => h) (by kernel_rfl) (by assumption) (fun s => ?hy) ?_; case hy => (go_simp <;> with_reducible rfl)
    try simp only [List.getElem_toArray, List.getElem_cons_succ, List.getElem_cons_zero, Act.put, List.setIfInBounds_toArray, List.set_cons_zero, List.set_cons_succ]
    refine mixb_take 10 (v := ?_) rfl (by kernel_rfl) (fun _ _ _ h => h) (by kernel_rfl) (by assumption) (fun s => ?hy) ?_; case hy => (go_simp <;> with_reducible rfl)
    try simp only [List.getElem_toArray, List.getElem_cons_succ, List.getElem_cons_zero, Act.put, List.setIfInBounds_toArray, List.set_cons_zero, List.set_cons_succ]
    refine mixb_take 11 (v := ?_) rfl (by kernel_rfl) (fun _ _ _ h => h) (by kernel_rfl) (by assumption) (fun s => ?hy) ?_; case hy => (go_simp <;> with_reducible rfl)
    try simp only [List.getElem_toArray, List.getElem_cons_succ, List.getElem_cons_zero, Act.put, List.setIfInBounds_toArray, List.set_cons_zero, List.set_cons_succ]
    have c9 := hW6.cell 9
    rw [bytesOf_get _ _ (by omega)] at c9
    have f9 := hW6.frozen 9
    replace hW6 := Lib.hid hW6
    refine mixb_one 12 (by kernel_rfl) rfl (by assumption) (fun K hK => ?_)
    go_simp
    (skip)
    have hvb := vb_wrap (sizeFlags p)
    have hW7 := hW6.out.set 9 (vb (UInt8.ofNat (sizeFlags p)))
    rw [bytesOf_set, hvb] at hW7
    have k7 : Below g w6 (w6.setCell ⟨g, 9, none⟩ (.int .u8 (IntKind.u8.wrap (sizeFlags p : Int)))) := (Below.refl _ _).grown (grown_set _ _ _ _) (by have := hW6.out.lt; omega) (fun k hk => by cases hk; exact Nat.le_refl _)
    refine hK.out g _ _ (Nat.le_refl _) k7 fun h7 => ?_
    clear hK K h7
    have hBd7 := hBd6.trans (k7.mono (by omega))
    have f0 := (k7.cell hlt).trans e0
    have f4 := (k7.cell hlt).trans e4
    generalize w6.setCell ⟨g, 9, none⟩ (.int .u8 (IntKind.u8.wrap (sizeFlags p : Int))) = w7 at hW7 k7 hBd7 f0 f4 ⊢
    generalize hbs3 : bs2.set 9 (UInt8.ofNat (sizeFlags p)) = bs3 at hW7
    have hl3 : bs3.length = 64 := by rw [← hbs3, List.length_set, hl2]
    replace hbs3 := Lib.hid hbs3
    clear k7 k6 e0 e4 hsl c9 f9 hvb hor h6
    refine wpAnyH_done (by kernel_rfl) ?_ _
    go_wp2_with fail
    refine mixb_begin g (by kernel_rfl) ?_
    have hW7' := hW7.drew
    replace hW7' := Lib.hid hW7'
    have d0 : w7.drew.cell? ⟨pb, 0, none⟩ = some (.int .i64 L) := f0
    have d4 : w7.drew.cell? ⟨pb, 4, none⟩ = some (.string p.body) := f4
    have hBd8 : Below pb w w7.drew := hBd7.drew
    generalize w7.drew = w8 at hW7' d0 d4 hBd8 ⊢
    clear hW7 f0 f4 hBd7
    have k0 : Below g w8 w8 := Below.refl _ _
    have k4 : ∀ s : PastB g w8, s.1.cell? ⟨pb, 4, none⟩ = some (.string p.body) := fun s => s.cell d4 hlt
    refine mixb_take 0 (v := ?_) rfl (by kernel_rfl) (fun _ _ _ h => h) (by kernel_rfl) (by assumption) (fun s => ?hy) ?_; case hy => (go_simp <;> with_reducible rfl)
    try simp only [List.getElem_toArray, List.getElem_cons_succ, List.getElem_cons_zero, Act.put, List.setIfInBounds_toArray, List.set_cons_zero, List.set_cons_succ]
    refine mixb_take 1 (v := ?_) rfl (by kernel_rfl) (fun _ _ _ h => h) (by kernel_rfl) (by assumption) (fun s => ?hy) ?_; case hy => (go_simp <;> with_reducible rfl)
    try simp only [List.getElem_toArray, List.getElem_cons_succ, List.getElem_cons_zero, Act.put, List.setIfInBounds_toArray, List.set_cons_zero, List.set_cons_succ]
    refine mixb_take 2 (v := ?_) rfl (by kernel_rfl) (fun _ _ _ h => h) (by kernel_rfl) (by assumption) (fun s => ?hy) ?_; case hy => (go_simp <;> with_reducible rfl)
    try simp only [List.getElem_toArray, List.getElem_cons_succ, List.getElem_cons_zero, Act.put, List.setIfInBounds_toArray, List.set_cons_zero, List.set_cons_succ]
    refine mixb_one 3 (by kernel_rfl) rfl (by assumption) (fun K hK => ?_)
    go_simp
    (skip)
    obtain ⟨w9, hr9, hW9, hg9⟩ := run_copy_str (P := Try.prog) w8 22 9 3 5 Try.underlying22 elem_u8 Try.underlying9 (off := 10) (n := 52) (c := 54) hW7'.out p.body h5 (by simp [bytesOf]; omega)
    rw [hr9]
    simp only [Result.andThen_ok]
    rw [Oper.upon_value]
    have k9 : Below g w8 w9 := (Below.refl _ _).grown hg9 (by have := hW7'.out.lt; omega) (fun k hk => by cases hk; exact Nat.le_refl _)
    refine hK.out g _ _ (Nat.le_refl _) k9 fun h9 => ?_
    clear hK K h9 k4 k0 hr9 hg9
    have hBd9 := hBd8.trans (k9.mono (by omega))
    have f0 := (k9.cell hlt).trans d0
    have f4 := (k9.cell hlt).trans d4
    obtain ⟨bs4, hbs4⟩ : ∃ bs4, bs4 = bs3.take 10 ++ p.body.data.toList ++ bs3.drop (10 + p.body.size) := ⟨_, rfl⟩
    have hW9' : Whole w9 g 116 (bytesOf bs4) := by
      have e : ((bytesOf bs3).toList.take 10 ++ p.body.data.toList.map vb ++ (bytesOf bs3).toList.drop (10 + p.body.size)).toArray = bytesOf bs4 := by
        rw [hbs4]
        simp [bytesOf, List.map_take, List.map_drop]
      rw [← e]
      exact hW9
    have hl4 : bs4.length = 64 := by
      rw [hbs4]
      simp only [List.length_append, List.length_take, List.length_drop, ← ba_size]
      omega
    replace hbs4 := Lib.hid hbs4
    clear hW9 k9 d0 d4 hBd8
    refine wpAnyH_done (by kernel_rfl) ?_ _
    go_wp2_with fail
    refine mixb_begin g (by kernel_rfl) ?_
    have hW10 := hW9'.drew
    replace hW10 := Lib.hid hW10
    have hBd10 : Below pb w w9.drew := hBd9.drew
    generalize w9.drew = w10 at hW10 hBd10 ⊢
    clear hW9' f0 f4 hBd9
    have k0 : Below g w10 w10 := Below.refl _ _
    refine mixb_take 0 (v := ?_) rfl (by kernel_rfl) (fun _ _ _ h => h) (by kernel_rfl) (by assumption) (fun s => ?hy) ?_; case hy => (go_simp <;> with_reducible rfl)
    try simp only [List.getElem_toArray, List.getElem_cons_succ, List.getElem_cons_zero, Act.put, List.setIfInBounds_toArray, List.set_cons_zero, List.set_cons_succ]
    refine mixb_take 1 (v := ?_) rfl (by kernel_rfl) (fun _ _ _ h => h) (by kernel_rfl) (by assumption) (fun s => ?hy) ?_; case hy => (go_simp <;> with_reducible rfl)
    try simp only [List.getElem_toArray, List.getElem_cons_succ, List.getElem_cons_zero, Act.put, List.setIfInBounds_toArray, List.set_cons_zero, List.set_cons_succ]
    have hs62 : Sl w10 (some ⟨g, 0, none⟩) ((bs4.take 62).map vb) := by
      intro i hi
      rw [List.length_map, List.length_take] at hi
      refine ⟨g, 0, rfl, ?_⟩
      have hc := hW10.out.cell (0 + i)
      rw [bytesOf_get _ _ (by omega)] at hc
      rw [hc]
      simp [vb]
    refine mixb_one 2 (by kernel_rfl) rfl (by assumption) (fun K hK => ?_)
    go_simp
    (refine (of_at (some ⟨g, 0, none⟩) (bs4.take 62) 64 w10 62 (by rw [List.length_take]; omega) hs62 (by unfold maxLen; omega)).mono ?_; rintro _ _ ⟨rfl, rfl⟩)
    refine hK.out g _ _ (Nat.le_refl _) (Below.refl _ _) fun h11 => ?_
    clear hK K h11 hs62
    obtain ⟨C, hC⟩ : ∃ C, C = (crc (bs4.take 62)).toNat := ⟨_, rfl⟩
    have hC1 : C < 4294967296 := by rw [hC]; exact (crc (bs4.take 62)).isLt
    rw [← hC]
    replace hC := Lib.hid hC
    refine mixb_take 3 (v := ?_) rfl (by kernel_rfl) (fun _ _ _ h => h) (by kernel_rfl) (by assumption) (fun s => ?hy) ?_; case hy => (go_simp <;> with_reducible rfl)
    try simp only [List.getElem_toArray, List.getElem_cons_succ, List.getElem_cons_zero, Act.put, List.setIfInBounds_toArray, List.set_cons_zero, List.set_cons_succ]
    refine mixb_one 4 (by kernel_rfl) rfl (by assumption) (fun K hK => ?_)
    go_simp
    (rw [wrap_i64_nat C (by omega)]; refine (low_any g 62 2 2 C 116 bs4 w10 hW10.out (by omega) (by omega) (by omega)).mono ?_; rintro _ w11 ⟨rfl, hW11, hg11⟩)
    have k11 : Below g w10 w11 := (Below.refl _ _).grown hg11 (by have := hW10.out.lt; omega) (fun k hk => by cases hk; exact Nat.le_refl _)
    refine hK.out g _ _ (Nat.le_refl _) k11 fun h12 => ?_
    clear hK K h12 k0 hg11
    have hBd11 := hBd10.trans (k11.mono (by omega))
    have hl5 := laidAt_length bs4 62 C 2 (by omega)
    generalize hbs5 : laidAt bs4 62 C 2 = bs5 at hW11 hl5
    replace hbs5 := Lib.hid hbs5
    clear k11 hBd10
    refine wpAnyH_done (by kernel_rfl) ?_ _
    have hsl : Sl w11 (some ⟨g, 0, none⟩) (bs5.map vb) := by
      intro i hi
      rw [List.length_map] at hi
      refine ⟨g, 0, rfl, ?_⟩
      have hc := hW11.cell (0 + i)
      rw [bytesOf_get _ _ (by omega)] at hc
      rw [hc]
      simp [vb]
    replace hsl := Lib.hid hsl
    go_wp2_with (with_reducible refine wpList_bts (src := 22) (dst := 9) (x := .tmp 36) (l := bs5) rfl rfl Try.underlying22 Try.underlying5 Try.underlying9 rfl hsl.out (by omega) ?_)
    go_ret
    have hfin : bs5 = putB p := put_bytes p L M hb.out hL.out hM.out bs0 bs1 bs2 bs3 bs4 bs5 C hbs0.out hbs1.out.symm hbs2.out.symm hbs3.out.symm hbs4.out hC.out hbs5.out.symm
    rw [hfin, hpb.out]
    exact ⟨rfl, hBd11⟩

end Go.Proofs.Ytcpkmgmdhjhfaaa
