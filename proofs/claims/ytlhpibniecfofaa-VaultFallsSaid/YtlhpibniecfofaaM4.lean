/- Texts laid together: Sec3 Get St6 Disk7. -/
import Derived.Test.YtlhpibniecfofaaM2
import Derived.Test.YtlhpibniecfofaaM3
section
/- The walk of piece.Put: a piece's sector. -/
set_option linter.unusedSimpArgs false
set_option linter.unusedVariables false
namespace Go.Proofs.Ytlhpibniecfofaa
open Go.RowKit Go.Ofp
set_option linter.unusedVariables false
set_option maxRecDepth 100000
set_option maxHeartbeats 4000000

theorem cell_keep {w w' : World} {g : Nat} {p : Addr} {v : Value} (h : w.cell? p = some v) (hg : w.grownBy w' (some g)) (hne : p.block ≠ g) : w'.cell? p = some v := by
  rw [World.cell?_of_block (hg.block p.block (World.block_lt_of_cell? w p h) (by simpa using hne))]
  exact h

theorem vb_wrap (n : Nat) : vb (UInt8.ofNat n) = .int .u8 (IntKind.u8.wrap (n : Int)) := by
  rw [vb_ofNat]
  congr 1

theorem or_flags (p : Pc) (F : Nat) (hF : (F : Int) = (if p.first then 64 else 0) + (if p.last then 128 else 0)) (h : p.body.size ≤ 52) : bits .or .i64 (p.body.size : Int) (F : Int) = ((sizeFlags p : Nat) : Int) := by
  have h1 : F % 2 ^ 6 = 0 ∧ F ≤ 192 ∧ sizeFlags p = F + p.body.size := by
    unfold sizeFlags
    cases h1 : p.first <;> cases h2 : p.last <;> simp [h1, h2] at hF ⊢ <;> omega
  rw [i64_or_nat _ _ (by omega) (by omega), Nat.or_comm, nat_join 6 F p.body.size h1.1 (by omega), h1.2.2]

theorem put_bytes (p : Pc) (L M : Nat) (hok : p.ok = true) (hL : (L : Int) = p.life) (hM : (M : Int) = p.place) (bs0 bs1 bs2 bs3 bs4 bs5 : List UInt8) (C : Nat)
    (h0 : bs0 = List.replicate 64 0) (h1 : bs1 = laidAt bs0 0 L 4) (h2 : bs2 = laidAt bs1 4 M 5) (h3 : bs3 = bs2.set 9 (UInt8.ofNat (sizeFlags p)))
    (h4 : bs4 = bs3.take 10 ++ p.body.data.toList ++ bs3.drop (10 + p.body.size)) (hC : C = (crc (bs4.take 62)).toNat) (h5 : bs5 = laidAt bs4 62 C 2) : bs5 = putB p := by
  have hs := ((Pc.ok_iff p).1 hok).2.2.2.2
  have eL : p.life.toNat = L := by omega
  have eM : p.place.toNat = M := by omega
  have e1 : bs1 = le L 4 ++ List.replicate 60 0 := by
    rw [h1, h0, laidAt]
    simp [List.drop_replicate]
  have e2 : bs2 = le L 4 ++ (le M 5 ++ List.replicate 55 0) := by
    rw [h2, e1, laidAt, List.take_append_of_le_length (by simp), List.take_of_length_le (by simp), List.drop_append, List.drop_of_length_le (by simp)]
    simp [List.drop_replicate]
  have e3 : bs3 = le L 4 ++ (le M 5 ++ (UInt8.ofNat (sizeFlags p) :: List.replicate 54 0)) := by
    rw [h3, e2, List.set_append_right _ _ (by simp), List.set_append_right _ _ (by simp)]
    simp only [le_length]
    rw [show List.replicate 55 (0 : UInt8) = 0 :: List.replicate 54 0 from rfl]
    rfl
  have hd : headB p = le L 4 ++ (le M 5 ++ (UInt8.ofNat (sizeFlags p) :: (p.body.data.toList ++ List.replicate (52 - p.body.size) 0))) := by rw [headB, eL, eM]
  have hlen := headB_length p hs
  have e4 : bs4 = headB p ++ List.replicate 2 0 := by
    have t10 : bs3.take 10 = le L 4 ++ (le M 5 ++ [UInt8.ofNat (sizeFlags p)]) := by
      rw [e3, List.take_append, List.take_of_length_le (by simp), List.take_append, List.take_of_length_le (by simp)]
      simp
    have d10 : bs3.drop (10 + p.body.size) = List.replicate (52 - p.body.size) 0 ++ List.replicate 2 0 := by
      rw [← List.drop_drop]
      have : bs3.drop 10 = List.replicate 54 0 := by
        rw [e3, List.drop_append, List.drop_of_length_le (by simp), List.nil_append, List.drop_append, List.drop_of_length_le (by simp)]
        simp
      rw [this, List.drop_replicate, List.replicate_append_replicate]
      congr 1
      omega
    rw [h4, t10, d10, hd]
    simp
  have t62 : bs4.take 62 = headB p := by rw [e4, List.take_append_of_le_length (by omega), List.take_of_length_le (by omega)]
  have d64 : bs4.drop 64 = [] := by rw [e4]; exact List.drop_of_length_le (by simp; omega)
  rw [h5, laidAt, t62, hC, t62, putB, if_pos hok, d64]
  simp

theorem put_any (p : Pc) (w : World) : Calls Try.prog 86 #[p.val] w fun e w' => e = .returned (.string (str (putB p))) ∧ Below w.heap.size w w' := by
  have hok := Pc.ok_iff p
  obtain ⟨b, hb⟩ : ∃ b, p.ok = b := ⟨_, rfl⟩
  have cK : ∀ W : World, Calls Try.prog 101 #[.agg #[.int .i64 p.life, .int .i64 p.place, .bool p.first, .bool p.last, .string p.body]] W fun e w' => e = .returned (.bool b) ∧ Below W.heap.size W w' := by
    intro W
    have := check_any p W
    rw [hb] at this
    exact this
  cases b with
  | false =>
    have hp : putB p = [] := by rw [putB, if_neg]; rw [hb]; simp
    rw [hp]
    replace hb := Lib.hid hb
    replace hok := Lib.hid hok
    simp only [Pc.val, Pc.row]
    go_enter Try.func86, Try.ntmps86
    go_wp2_with (go_at_call 101; refine (cK _).mono ?_; rintro _ w1 ⟨rfl, hb1⟩)
    go_ret
    exact ⟨rfl, Below.trans ((Below.refl _ _).alloc (Nat.le_refl _) _) (hb1.mono (by simp))⟩
  | true =>
    obtain ⟨h1, h2, h3, h4, h5⟩ := hok.1 hb
    obtain ⟨L, hL⟩ : ∃ L : Nat, (L : Int) = p.life := ⟨p.life.toNat, by omega⟩
    obtain ⟨M, hM⟩ : ∃ M : Nat, (M : Int) = p.place := ⟨p.place.toNat, by omega⟩
    have hL1 : L < 9223372036854775808 := by omega
    have hM1 : M < 9223372036854775808 := by omega
    replace hb := Lib.hid hb
    replace hok := Lib.hid hok
    replace hL := Lib.hid hL
    replace hM := Lib.hid hM
    simp only [Pc.val, Pc.row]
    rw [← hL.out, ← hM.out] at cK ⊢
    clear h1 h2 h3 h4
    replace cK := Lib.hid cK
    go_enter Try.func86, Try.ntmps86
    go_wp2_with (first
      | (go_at_call 101; refine (cK.out _).mono ?_; rintro _ w1 ⟨rfl, hb1⟩)
      | (with_reducible refine wpList_alloc_row (t := 120) (z := .agg (bytesOf (List.replicate 64 0))) rfl rfl (by kernel_rfl) ?_; intro w2 hW2 hb2 hs2))
    have hx1 := (Whole.new w 148 #[.int .i64 L, .int .i64 M, .bool p.first, .bool p.last, .string p.body]).below hb1 (by simp)
    have hlt : w.heap.size < w1.heap.size := hx1.lt
    have hx2 := hx1.below hb2 hlt
    have hne : w.heap.size ≠ w1.heap.size := by omega
    have hB1 : Below w.heap.size w w1 := Below.trans ((Below.refl _ _).alloc (Nat.le_refl _) _) (hb1.mono (by simp))
    have hB2 : Below w.heap.size w w2 := hB1.trans (hb2.mono (by omega))
    clear hb1 hb2 hx1 hs2
    generalize w1.heap.size = g at hW2 hlt hne ⊢
    generalize hpb : w.heap.size = pb at hx2 hlt hne hB2 ⊢
    clear hB1
    have c0 := hx2.cell 0
    have c1 := hx2.cell 1
    have c2 := hx2.cell 2
    have c3 := hx2.cell 3
    have c4 := hx2.cell 4
    simp at c0 c1 c2 c3 c4
    simp only [Value.cells] at hW2
    obtain ⟨bs0, hbs0⟩ : ∃ bs0, bs0 = List.replicate 64 (0 : UInt8) := ⟨_, rfl⟩
    rw [← hbs0] at hW2
    have hl0 : bs0.length = 64 := by rw [hbs0, List.length_replicate]
    replace hbs0 := Lib.hid hbs0
    have hW2' := hW2.drew
    replace hW2' := Lib.hid hW2'
    clear hW2
    replace hpb := Lib.hid hpb
    clear hx2
    simp only [Act.put, List.setIfInBounds_toArray, List.set_cons_zero, List.set_cons_succ]
    have d0 : w2.drew.cell? ⟨pb, 0, none⟩ = some (.int .i64 L) := c0
    have d1 : w2.drew.cell? ⟨pb, 1, none⟩ = some (.int .i64 M) := c1
    have d2 : w2.drew.cell? ⟨pb, 2, none⟩ = some (.bool p.first) := c2
    have d3 : w2.drew.cell? ⟨pb, 3, none⟩ = some (.bool p.last) := c3
    have d4 : w2.drew.cell? ⟨pb, 4, none⟩ = some (.string p.body) := c4
    have hBd : Below pb w w2.drew := hB2.drew
    clear c0 c1 c2 c3 c4 hB2
    go_region_held (fun w' => w'.cell? ⟨pb, 0, none⟩ = some (.int .i64 L)) (assumption) ((go_at_call 102; refine (low_any g 0 4 64 L 120 bs0 w2.drew hW2'.out (by omega) (by omega) hL1).mono ?_; rintro _ w3 ⟨rfl, hW3, hg3⟩; have c0 := cell_keep d0 hg3 hne; have c1 := cell_keep d1 hg3 hne; have c2 := cell_keep d2 hg3 hne; have c3 := cell_keep d3 hg3 hne; have c4 := cell_keep d4 hg3 hne))
    have hB3 : Below pb w w3 := hBd.grown hg3 (Nat.le_of_lt (World.block_lt_of_cell? _ _ d0)) (fun k hk => by cases hk; omega)
    generalize hbs1 : laidAt bs0 0 L 4 = bs1 at hW3
    have hl1 : bs1.length = 64 := by rw [← hbs1, laidAt_length _ _ _ _ (by omega), hl0]
    replace hbs1 := Lib.hid hbs1
    clear d0 d1 d2 d3 d4 hg3
    go_wp2_with fail
    have hW3' := hW3.drew
    replace hW3' := Lib.hid hW3'
    clear hW3
    have d0 : w3.drew.cell? ⟨pb, 0, none⟩ = some (.int .i64 L) := c0
    have d1 : w3.drew.cell? ⟨pb, 1, none⟩ = some (.int .i64 M) := c1
    have d2 : w3.drew.cell? ⟨pb, 2, none⟩ = some (.bool p.first) := c2
    have d3 : w3.drew.cell? ⟨pb, 3, none⟩ = some (.bool p.last) := c3
    have d4 : w3.drew.cell? ⟨pb, 4, none⟩ = some (.string p.body) := c4
    have hBd' : Below pb w w3.drew := hB3.drew
    clear c0 c1 c2 c3 c4 hBd
    go_region_held (fun w' => w'.cell? ⟨pb, 1, none⟩ = some (.int .i64 M)) (assumption) ((go_at_call 102; refine (low_any g 4 5 60 M 120 bs1 w3.drew hW3'.out (by omega) (by omega) hM1).mono ?_; rintro _ w4 ⟨rfl, hW4, hg4⟩; have c0 := cell_keep d0 hg4 hne; have c1 := cell_keep d1 hg4 hne; have c2 := cell_keep d2 hg4 hne; have c3 := cell_keep d3 hg4 hne; have c4 := cell_keep d4 hg4 hne))
    have hB4 : Below pb w w4 := hBd'.grown hg4 (Nat.le_of_lt (World.block_lt_of_cell? _ _ d0)) (fun k hk => by cases hk; omega)
    generalize hbs2 : laidAt bs1 4 M 5 = bs2 at hW4
    have hl2 : bs2.length = 64 := by rw [← hbs2, laidAt_length _ _ _ _ (by omega), hl1]
    replace hbs2 := Lib.hid hbs2
    clear d0 d1 d2 d3 d4 hg4
    go_wp2_with fail
    refine mixb_begin g (by kernel_rfl) ?_
    have hW4' := hW4.drew
    replace hW4' := Lib.hid hW4'
    have d0 : w4.drew.cell? ⟨pb, 0, none⟩ = some (.int .i64 L) := c0
    have d2 : w4.drew.cell? ⟨pb, 2, none⟩ = some (.bool p.first) := c2
    have d3 : w4.drew.cell? ⟨pb, 3, none⟩ = some (.bool p.last) := c3
    have d4 : w4.drew.cell? ⟨pb, 4, none⟩ = some (.string p.body) := c4
    have hBd4 : Below pb w w4.drew := hB4.drew
    generalize w4.drew = w5 at hW4' d0 d2 d3 d4 hBd4 ⊢
    clear hW4 c0 c1 c2 c3 c4 hB4 hBd'
    have k0 : Below g w5 w5 := Below.refl _ _
    have k2 : ∀ s : PastB g w5, s.1.cell? ⟨pb, 2, none⟩ = some (.bool p.first) := fun s => s.cell d2 hlt
    have k3 : ∀ s : PastB g w5, s.1.cell? ⟨pb, 3, none⟩ = some (.bool p.last) := fun s => s.cell d3 hlt
    have k4 : ∀ s : PastB g w5, s.1.cell? ⟨pb, 4, none⟩ = some (.string p.body) := fun s => s.cell d4 hlt
    refine mixb_take 0 (v := ?_) rfl (by kernel_rfl) (fun _ _ _ h => h) (by kernel_rfl) (by assumption) (fun s => ?hy) ?_; case hy => (go_simp <;> with_reducible rfl)
    try simp only [List.getElem_toArray, List.getElem_cons_succ, List.getElem_cons_zero, Act.put, List.setIfInBounds_toArray, List.set_cons_zero, List.set_cons_succ]
    refine mixb_take 1 (v := ?_) rfl (by kernel_rfl) (fun _ _ _ h => h) (by kernel_rfl) (by assumption) (fun s => ?hy) ?_; case hy => (go_simp <;> with_reducible rfl)
    try simp only [List.getElem_toArray, List.getElem_cons_succ, List.getElem_cons_zero, Act.put, List.setIfInBounds_toArray, List.set_cons_zero, List.set_cons_succ]
    refine mixb_take 2 (v := ?_) rfl (by kernel_rfl) (fun _ _ _ h => h) (by kernel_rfl) (by assumption) (fun s => ?hy) ?_; case hy => (go_simp <;> with_reducible rfl)
    try simp only [List.getElem_toArray, List.getElem_cons_succ, List.getElem_cons_zero, Act.put, List.setIfInBounds_toArray, List.set_cons_zero, List.set_cons_succ]
    refine mixb_take 3 (v := ?_) rfl (by kernel_rfl) (fun _ _ _ h => h) (by kernel_rfl) (by assumption) (fun s => ?hy) ?_; case hy => (go_simp <;> with_reducible rfl)
    try simp only [List.getElem_toArray, List.getElem_cons_succ, List.getElem_cons_zero, Act.put, List.setIfInBounds_toArray, List.set_cons_zero, List.set_cons_succ]
    refine mixb_take 4 (v := ?_) rfl (by kernel_rfl) (fun _ _ _ h => h) (by kernel_rfl) (by assumption) (fun s => ?hy) ?_; case hy => (go_simp <;> with_reducible rfl)
    try simp only [List.getElem_toArray, List.getElem_cons_succ, List.getElem_cons_zero, Act.put, List.setIfInBounds_toArray, List.set_cons_zero, List.set_cons_succ]
    refine mixb_take 5 (v := ?_) rfl (by kernel_rfl) (fun _ _ _ h => h) (by kernel_rfl) (by assumption) (fun s => ?hy) ?_; case hy => (go_simp <;> with_reducible rfl)
    try simp only [List.getElem_toArray, List.getElem_cons_succ, List.getElem_cons_zero, Act.put, List.setIfInBounds_toArray, List.set_cons_zero, List.set_cons_succ]
    refine mixb_take 6 (v := ?_) rfl (by kernel_rfl) (fun _ _ _ h => h) (by kernel_rfl) (by assumption) (fun s => ?hy) ?_; case hy => (go_simp <;> with_reducible rfl)
    try simp only [List.getElem_toArray, List.getElem_cons_succ, List.getElem_cons_zero, Act.put, List.setIfInBounds_toArray, List.set_cons_zero, List.set_cons_succ]
    obtain ⟨F, hF⟩ : ∃ F : Nat, (F : Int) = (if p.first then 64 else 0) + (if p.last then 128 else 0) := ⟨(if p.first then 64 else 0) + (if p.last then 128 else 0), by cases p.first <;> cases p.last <;> rfl⟩
    have hor := or_flags p F hF h5
    replace hF := Lib.hid hF
    have hgs : g < w5.heap.size := hW4'.out.lt
    refine mixb_one 7 (by kernel_rfl) rfl (by assumption) (fun K hK => ?_)
    go_simp
    (skip)
    have hsl := Sl.new w5 #[.bool p.first, .bool p.last] 4 (0, 0)
    have hW6 := Whole.below hW4'.out ((Below.refl w5.heap.size w5).alloc (Nat.le_refl _) (.cells #[.bool p.first, .bool p.last] 4)) hgs
    have k6 : Below g w5 (w5.alloc (.cells #[.bool p.first, .bool p.last] 4)) := (Below.refl _ _).alloc (by omega) _
    refine hK.out g _ _ (Nat.le_refl _) k6 fun h6 => ?_
    clear hK K k2 k3 k4
    have hBd6 : Below pb w (w5.alloc (.cells #[.bool p.first, .bool p.last] 4)) := hBd4.trans (k6.mono (by omega))
    have e0 := (k6.cell hlt).trans d0
    have e4 := (k6.cell hlt).trans d4
    generalize hsz5 : w5.heap.size = q5 at hsl hgs ⊢
    generalize w5.alloc (.cells #[.bool p.first, .bool p.last] 4) = w6 at hsl hW6 k6 h6 hBd6 e0 e4 ⊢
    clear d0 d2 d3 d4 hBd4 k0
    skip
    refine mixb_one 8 (by kernel_rfl) rfl (by assumption) (fun K hK => ?_)
    go_simp
    (refine (flags_any _ _ p.first p.last w6 hsl).mono ?_; rintro _ _ ⟨rfl, rfl⟩; rw [← hF.out])
    refine hK.out g _ _ (Nat.le_refl _) (Below.refl _ _) fun h7 => ?_
    clear hK K h7
    refine mixb_take 9 (v := ?_) rfl (by kernel_rfl) (fun _ _ _ h => h) (by kernel_rfl) (by assumption) (fun s => ?hy) ?_; case hy => (go_simp <;> with_reducible rfl)
    try simp only [List.getElem_toArray, List.getElem_cons_succ, List.getElem_cons_zero, Act.put, List.setIfInBounds_toArray, List.set_cons_zero, List.set_cons_succ]
    refine mixb_take 10 (v := ?_) rfl (by kernel_rfl) (fun _ _ _ h => h) (by kernel_rfl) (by assumption) (fun s => ?hy) ?_; case hy => (go_simp <;> with_reducible rfl)
    try simp only [List.getElem_toArray, List.getElem_cons_succ, List.getElem_cons_zero, Act.put, List.setIfInBounds_toArray, List.set_cons_zero, List.set_cons_succ]
    refine mixb_take 11 (v := ?_) rfl (by kernel_rfl) (fun _ _ _ h => h) (by kernel_rfl) (by assumption) (fun s => ?hy) ?_; case hy => (go_simp <;> with_reducible rfl)
    try simp only [List.getElem_toArray, List.getElem_cons_succ, List.getElem_cons_zero, Act.put, List.setIfInBounds_toArray, List.set_cons_zero, List.set_cons_succ]
    have c9 := hW6.cell 9
    rw [bytesOf_get _ _ (by omega)] at c9
    have f9 := hW6.frozen 9
    replace hW6 := Lib.hid hW6
    refine mixb_one 12 (by kernel_rfl) rfl (by assumption) (fun K hK => ?_)
    go_simp
    (skip)
    have hvb := vb_wrap (sizeFlags p)
    have hW7 := hW6.out.set 9 (vb (UInt8.ofNat (sizeFlags p)))
    rw [bytesOf_set, hvb] at hW7
    have k7 : Below g w6 (w6.setCell ⟨g, 9, none⟩ (.int .u8 (IntKind.u8.wrap (sizeFlags p : Int)))) := (Below.refl _ _).grown (grown_set _ _ _ _) (by have := hW6.out.lt; omega) (fun k hk => by cases hk; exact Nat.le_refl _)
    refine hK.out g _ _ (Nat.le_refl _) k7 fun h7 => ?_
    clear hK K h7
    have hBd7 := hBd6.trans (k7.mono (by omega))
    have f0 := (k7.cell hlt).trans e0
    have f4 := (k7.cell hlt).trans e4
    generalize w6.setCell ⟨g, 9, none⟩ (.int .u8 (IntKind.u8.wrap (sizeFlags p : Int))) = w7 at hW7 k7 hBd7 f0 f4 ⊢
    generalize hbs3 : bs2.set 9 (UInt8.ofNat (sizeFlags p)) = bs3 at hW7
    have hl3 : bs3.length = 64 := by rw [← hbs3, List.length_set, hl2]
    replace hbs3 := Lib.hid hbs3
    clear k7 k6 e0 e4 hsl c9 f9 hvb hor h6
    refine wpAnyH_done (by kernel_rfl) ?_ _
    go_wp2_with fail
    refine mixb_begin g (by kernel_rfl) ?_
    have hW7' := hW7.drew
    replace hW7' := Lib.hid hW7'
    have d0 : w7.drew.cell? ⟨pb, 0, none⟩ = some (.int .i64 L) := f0
    have d4 : w7.drew.cell? ⟨pb, 4, none⟩ = some (.string p.body) := f4
    have hBd8 : Below pb w w7.drew := hBd7.drew
    generalize w7.drew = w8 at hW7' d0 d4 hBd8 ⊢
    clear hW7 f0 f4 hBd7
    have k0 : Below g w8 w8 := Below.refl _ _
    have k4 : ∀ s : PastB g w8, s.1.cell? ⟨pb, 4, none⟩ = some (.string p.body) := fun s => s.cell d4 hlt
    refine mixb_take 0 (v := ?_) rfl (by kernel_rfl) (fun _ _ _ h => h) (by kernel_rfl) (by assumption) (fun s => ?hy) ?_; case hy => (go_simp <;> with_reducible rfl)
    try simp only [List.getElem_toArray, List.getElem_cons_succ, List.getElem_cons_zero, Act.put, List.setIfInBounds_toArray, List.set_cons_zero, List.set_cons_succ]
    refine mixb_take 1 (v := ?_) rfl (by kernel_rfl) (fun _ _ _ h => h) (by kernel_rfl) (by assumption) (fun s => ?hy) ?_; case hy => (go_simp <;> with_reducible rfl)
    try simp only [List.getElem_toArray, List.getElem_cons_succ, List.getElem_cons_zero, Act.put, List.setIfInBounds_toArray, List.set_cons_zero, List.set_cons_succ]
    refine mixb_take 2 (v := ?_) rfl (by kernel_rfl) (fun _ _ _ h => h) (by kernel_rfl) (by assumption) (fun s => ?hy) ?_; case hy => (go_simp <;> with_reducible rfl)
    try simp only [List.getElem_toArray, List.getElem_cons_succ, List.getElem_cons_zero, Act.put, List.setIfInBounds_toArray, List.set_cons_zero, List.set_cons_succ]
    refine mixb_one 3 (by kernel_rfl) rfl (by assumption) (fun K hK => ?_)
    go_simp
    (skip)
    obtain ⟨w9, hr9, hW9, hg9⟩ := run_copy_str (P := Try.prog) w8 127 9 3 5 Try.underlying127 elem_u8 Try.underlying9 (off := 10) (n := 52) (c := 54) hW7'.out p.body h5 (by simp [bytesOf]; omega)
    rw [hr9]
    simp only [Result.andThen_ok]
    rw [Oper.upon_value]
    have k9 : Below g w8 w9 := (Below.refl _ _).grown hg9 (by have := hW7'.out.lt; omega) (fun k hk => by cases hk; exact Nat.le_refl _)
    refine hK.out g _ _ (Nat.le_refl _) k9 fun h9 => ?_
    clear hK K h9 k4 k0 hr9 hg9
    have hBd9 := hBd8.trans (k9.mono (by omega))
    have f0 := (k9.cell hlt).trans d0
    have f4 := (k9.cell hlt).trans d4
    obtain ⟨bs4, hbs4⟩ : ∃ bs4, bs4 = bs3.take 10 ++ p.body.data.toList ++ bs3.drop (10 + p.body.size) := ⟨_, rfl⟩
    have hW9' : Whole w9 g 120 (bytesOf bs4) := by
      have e : ((bytesOf bs3).toList.take 10 ++ p.body.data.toList.map vb ++ (bytesOf bs3).toList.drop (10 + p.body.size)).toArray = bytesOf bs4 := by
        rw [hbs4]
        simp [bytesOf, List.map_take, List.map_drop]
      rw [← e]
      exact hW9
    have hl4 : bs4.length = 64 := by
      rw [hbs4]
      simp only [List.length_append, List.length_take, List.length_drop, ← ba_size]
      omega
    replace hbs4 := Lib.hid hbs4
    clear hW9 k9 d0 d4 hBd8
    refine wpAnyH_done (by kernel_rfl) ?_ _
    go_wp2_with fail
    refine mixb_begin g (by kernel_rfl) ?_
    have hW10 := hW9'.drew
    replace hW10 := Lib.hid hW10
    have hBd10 : Below pb w w9.drew := hBd9.drew
    generalize w9.drew = w10 at hW10 hBd10 ⊢
    clear hW9' f0 f4 hBd9
    have k0 : Below g w10 w10 := Below.refl _ _
    refine mixb_take 0 (v := ?_) rfl (by kernel_rfl) (fun _ _ _ h => h) (by kernel_rfl) (by assumption) (fun s => ?hy) ?_; case hy => (go_simp <;> with_reducible rfl)
    try simp only [List.getElem_toArray, List.getElem_cons_succ, List.getElem_cons_zero, Act.put, List.setIfInBounds_toArray, List.set_cons_zero, List.set_cons_succ]
    refine mixb_take 1 (v := ?_) rfl (by kernel_rfl) (fun _ _ _ h => h) (by kernel_rfl) (by assumption) (fun s => ?hy) ?_; case hy => (go_simp <;> with_reducible rfl)
    try simp only [List.getElem_toArray, List.getElem_cons_succ, List.getElem_cons_zero, Act.put, List.setIfInBounds_toArray, List.set_cons_zero, List.set_cons_succ]
    have hs62 : Sl w10 (some ⟨g, 0, none⟩) ((bs4.take 62).map vb) := by
      intro i hi
      rw [List.length_map, List.length_take] at hi
      refine ⟨g, 0, rfl, ?_⟩
      have hc := hW10.out.cell (0 + i)
      rw [bytesOf_get _ _ (by omega)] at hc
      rw [hc]
      simp [vb]
    refine mixb_one 2 (by kernel_rfl) rfl (by assumption) (fun K hK => ?_)
    go_simp
    (refine (of_at (some ⟨g, 0, none⟩) (bs4.take 62) 64 w10 62 (by rw [List.length_take]; omega) hs62 (by unfold maxLen; omega)).mono ?_; rintro _ _ ⟨rfl, rfl⟩)
    refine hK.out g _ _ (Nat.le_refl _) (Below.refl _ _) fun h11 => ?_
    clear hK K h11 hs62
    obtain ⟨C, hC⟩ : ∃ C, C = (crc (bs4.take 62)).toNat := ⟨_, rfl⟩
    have hC1 : C < 4294967296 := by rw [hC]; exact (crc (bs4.take 62)).isLt
    rw [← hC]
    replace hC := Lib.hid hC
    refine mixb_take 3 (v := ?_) rfl (by kernel_rfl) (fun _ _ _ h => h) (by kernel_rfl) (by assumption) (fun s => ?hy) ?_; case hy => (go_simp <;> with_reducible rfl)
    try simp only [List.getElem_toArray, List.getElem_cons_succ, List.getElem_cons_zero, Act.put, List.setIfInBounds_toArray, List.set_cons_zero, List.set_cons_succ]
    refine mixb_one 4 (by kernel_rfl) rfl (by assumption) (fun K hK => ?_)
    go_simp
    (rw [wrap_i64_nat C (by omega)]; refine (low_any g 62 2 2 C 120 bs4 w10 hW10.out (by omega) (by omega) (by omega)).mono ?_; rintro _ w11 ⟨rfl, hW11, hg11⟩)
    have k11 : Below g w10 w11 := (Below.refl _ _).grown hg11 (by have := hW10.out.lt; omega) (fun k hk => by cases hk; exact Nat.le_refl _)
    refine hK.out g _ _ (Nat.le_refl _) k11 fun h12 => ?_
    clear hK K h12 k0 hg11
    have hBd11 := hBd10.trans (k11.mono (by omega))
    have hl5 := laidAt_length bs4 62 C 2 (by omega)
    generalize hbs5 : laidAt bs4 62 C 2 = bs5 at hW11 hl5
    replace hbs5 := Lib.hid hbs5
    clear k11 hBd10
    refine wpAnyH_done (by kernel_rfl) ?_ _
    have hsl : Sl w11 (some ⟨g, 0, none⟩) (bs5.map vb) := by
      intro i hi
      rw [List.length_map] at hi
      refine ⟨g, 0, rfl, ?_⟩
      have hc := hW11.cell (0 + i)
      rw [bytesOf_get _ _ (by omega)] at hc
      rw [hc]
      simp [vb]
    replace hsl := Lib.hid hsl
    go_wp2_with (with_reducible refine wpList_bts (src := 127) (dst := 9) (x := .tmp 36) (l := bs5) rfl rfl Try.underlying127 Try.underlying5 Try.underlying9 rfl hsl.out (by omega) ?_)
    go_ret
    have hfin : bs5 = putB p := put_bytes p L M hb.out hL.out hM.out bs0 bs1 bs2 bs3 bs4 bs5 C hbs0.out hbs1.out.symm hbs2.out.symm hbs3.out.symm hbs4.out hC.out hbs5.out.symm
    rw [hfin, hpb.out]
    exact ⟨rfl, hBd11⟩

end Go.Proofs.Ytlhpibniecfofaa
end

section
/- The walk of piece.Get. -/
set_option linter.unusedSimpArgs false
set_option linter.unusedVariables false
namespace Go.Proofs.Ytlhpibniecfofaa
open Go.RowKit Go.Ofp
set_option linter.unusedVariables false
set_option maxRecDepth 100000
set_option maxHeartbeats 4000000

theorem byte_bits (c : UInt8) : wrap64 (c.toNat : Int) = ((c.toNat : Nat) : Int) ∧ bits .and .i64 ((c.toNat : Nat) : Int) 63 = ((c.toNat % 64 : Nat) : Int) ∧ (bits .and .i64 ((c.toNat : Nat) : Int) 64 != 0) = (c.toNat / 64 % 2 == 1) ∧ (bits .and .i64 ((c.toNat : Nat) : Int) 128 != 0) = (c.toNat / 128 == 1) := by
  have h := c.toNat_lt
  generalize c.toNat = n at h
  have key : ∀ n, n < 256 → (n &&& 63 = n % 64 ∧ ((n &&& 64) != 0) = (n / 64 % 2 == 1) ∧ ((n &&& 128) != 0) = (n / 128 == 1)) := by decide +kernel
  obtain ⟨k1, k2, k3⟩ := key n h
  have e1 := i64_and_nat n 63 (by omega) (by decide)
  have e2 := i64_and_nat n 64 (by omega) (by decide)
  have e3 := i64_and_nat n 128 (by omega) (by decide)
  refine ⟨by rw [← IntWalk.i64_left, wrap_i64_nat _ (by omega)], ?_, ?_, ?_⟩
  · rw [← k1]; exact e1
  · rw [← k2, show (64 : Int) = ((64 : Nat) : Int) from rfl, e2]
    rw [Bool.eq_iff_iff, bne_iff_ne, bne_iff_ne]; omega
  · rw [← k3, show (128 : Int) = ((128 : Nat) : Int) from rfl, e3]
    rw [Bool.eq_iff_iff, bne_iff_ne, bne_iff_ne]; omega

theorem get_any (s : ByteArray) (w : World) (hs : s.size ≤ maxLen) : Calls Try.prog 105 #[.string s] w fun e w' => e = .returned (.tuple #[(getB s).1.val, .bool (getB s).2]) ∧ Below w.heap.size w w' := by
  unfold maxLen at hs
  have hS := St.start w
  have ez := elem_pc
  by_cases hl : s.size = 64
  · have h9 : s[9].toNat = (s.data.toList.getD 9 0).toNat := by
      rw [List.getD_eq_getElem?_getD, List.getElem?_eq_getElem (by rw [← ba_size]; omega)]
      rfl
    obtain ⟨b1, b2, b3, b4⟩ := byte_bits s[9]
    generalize hn : s[9].toNat = n at *
    have hn1 : n < 256 := by rw [← hn]; exact s[9].toNat_lt
    replace h9 := Lib.hid h9
    go_enter Try.func105, Try.ntmps105
    go_wp2_with (first | (with_reducible refine wpList_box_st hS rfl rfl rfl ?_; intro g1 w1 hS1; clear hS; replace hS := hS1; clear hS1) | (with_reducible refine wpList_box1_st hS rfl rfl rfl ?_; intro g1 w1 hS1; clear hS; replace hS := hS1; clear hS1) | (with_reducible refine wpList_alloc_st hS rfl rfl (by assumption) ?_; intro g1 w1 hS1; clear hS; replace hS := hS1; clear hS1) | (with_reducible refine wpList_alloc1_st hS rfl rfl (by assumption) rfl ?_; intro g1 w1 hS1; clear hS; replace hS := hS1; clear hS1) | ((with_reducible refine wpList_load_st 0 hS rfl rfl rfl rfl ?_ rfl ?_); focus (simp [scalarB, go_sem]; done)) | ((with_reducible refine wpList_loadall_st 0 hS rfl rfl rfl rfl ?_ (by kernel_rfl) ?_); focus (simp [rowB, go_sem]; done)) | ((with_reducible refine wpList_store_st 0 hS rfl rfl rfl rfl (by kernel_rfl) rfl rfl ?_); intro w1 hS1; clear hS; replace hS := hS1; clear hS1; try simp only [List.set_cons_zero, List.set_cons_succ, List.setIfInBounds_toArray, List.take_succ_cons, List.take_zero, List.drop_succ_cons, List.drop_zero, List.nil_append, List.cons_append, List.append_nil, List.drop_nil, List.take_nil, List.length_cons, List.length_nil, Nat.zero_add, Nat.add_zero, Nat.reduceAdd] at hS) | ((with_reducible refine wpList_storerow_st 0 hS rfl rfl rfl rfl (by kernel_rfl) rfl rfl rfl rfl ?_); intro w1 hS1; clear hS; replace hS := hS1; clear hS1; try simp only [List.set_cons_zero, List.set_cons_succ, List.setIfInBounds_toArray, List.take_succ_cons, List.take_zero, List.drop_succ_cons, List.drop_zero, List.nil_append, List.cons_append, List.append_nil, List.drop_nil, List.take_nil, List.length_cons, List.length_nil, Nat.zero_add, Nat.add_zero, Nat.reduceAdd] at hS))
    · have e : getB s = (noPc, false) := by
        rw [getB, ← h9.out, if_neg]
        rintro ⟨-, k, -⟩
        omega
      rw [e]
      have c := hS.cell 0 rfl
      exact bodyPost_ret (by simp [results, Try.results105, go_sem, c]; rfl) rfl ⟨rfl, hS.below⟩
    · have h52 : n % 64 ≤ 52 := by omega
      have x0 : ((numLE (s.data.toList.take 4) : Nat) : Int) = (readPc s).life := rfl
      have x1 : ((numLE ((s.data.toList.drop 4).take 5) : Nat) : Int) = (readPc s).place := rfl
      have x2 : (n / 64 % 2 == 1) = (readPc s).first := by rw [readPc, h9.out]
      have x3 : (n / 128 == 1) = (readPc s).last := by rw [readPc, h9.out]
      have x4 : s.extract 10 (10 + n % 64) = (readPc s).body := by rw [readPc, h9.out]
      have hg : getB s = if str (putB (readPc s)) = s then (readPc s, true) else (noPc, false) := by
        rw [getB, ← h9.out]
        by_cases h : str (putB (readPc s)) = s
        · rw [if_pos h, if_pos ⟨hl, h52, h⟩]
        · rw [if_neg h, if_neg (fun k => h k.2.2)]
      generalize readPc s = p at x0 x1 x2 x3 x4 hg
      replace hg := Lib.hid hg
      have i10 : IntKind.i64.wrap (10 + (n : Int) % 64) = 10 + (n : Int) % 64 := IntWalk.i64_in _ (by omega)
      have i11 : 0 ≤ 10 + (n : Int) % 64 := by omega
      have i13 : 10 + (n : Int) % 64 ≤ 64 := by omega
      have i14 : 10 ≤ 10 + (n : Int) % 64 := by omega
      have i12 : (10 + (n : Int) % 64).toNat = 10 + n % 64 := by omega
      refine mixs_begin (by kernel_rfl) hS ?_
      clear hS
      intro w2 hS
      refine mixs_take 0 (v := ?_) rfl (by kernel_rfl) (fun _ _ _ h => h) (by kernel_rfl) (by assumption) (fun s => ?hy) ?_; case hy => (go_simp <;> with_reducible rfl)
      try simp only [List.getElem_toArray, List.getElem_cons_succ, List.getElem_cons_zero, Act.put, List.setIfInBounds_toArray, List.set_cons_zero, List.set_cons_succ]
      refine mixs_take 1 (v := ?_) rfl (by kernel_rfl) (fun _ _ _ h => h) (by kernel_rfl) (by assumption) (fun s => ?hy) ?_; case hy => (go_simp <;> with_reducible rfl)
      try simp only [List.getElem_toArray, List.getElem_cons_succ, List.getElem_cons_zero, Act.put, List.setIfInBounds_toArray, List.set_cons_zero, List.set_cons_succ]
      refine mixs_take 3 (v := ?_) rfl (by kernel_rfl) (fun _ _ _ h => h) (by kernel_rfl) (by assumption) (fun s => ?hy) ?_; case hy => (go_simp <;> with_reducible rfl)
      try simp only [List.getElem_toArray, List.getElem_cons_succ, List.getElem_cons_zero, Act.put, List.setIfInBounds_toArray, List.set_cons_zero, List.set_cons_succ]
      refine mixs_take 4 (v := ?_) rfl (by kernel_rfl) (fun _ _ _ h => h) (by kernel_rfl) (by assumption) (fun s => ?hy) ?_; case hy => (go_simp <;> with_reducible rfl)
      try simp only [List.getElem_toArray, List.getElem_cons_succ, List.getElem_cons_zero, Act.put, List.setIfInBounds_toArray, List.set_cons_zero, List.set_cons_succ]
      refine mixs_take 6 (v := ?_) rfl (by kernel_rfl) (fun _ _ _ h => h) (by kernel_rfl) (by assumption) (fun s => ?hy) ?_; case hy => (go_simp <;> with_reducible rfl)
      try simp only [List.getElem_toArray, List.getElem_cons_succ, List.getElem_cons_zero, Act.put, List.setIfInBounds_toArray, List.set_cons_zero, List.set_cons_succ]
      refine mixs_take 7 (v := ?_) rfl (by kernel_rfl) (fun _ _ _ h => h) (by kernel_rfl) (by assumption) (fun s => ?hy) ?_; case hy => (go_simp <;> with_reducible rfl)
      try simp only [List.getElem_toArray, List.getElem_cons_succ, List.getElem_cons_zero, Act.put, List.setIfInBounds_toArray, List.set_cons_zero, List.set_cons_succ]
      refine mixs_take 8 (v := ?_) rfl (by kernel_rfl) (fun _ _ _ h => h) (by kernel_rfl) (by assumption) (fun s => ?hy) ?_; case hy => (go_simp <;> with_reducible rfl)
      try simp only [List.getElem_toArray, List.getElem_cons_succ, List.getElem_cons_zero, Act.put, List.setIfInBounds_toArray, List.set_cons_zero, List.set_cons_succ]
      refine mixs_take 9 (v := ?_) rfl (by kernel_rfl) (fun _ _ _ h => h) (by kernel_rfl) (by assumption) (fun s => ?hy) ?_; case hy => (go_simp <;> with_reducible rfl)
      try simp only [List.getElem_toArray, List.getElem_cons_succ, List.getElem_cons_zero, Act.put, List.setIfInBounds_toArray, List.set_cons_zero, List.set_cons_succ]
      refine mixs_take 10 (v := ?_) rfl (by kernel_rfl) (fun _ _ _ h => h) (by kernel_rfl) (by assumption) (fun s => ?hy) ?_; case hy => (go_simp <;> with_reducible rfl)
      try simp only [List.getElem_toArray, List.getElem_cons_succ, List.getElem_cons_zero, Act.put, List.setIfInBounds_toArray, List.set_cons_zero, List.set_cons_succ]
      refine mixs_take 11 (v := ?_) rfl (by kernel_rfl) (fun _ _ _ h => h) (by kernel_rfl) (by assumption) (fun s => ?hy) ?_; case hy => (go_simp <;> with_reducible rfl)
      try simp only [List.getElem_toArray, List.getElem_cons_succ, List.getElem_cons_zero, Act.put, List.setIfInBounds_toArray, List.set_cons_zero, List.set_cons_succ]
      refine mixs_take 12 (v := ?_) rfl (by kernel_rfl) (fun _ _ _ h => h) (by kernel_rfl) (by assumption) (fun s => ?hy) ?_; case hy => (go_simp <;> with_reducible rfl)
      try simp only [List.getElem_toArray, List.getElem_cons_succ, List.getElem_cons_zero, Act.put, List.setIfInBounds_toArray, List.set_cons_zero, List.set_cons_succ]
      refine mixs_take 13 (v := ?_) rfl (by kernel_rfl) (fun _ _ _ h => h) (by kernel_rfl) (by assumption) (fun s => ?hy) ?_; case hy => (go_simp <;> with_reducible rfl)
      try simp only [List.getElem_toArray, List.getElem_cons_succ, List.getElem_cons_zero, Act.put, List.setIfInBounds_toArray, List.set_cons_zero, List.set_cons_succ]
      refine mixs_take 14 (v := ?_) rfl (by kernel_rfl) (fun _ _ _ h => h) (by kernel_rfl) (by assumption) (fun s => ?hy) ?_; case hy => (go_simp <;> with_reducible rfl)
      try simp only [List.getElem_toArray, List.getElem_cons_succ, List.getElem_cons_zero, Act.put, List.setIfInBounds_toArray, List.set_cons_zero, List.set_cons_succ]
      refine mixs_take 15 (v := ?_) rfl (by kernel_rfl) (fun _ _ _ h => h) (by kernel_rfl) (by assumption) (fun s => ?hy) ?_; case hy => (go_simp <;> with_reducible rfl)
      try simp only [List.getElem_toArray, List.getElem_cons_succ, List.getElem_cons_zero, Act.put, List.setIfInBounds_toArray, List.set_cons_zero, List.set_cons_succ]
      refine mixs_two 2 17 (by kernel_rfl) rfl rfl (fun K hK => ?_) (fun K hK => ?_)
      ·
        go_simp
        ( go_at_call 111; refine (number_any _ _ (by simp; omega)).mono ?_; rintro _ _ ⟨rfl, rfl⟩ )
        try clear hC
        refine hK.out _ _ _ (fun _ h => h) (by first | exact hS | exact hS.drop | exact hS.drop.drop | exact hS.drop.drop.drop | exact hS.drop.drop.drop.drop | exact hS.empty | exact hS.one 0 rfl | exact hS.one 1 rfl | exact hS.one 2 rfl | exact hS.one 3 rfl | exact hS.one 4 rfl | exact hS.one 5 rfl | exact hS.one 6 rfl | exact hS.one 7 rfl | exact hS.one 8 rfl | exact hS.one 9 rfl | exact hS.one 10 rfl | exact hS.one 11 rfl) (fun hC => ?_)
        clear hK K
        try simp only [List.getElem_toArray, List.getElem_cons_succ, List.getElem_cons_zero, Act.put, List.setIfInBounds_toArray, List.set_cons_zero, List.set_cons_succ]
        refine mixs_two 5 17 (by kernel_rfl) rfl rfl (fun K hK => ?_) (fun K hK => ?_)
        ·
          go_simp
          ( go_at_call 111; refine (number_any _ _ (by simp; omega)).mono ?_; rintro _ _ ⟨rfl, rfl⟩ )
          try clear hC
          refine hK.out _ _ _ (fun _ h => h) (by first | exact hS | exact hS.drop | exact hS.drop.drop | exact hS.drop.drop.drop | exact hS.drop.drop.drop.drop | exact hS.empty | exact hS.one 0 rfl | exact hS.one 1 rfl | exact hS.one 2 rfl | exact hS.one 3 rfl | exact hS.one 4 rfl | exact hS.one 5 rfl | exact hS.one 6 rfl | exact hS.one 7 rfl | exact hS.one 8 rfl | exact hS.one 9 rfl | exact hS.one 10 rfl | exact hS.one 11 rfl) (fun hC => ?_)
          clear hK K
          try simp only [List.getElem_toArray, List.getElem_cons_succ, List.getElem_cons_zero, Act.put, List.setIfInBounds_toArray, List.set_cons_zero, List.set_cons_succ]
          refine mixs_take 16 (v := ?_) rfl (by kernel_rfl) (fun _ _ _ h => h) (by kernel_rfl) (by assumption) (fun s => ?hy) ?_; case hy => (go_simp <;> with_reducible rfl)
          try simp only [List.getElem_toArray, List.getElem_cons_succ, List.getElem_cons_zero, Act.put, List.setIfInBounds_toArray, List.set_cons_zero, List.set_cons_succ]
          refine mixs_one 17 (by kernel_rfl) rfl (fun K hK => ?_)
          refine op_alloc_st (by kernel_rfl) rfl (by assumption) hS ?_
          intro g1 w1 hS1; clear hS; have hS := hS1; clear hS1
          try clear hC
          refine hK.out _ _ _ (fun _ h => h) (by first | exact hS | exact hS.drop | exact hS.drop.drop | exact hS.drop.drop.drop | exact hS.drop.drop.drop.drop | exact hS.empty | exact hS.one 0 rfl | exact hS.one 1 rfl | exact hS.one 2 rfl | exact hS.one 3 rfl | exact hS.one 4 rfl | exact hS.one 5 rfl | exact hS.one 6 rfl | exact hS.one 7 rfl | exact hS.one 8 rfl | exact hS.one 9 rfl | exact hS.one 10 rfl | exact hS.one 11 rfl) (fun hC => ?_)
          clear hK K
          try simp only [List.getElem_toArray, List.getElem_cons_succ, List.getElem_cons_zero, Act.put, List.setIfInBounds_toArray, List.set_cons_zero, List.set_cons_succ]
          refine mixs_one 18 (by kernel_rfl) rfl (fun K hK => ?_)
          refine op_storerow_st (by kernel_rfl) 0 hS rfl rfl rfl (by kernel_rfl) rfl rfl rfl rfl ?_
          intro w1 hS1; clear hS; have hS := hS1; clear hS1; try simp only [List.set_cons_zero, List.set_cons_succ, List.setIfInBounds_toArray, List.take_succ_cons, List.take_zero, List.drop_succ_cons, List.drop_zero, List.nil_append, List.cons_append, List.append_nil, List.drop_nil, List.take_nil, List.length_cons, List.length_nil, Nat.zero_add, Nat.add_zero, Nat.reduceAdd] at hS
          try clear hC
          refine hK.out _ _ _ (fun _ h => h) (by first | exact hS | exact hS.drop | exact hS.drop.drop | exact hS.drop.drop.drop | exact hS.drop.drop.drop.drop | exact hS.empty | exact hS.one 0 rfl | exact hS.one 1 rfl | exact hS.one 2 rfl | exact hS.one 3 rfl | exact hS.one 4 rfl | exact hS.one 5 rfl | exact hS.one 6 rfl | exact hS.one 7 rfl | exact hS.one 8 rfl | exact hS.one 9 rfl | exact hS.one 10 rfl | exact hS.one 11 rfl) (fun hC => ?_)
          clear hK K
          try simp only [List.getElem_toArray, List.getElem_cons_succ, List.getElem_cons_zero, Act.put, List.setIfInBounds_toArray, List.set_cons_zero, List.set_cons_succ]
          refine wpAnyH_done (by kernel_rfl) ?_ _
          clear x0 x1 x2 x3 x4 i10 i11 i12 i13 i14 b1 b2 b3 b4 hn
          try clear hC
          go_wp2_with (first | (with_reducible refine wpList_box_st hS rfl rfl rfl ?_; intro g1 w1 hS1; clear hS; replace hS := hS1; clear hS1) | (with_reducible refine wpList_box1_st hS rfl rfl rfl ?_; intro g1 w1 hS1; clear hS; replace hS := hS1; clear hS1) | (with_reducible refine wpList_alloc_st hS rfl rfl (by assumption) ?_; intro g1 w1 hS1; clear hS; replace hS := hS1; clear hS1) | (with_reducible refine wpList_alloc1_st hS rfl rfl (by assumption) rfl ?_; intro g1 w1 hS1; clear hS; replace hS := hS1; clear hS1) | ((with_reducible refine wpList_load_st 0 hS rfl rfl rfl rfl ?_ rfl ?_); focus (simp [scalarB, go_sem]; done)) | ((with_reducible refine wpList_loadall_st 0 hS rfl rfl rfl rfl ?_ (by kernel_rfl) ?_); focus (simp [rowB, go_sem]; done)) | ((with_reducible refine wpList_store_st 0 hS rfl rfl rfl rfl (by kernel_rfl) rfl rfl ?_); intro w1 hS1; clear hS; replace hS := hS1; clear hS1; try simp only [List.set_cons_zero, List.set_cons_succ, List.setIfInBounds_toArray, List.take_succ_cons, List.take_zero, List.drop_succ_cons, List.drop_zero, List.nil_append, List.cons_append, List.append_nil, List.drop_nil, List.take_nil, List.length_cons, List.length_nil, Nat.zero_add, Nat.add_zero, Nat.reduceAdd] at hS) | ((with_reducible refine wpList_storerow_st 0 hS rfl rfl rfl rfl (by kernel_rfl) rfl rfl rfl rfl ?_); intro w1 hS1; clear hS; replace hS := hS1; clear hS1; try simp only [List.set_cons_zero, List.set_cons_succ, List.setIfInBounds_toArray, List.take_succ_cons, List.take_zero, List.drop_succ_cons, List.drop_zero, List.nil_append, List.cons_append, List.append_nil, List.drop_nil, List.take_nil, List.length_cons, List.length_nil, Nat.zero_add, Nat.add_zero, Nat.reduceAdd] at hS) | ((with_reducible refine wpList_load_st 1 hS rfl rfl rfl rfl ?_ rfl ?_); focus (simp [scalarB, go_sem]; done)) | ((with_reducible refine wpList_loadall_st 1 hS rfl rfl rfl rfl ?_ (by kernel_rfl) ?_); focus (simp [rowB, go_sem]; done)) | ((with_reducible refine wpList_store_st 1 hS rfl rfl rfl rfl (by kernel_rfl) rfl rfl ?_); intro w1 hS1; clear hS; replace hS := hS1; clear hS1; try simp only [List.set_cons_zero, List.set_cons_succ, List.setIfInBounds_toArray, List.take_succ_cons, List.take_zero, List.drop_succ_cons, List.drop_zero, List.nil_append, List.cons_append, List.append_nil, List.drop_nil, List.take_nil, List.length_cons, List.length_nil, Nat.zero_add, Nat.add_zero, Nat.reduceAdd] at hS) | ((with_reducible refine wpList_storerow_st 1 hS rfl rfl rfl rfl (by kernel_rfl) rfl rfl rfl rfl ?_); intro w1 hS1; clear hS; replace hS := hS1; clear hS1; try simp only [List.set_cons_zero, List.set_cons_succ, List.setIfInBounds_toArray, List.take_succ_cons, List.take_zero, List.drop_succ_cons, List.drop_zero, List.nil_append, List.cons_append, List.append_nil, List.drop_nil, List.take_nil, List.length_cons, List.length_nil, Nat.zero_add, Nat.add_zero, Nat.reduceAdd] at hS) | (go_at_call 86; refine (put_any p _).mono ?_; rintro _ w3 ⟨rfl, hb3⟩; have hS1 := hS.keepB hb3; clear hb3 hS; have hS := hS1; clear hS1))
          all_goals
            have c := hS.cell 1 rfl
            first
              | (have h : (!putB p == s.toList) = true := by assumption
                 have e : getB s = (noPc, false) := by
                   rw [hg.out, if_neg]
                   intro k
                   rw [← k] at h
                   simp at h
                 rw [e]
                 exact bodyPost_ret (by simp [results, Try.results105, go_sem, c]; rfl) rfl ⟨rfl, hS.below⟩)
              | (have h0 : (!putB p == s.toList) = false := by assumption
                 have h : putB p = s.toList := by simpa using h0
                 have e : getB s = (p, true) := by
                   rw [hg.out, if_pos]
                   apply ba_ext
                   rw [str_data, h, ByteArray.toList_eq]
                 rw [e]
                 exact bodyPost_ret (by simp [results, Try.results105, go_sem, c]; rfl) rfl ⟨rfl, hS.below⟩)
        ·
          refine op_alloc_st (by kernel_rfl) rfl (by assumption) hS ?_
          intro g1 w1 hS1; clear hS; have hS := hS1; clear hS1
          try clear hC
          refine hK.out _ _ _ (fun _ h => h) (by first | exact hS | exact hS.drop | exact hS.drop.drop | exact hS.drop.drop.drop | exact hS.drop.drop.drop.drop | exact hS.empty | exact hS.one 0 rfl | exact hS.one 1 rfl | exact hS.one 2 rfl | exact hS.one 3 rfl | exact hS.one 4 rfl | exact hS.one 5 rfl | exact hS.one 6 rfl | exact hS.one 7 rfl | exact hS.one 8 rfl | exact hS.one 9 rfl | exact hS.one 10 rfl | exact hS.one 11 rfl) (fun hC => ?_)
          clear hK K
          try simp only [List.getElem_toArray, List.getElem_cons_succ, List.getElem_cons_zero, Act.put, List.setIfInBounds_toArray, List.set_cons_zero, List.set_cons_succ]
          refine mixs_one 5 (by kernel_rfl) rfl (fun K hK => ?_)
          go_simp
          ( go_at_call 111; refine (number_any _ _ (by simp; omega)).mono ?_; rintro _ _ ⟨rfl, rfl⟩ )
          try clear hC
          refine hK.out _ _ _ (fun _ h => h) (by first | exact hS | exact hS.drop | exact hS.drop.drop | exact hS.drop.drop.drop | exact hS.drop.drop.drop.drop | exact hS.empty | exact hS.one 0 rfl | exact hS.one 1 rfl | exact hS.one 2 rfl | exact hS.one 3 rfl | exact hS.one 4 rfl | exact hS.one 5 rfl | exact hS.one 6 rfl | exact hS.one 7 rfl | exact hS.one 8 rfl | exact hS.one 9 rfl | exact hS.one 10 rfl | exact hS.one 11 rfl) (fun hC => ?_)
          clear hK K
          try simp only [List.getElem_toArray, List.getElem_cons_succ, List.getElem_cons_zero, Act.put, List.setIfInBounds_toArray, List.set_cons_zero, List.set_cons_succ]
          refine mixs_take 16 (v := ?_) rfl (by kernel_rfl) (fun _ _ _ h => h) (by kernel_rfl) (by assumption) (fun s => ?hy) ?_; case hy => (go_simp <;> with_reducible rfl)
          try simp only [List.getElem_toArray, List.getElem_cons_succ, List.getElem_cons_zero, Act.put, List.setIfInBounds_toArray, List.set_cons_zero, List.set_cons_succ]
          refine mixs_one 18 (by kernel_rfl) rfl (fun K hK => ?_)
          refine op_storerow_st (by kernel_rfl) 0 hS rfl rfl rfl (by kernel_rfl) rfl rfl rfl rfl ?_
          intro w1 hS1; clear hS; have hS := hS1; clear hS1; try simp only [List.set_cons_zero, List.set_cons_succ, List.setIfInBounds_toArray, List.take_succ_cons, List.take_zero, List.drop_succ_cons, List.drop_zero, List.nil_append, List.cons_append, List.append_nil, List.drop_nil, List.take_nil, List.length_cons, List.length_nil, Nat.zero_add, Nat.add_zero, Nat.reduceAdd] at hS
          try clear hC
          refine hK.out _ _ _ (fun _ h => h) (by first | exact hS | exact hS.drop | exact hS.drop.drop | exact hS.drop.drop.drop | exact hS.drop.drop.drop.drop | exact hS.empty | exact hS.one 0 rfl | exact hS.one 1 rfl | exact hS.one 2 rfl | exact hS.one 3 rfl | exact hS.one 4 rfl | exact hS.one 5 rfl | exact hS.one 6 rfl | exact hS.one 7 rfl | exact hS.one 8 rfl | exact hS.one 9 rfl | exact hS.one 10 rfl | exact hS.one 11 rfl) (fun hC => ?_)
          clear hK K
          try simp only [List.getElem_toArray, List.getElem_cons_succ, List.getElem_cons_zero, Act.put, List.setIfInBounds_toArray, List.set_cons_zero, List.set_cons_succ]
          refine wpAnyH_done (by kernel_rfl) ?_ _
          clear x0 x1 x2 x3 x4 i10 i11 i12 i13 i14 b1 b2 b3 b4 hn
          try clear hC
          go_wp2_with (first | (with_reducible refine wpList_box_st hS rfl rfl rfl ?_; intro g1 w1 hS1; clear hS; replace hS := hS1; clear hS1) | (with_reducible refine wpList_box1_st hS rfl rfl rfl ?_; intro g1 w1 hS1; clear hS; replace hS := hS1; clear hS1) | (with_reducible refine wpList_alloc_st hS rfl rfl (by assumption) ?_; intro g1 w1 hS1; clear hS; replace hS := hS1; clear hS1) | (with_reducible refine wpList_alloc1_st hS rfl rfl (by assumption) rfl ?_; intro g1 w1 hS1; clear hS; replace hS := hS1; clear hS1) | ((with_reducible refine wpList_load_st 0 hS rfl rfl rfl rfl ?_ rfl ?_); focus (simp [scalarB, go_sem]; done)) | ((with_reducible refine wpList_loadall_st 0 hS rfl rfl rfl rfl ?_ (by kernel_rfl) ?_); focus (simp [rowB, go_sem]; done)) | ((with_reducible refine wpList_store_st 0 hS rfl rfl rfl rfl (by kernel_rfl) rfl rfl ?_); intro w1 hS1; clear hS; replace hS := hS1; clear hS1; try simp only [List.set_cons_zero, List.set_cons_succ, List.setIfInBounds_toArray, List.take_succ_cons, List.take_zero, List.drop_succ_cons, List.drop_zero, List.nil_append, List.cons_append, List.append_nil, List.drop_nil, List.take_nil, List.length_cons, List.length_nil, Nat.zero_add, Nat.add_zero, Nat.reduceAdd] at hS) | ((with_reducible refine wpList_storerow_st 0 hS rfl rfl rfl rfl (by kernel_rfl) rfl rfl rfl rfl ?_); intro w1 hS1; clear hS; replace hS := hS1; clear hS1; try simp only [List.set_cons_zero, List.set_cons_succ, List.setIfInBounds_toArray, List.take_succ_cons, List.take_zero, List.drop_succ_cons, List.drop_zero, List.nil_append, List.cons_append, List.append_nil, List.drop_nil, List.take_nil, List.length_cons, List.length_nil, Nat.zero_add, Nat.add_zero, Nat.reduceAdd] at hS) | ((with_reducible refine wpList_load_st 1 hS rfl rfl rfl rfl ?_ rfl ?_); focus (simp [scalarB, go_sem]; done)) | ((with_reducible refine wpList_loadall_st 1 hS rfl rfl rfl rfl ?_ (by kernel_rfl) ?_); focus (simp [rowB, go_sem]; done)) | ((with_reducible refine wpList_store_st 1 hS rfl rfl rfl rfl (by kernel_rfl) rfl rfl ?_); intro w1 hS1; clear hS; replace hS := hS1; clear hS1; try simp only [List.set_cons_zero, List.set_cons_succ, List.setIfInBounds_toArray, List.take_succ_cons, List.take_zero, List.drop_succ_cons, List.drop_zero, List.nil_append, List.cons_append, List.append_nil, List.drop_nil, List.take_nil, List.length_cons, List.length_nil, Nat.zero_add, Nat.add_zero, Nat.reduceAdd] at hS) | ((with_reducible refine wpList_storerow_st 1 hS rfl rfl rfl rfl (by kernel_rfl) rfl rfl rfl rfl ?_); intro w1 hS1; clear hS; replace hS := hS1; clear hS1; try simp only [List.set_cons_zero, List.set_cons_succ, List.setIfInBounds_toArray, List.take_succ_cons, List.take_zero, List.drop_succ_cons, List.drop_zero, List.nil_append, List.cons_append, List.append_nil, List.drop_nil, List.take_nil, List.length_cons, List.length_nil, Nat.zero_add, Nat.add_zero, Nat.reduceAdd] at hS) | (go_at_call 86; refine (put_any p _).mono ?_; rintro _ w3 ⟨rfl, hb3⟩; have hS1 := hS.keepB hb3; clear hb3 hS; have hS := hS1; clear hS1))
          all_goals
            have c := hS.cell 1 rfl
            first
              | (have h : (!putB p == s.toList) = true := by assumption
                 have e : getB s = (noPc, false) := by
                   rw [hg.out, if_neg]
                   intro k
                   rw [← k] at h
                   simp at h
                 rw [e]
                 exact bodyPost_ret (by simp [results, Try.results105, go_sem, c]; rfl) rfl ⟨rfl, hS.below⟩)
              | (have h0 : (!putB p == s.toList) = false := by assumption
                 have h : putB p = s.toList := by simpa using h0
                 have e : getB s = (p, true) := by
                   rw [hg.out, if_pos]
                   apply ba_ext
                   rw [str_data, h, ByteArray.toList_eq]
                 rw [e]
                 exact bodyPost_ret (by simp [results, Try.results105, go_sem, c]; rfl) rfl ⟨rfl, hS.below⟩)
      ·
        refine op_alloc_st (by kernel_rfl) rfl (by assumption) hS ?_
        intro g1 w1 hS1; clear hS; have hS := hS1; clear hS1
        try clear hC
        refine hK.out _ _ _ (fun _ h => h) (by first | exact hS | exact hS.drop | exact hS.drop.drop | exact hS.drop.drop.drop | exact hS.drop.drop.drop.drop | exact hS.empty | exact hS.one 0 rfl | exact hS.one 1 rfl | exact hS.one 2 rfl | exact hS.one 3 rfl | exact hS.one 4 rfl | exact hS.one 5 rfl | exact hS.one 6 rfl | exact hS.one 7 rfl | exact hS.one 8 rfl | exact hS.one 9 rfl | exact hS.one 10 rfl | exact hS.one 11 rfl) (fun hC => ?_)
        clear hK K
        try simp only [List.getElem_toArray, List.getElem_cons_succ, List.getElem_cons_zero, Act.put, List.setIfInBounds_toArray, List.set_cons_zero, List.set_cons_succ]
        refine mixs_one 2 (by kernel_rfl) rfl (fun K hK => ?_)
        go_simp
        ( go_at_call 111; refine (number_any _ _ (by simp; omega)).mono ?_; rintro _ _ ⟨rfl, rfl⟩ )
        try clear hC
        refine hK.out _ _ _ (fun _ h => h) (by first | exact hS | exact hS.drop | exact hS.drop.drop | exact hS.drop.drop.drop | exact hS.drop.drop.drop.drop | exact hS.empty | exact hS.one 0 rfl | exact hS.one 1 rfl | exact hS.one 2 rfl | exact hS.one 3 rfl | exact hS.one 4 rfl | exact hS.one 5 rfl | exact hS.one 6 rfl | exact hS.one 7 rfl | exact hS.one 8 rfl | exact hS.one 9 rfl | exact hS.one 10 rfl | exact hS.one 11 rfl) (fun hC => ?_)
        clear hK K
        try simp only [List.getElem_toArray, List.getElem_cons_succ, List.getElem_cons_zero, Act.put, List.setIfInBounds_toArray, List.set_cons_zero, List.set_cons_succ]
        refine mixs_one 5 (by kernel_rfl) rfl (fun K hK => ?_)
        go_simp
        ( go_at_call 111; refine (number_any _ _ (by simp; omega)).mono ?_; rintro _ _ ⟨rfl, rfl⟩ )
        try clear hC
        refine hK.out _ _ _ (fun _ h => h) (by first | exact hS | exact hS.drop | exact hS.drop.drop | exact hS.drop.drop.drop | exact hS.drop.drop.drop.drop | exact hS.empty | exact hS.one 0 rfl | exact hS.one 1 rfl | exact hS.one 2 rfl | exact hS.one 3 rfl | exact hS.one 4 rfl | exact hS.one 5 rfl | exact hS.one 6 rfl | exact hS.one 7 rfl | exact hS.one 8 rfl | exact hS.one 9 rfl | exact hS.one 10 rfl | exact hS.one 11 rfl) (fun hC => ?_)
        clear hK K
        try simp only [List.getElem_toArray, List.getElem_cons_succ, List.getElem_cons_zero, Act.put, List.setIfInBounds_toArray, List.set_cons_zero, List.set_cons_succ]
        refine mixs_take 16 (v := ?_) rfl (by kernel_rfl) (fun _ _ _ h => h) (by kernel_rfl) (by assumption) (fun s => ?hy) ?_; case hy => (go_simp <;> with_reducible rfl)
        try simp only [List.getElem_toArray, List.getElem_cons_succ, List.getElem_cons_zero, Act.put, List.setIfInBounds_toArray, List.set_cons_zero, List.set_cons_succ]
        refine mixs_one 18 (by kernel_rfl) rfl (fun K hK => ?_)
        refine op_storerow_st (by kernel_rfl) 0 hS rfl rfl rfl (by kernel_rfl) rfl rfl rfl rfl ?_
        intro w1 hS1; clear hS; have hS := hS1; clear hS1; try simp only [List.set_cons_zero, List.set_cons_succ, List.setIfInBounds_toArray, List.take_succ_cons, List.take_zero, List.drop_succ_cons, List.drop_zero, List.nil_append, List.cons_append, List.append_nil, List.drop_nil, List.take_nil, List.length_cons, List.length_nil, Nat.zero_add, Nat.add_zero, Nat.reduceAdd] at hS
        try clear hC
        refine hK.out _ _ _ (fun _ h => h) (by first | exact hS | exact hS.drop | exact hS.drop.drop | exact hS.drop.drop.drop | exact hS.drop.drop.drop.drop | exact hS.empty | exact hS.one 0 rfl | exact hS.one 1 rfl | exact hS.one 2 rfl | exact hS.one 3 rfl | exact hS.one 4 rfl | exact hS.one 5 rfl | exact hS.one 6 rfl | exact hS.one 7 rfl | exact hS.one 8 rfl | exact hS.one 9 rfl | exact hS.one 10 rfl | exact hS.one 11 rfl) (fun hC => ?_)
        clear hK K
        try simp only [List.getElem_toArray, List.getElem_cons_succ, List.getElem_cons_zero, Act.put, List.setIfInBounds_toArray, List.set_cons_zero, List.set_cons_succ]
        refine wpAnyH_done (by kernel_rfl) ?_ _
        clear x0 x1 x2 x3 x4 i10 i11 i12 i13 i14 b1 b2 b3 b4 hn
        try clear hC
        go_wp2_with (first | (with_reducible refine wpList_box_st hS rfl rfl rfl ?_; intro g1 w1 hS1; clear hS; replace hS := hS1; clear hS1) | (with_reducible refine wpList_box1_st hS rfl rfl rfl ?_; intro g1 w1 hS1; clear hS; replace hS := hS1; clear hS1) | (with_reducible refine wpList_alloc_st hS rfl rfl (by assumption) ?_; intro g1 w1 hS1; clear hS; replace hS := hS1; clear hS1) | (with_reducible refine wpList_alloc1_st hS rfl rfl (by assumption) rfl ?_; intro g1 w1 hS1; clear hS; replace hS := hS1; clear hS1) | ((with_reducible refine wpList_load_st 0 hS rfl rfl rfl rfl ?_ rfl ?_); focus (simp [scalarB, go_sem]; done)) | ((with_reducible refine wpList_loadall_st 0 hS rfl rfl rfl rfl ?_ (by kernel_rfl) ?_); focus (simp [rowB, go_sem]; done)) | ((with_reducible refine wpList_store_st 0 hS rfl rfl rfl rfl (by kernel_rfl) rfl rfl ?_); intro w1 hS1; clear hS; replace hS := hS1; clear hS1; try simp only [List.set_cons_zero, List.set_cons_succ, List.setIfInBounds_toArray, List.take_succ_cons, List.take_zero, List.drop_succ_cons, List.drop_zero, List.nil_append, List.cons_append, List.append_nil, List.drop_nil, List.take_nil, List.length_cons, List.length_nil, Nat.zero_add, Nat.add_zero, Nat.reduceAdd] at hS) | ((with_reducible refine wpList_storerow_st 0 hS rfl rfl rfl rfl (by kernel_rfl) rfl rfl rfl rfl ?_); intro w1 hS1; clear hS; replace hS := hS1; clear hS1; try simp only [List.set_cons_zero, List.set_cons_succ, List.setIfInBounds_toArray, List.take_succ_cons, List.take_zero, List.drop_succ_cons, List.drop_zero, List.nil_append, List.cons_append, List.append_nil, List.drop_nil, List.take_nil, List.length_cons, List.length_nil, Nat.zero_add, Nat.add_zero, Nat.reduceAdd] at hS) | ((with_reducible refine wpList_load_st 1 hS rfl rfl rfl rfl ?_ rfl ?_); focus (simp [scalarB, go_sem]; done)) | ((with_reducible refine wpList_loadall_st 1 hS rfl rfl rfl rfl ?_ (by kernel_rfl) ?_); focus (simp [rowB, go_sem]; done)) | ((with_reducible refine wpList_store_st 1 hS rfl rfl rfl rfl (by kernel_rfl) rfl rfl ?_); intro w1 hS1; clear hS; replace hS := hS1; clear hS1; try simp only [List.set_cons_zero, List.set_cons_succ, List.setIfInBounds_toArray, List.take_succ_cons, List.take_zero, List.drop_succ_cons, List.drop_zero, List.nil_append, List.cons_append, List.append_nil, List.drop_nil, List.take_nil, List.length_cons, List.length_nil, Nat.zero_add, Nat.add_zero, Nat.reduceAdd] at hS) | ((with_reducible refine wpList_storerow_st 1 hS rfl rfl rfl rfl (by kernel_rfl) rfl rfl rfl rfl ?_); intro w1 hS1; clear hS; replace hS := hS1; clear hS1; try simp only [List.set_cons_zero, List.set_cons_succ, List.setIfInBounds_toArray, List.take_succ_cons, List.take_zero, List.drop_succ_cons, List.drop_zero, List.nil_append, List.cons_append, List.append_nil, List.drop_nil, List.take_nil, List.length_cons, List.length_nil, Nat.zero_add, Nat.add_zero, Nat.reduceAdd] at hS) | (go_at_call 86; refine (put_any p _).mono ?_; rintro _ w3 ⟨rfl, hb3⟩; have hS1 := hS.keepB hb3; clear hb3 hS; have hS := hS1; clear hS1))
        all_goals
          have c := hS.cell 1 rfl
          first
            | (have h : (!putB p == s.toList) = true := by assumption
               have e : getB s = (noPc, false) := by
                 rw [hg.out, if_neg]
                 intro k
                 rw [← k] at h
                 simp at h
               rw [e]
               exact bodyPost_ret (by simp [results, Try.results105, go_sem, c]; rfl) rfl ⟨rfl, hS.below⟩)
            | (have h0 : (!putB p == s.toList) = false := by assumption
               have h : putB p = s.toList := by simpa using h0
               have e : getB s = (p, true) := by
                 rw [hg.out, if_pos]
                 apply ba_ext
                 rw [str_data, h, ByteArray.toList_eq]
               rw [e]
               exact bodyPost_ret (by simp [results, Try.results105, go_sem, c]; rfl) rfl ⟨rfl, hS.below⟩)
  · have hg : getB s = (noPc, false) := by rw [getB, if_neg]; rintro ⟨h, _⟩; exact hl h
    rw [hg]
    clear hg
    go_enter Try.func105, Try.ntmps105
    go_wp2_with (first | (with_reducible refine wpList_box_st hS rfl rfl rfl ?_; intro g1 w1 hS1; clear hS; replace hS := hS1; clear hS1) | (with_reducible refine wpList_box1_st hS rfl rfl rfl ?_; intro g1 w1 hS1; clear hS; replace hS := hS1; clear hS1) | (with_reducible refine wpList_alloc_st hS rfl rfl (by assumption) ?_; intro g1 w1 hS1; clear hS; replace hS := hS1; clear hS1) | (with_reducible refine wpList_alloc1_st hS rfl rfl (by assumption) rfl ?_; intro g1 w1 hS1; clear hS; replace hS := hS1; clear hS1) | ((with_reducible refine wpList_load_st 0 hS rfl rfl rfl rfl ?_ rfl ?_); focus (simp [scalarB, go_sem]; done)) | ((with_reducible refine wpList_loadall_st 0 hS rfl rfl rfl rfl ?_ (by kernel_rfl) ?_); focus (simp [rowB, go_sem]; done)) | ((with_reducible refine wpList_store_st 0 hS rfl rfl rfl rfl (by kernel_rfl) rfl rfl ?_); intro w1 hS1; clear hS; replace hS := hS1; clear hS1; try simp only [List.set_cons_zero, List.set_cons_succ, List.setIfInBounds_toArray, List.take_succ_cons, List.take_zero, List.drop_succ_cons, List.drop_zero, List.nil_append, List.cons_append, List.append_nil, List.drop_nil, List.take_nil, List.length_cons, List.length_nil, Nat.zero_add, Nat.add_zero, Nat.reduceAdd] at hS) | ((with_reducible refine wpList_storerow_st 0 hS rfl rfl rfl rfl (by kernel_rfl) rfl rfl rfl rfl ?_); intro w1 hS1; clear hS; replace hS := hS1; clear hS1; try simp only [List.set_cons_zero, List.set_cons_succ, List.setIfInBounds_toArray, List.take_succ_cons, List.take_zero, List.drop_succ_cons, List.drop_zero, List.nil_append, List.cons_append, List.append_nil, List.drop_nil, List.take_nil, List.length_cons, List.length_nil, Nat.zero_add, Nat.add_zero, Nat.reduceAdd] at hS))
    have c := hS.cell 0 rfl
    exact bodyPost_ret (by simp [results, Try.results105, go_sem, c]; rfl) rfl ⟨rfl, hS.below⟩

end Go.Proofs.Ytlhpibniecfofaa
end

section
/- Slices written out; what a callee hands back that made memory of its own. -/
set_option linter.unusedSimpArgs false
set_option linter.unusedVariables false
namespace Go.Ofp
open Go.RowKit

section
variable {P : Program} {w : World}
theorem run_build0 (w : World) (t e : TypeId) (ht : P.underlying t = some (.slice e)) {z : Value} {size bytes : Nat} (he : Elem P e z size bytes) :
    (Instr.buildSlice t 0 #[]).run P w = .ok (.slice (some ⟨w.heap.size, 0, none⟩) 0 0) (w.alloc (.cells #[] e)) := by
  obtain ⟨i, hi, hz, hsz, hby, hzs, hpos⟩ := he
  simp [Instr.buildSlice, run_underlying ht, sizeOf, typeInfo, hi, Instr.fill]
  rw [show (Array.map (fun (_ : Nat) => (default : Value)) (Array.range 0)) = #[] by simp]
  rfl

theorem own_build0 (w : World) (e : TypeId) (size : Nat) : (w.alloc (.cells #[] e)).ownsRow 0 e size (.slice (some ⟨w.heap.size, 0, none⟩) 0 0) 0 [] := by
  refine ⟨by simp, .inr ⟨w.heap.size, 0, #[], rfl, Nat.zero_le _, heap_alloc_new w _, Nat.le_refl _, by unfold maxLen; omega, by simp, by simp⟩⟩

variable {w0 : World} {F : List Nat} {L : List Ch} {ops : Array Oper} {rest : List Oper} {o : Oper} {a : Act} {Q : Exit → Act → World → Prop} {K : Act → World → Prop}

theorem St.build0 (hS : St w0 F L w) (e : TypeId) (size : Nat) : St w0 F (Ch.row e size (.slice (some ⟨w.heap.size, 0, none⟩) 0 0) 0 [] :: L) (w.alloc (.cells #[] e)) :=
  hS.push (Fr.alloc _ _) (own_build0 w e size) (by simp [Ch.row, Value.ownBlock])

/-- []T{x}, x of one cell. -/
theorem wpList_build1c_st (hS : St w0 F L w) (hgd : o.guard = none) {t : TypeId} {x : Operand} (ho : o.op = .buildSlice t 1 #[(0, x)]) {e : TypeId} (ht : P.underlying t = some (.slice e)) {z : Value} {bytes : Nat} (he : Elem P e z 1 bytes)
    {v : Value} (hx : Value.scal (a.eval x) = some v)
    (h : ∀ g w', St w0 F (Ch.blk g e #[v] :: L) w' → wpList P ops Q rest (a.put o.dst (.slice (some ⟨g, 0, none⟩) 1 1)) w') : wpList P ops Q (o :: rest) a w := by
  refine wpList_plain hgd fun K hK => ?_
  obtain ⟨h1, h2, -⟩ := Value.scal_spec hx
  rw [h1] at h2
  have hr := run_build1 w t e ht he (v := v) (by rw [h2]; rfl) (by omega)
  unfold Oper.wp execOp
  simp only [ho, List.map_toArray, List.map_cons, List.map_nil, h1, Sem.run_bind, hr, Result.andThen_ok, Sem.run_pure]
  refine hK _ _ (h _ _ ?_)
  rw [← h2]
  exact hS.alloc v.cells e
theorem op_build1c_st (hw : Region.wanted o (yielded ops a.tmps) = true) (hS : St w0 F L w) {t : TypeId} {x : Operand} (ho : o.op = .buildSlice t 1 #[(0, x)]) {e : TypeId} (ht : P.underlying t = some (.slice e)) {z : Value} {bytes : Nat} (he : Elem P e z 1 bytes)
    {v : Value} (hx : Value.scal (a.eval x) = some v)
    (h : ∀ g w', St w0 F (Ch.blk g e #[v] :: L) w' → K (a.put o.dst (.slice (some ⟨g, 0, none⟩) 1 1)) w') : if Region.wanted o (yielded ops a.tmps) = true then Oper.wp P o a w K Q else K (a.put o.dst undef) w := by
  rw [if_pos hw]
  obtain ⟨h1, h2, -⟩ := Value.scal_spec hx
  rw [h1] at h2
  have hr := run_build1 w t e ht he (v := v) (by rw [h2]; rfl) (by omega)
  unfold Oper.wp execOp
  simp only [ho, List.map_toArray, List.map_cons, List.map_nil, h1, Sem.run_bind, hr, Result.andThen_ok, Sem.run_pure]
  refine h _ _ ?_
  rw [← h2]
  exact hS.alloc v.cells e

theorem op_buildr_st (hw : Region.wanted o (yielded ops a.tmps) = true) (hS : St w0 F L w) {t : TypeId} {n : Nat} {parts : List (Nat × Operand)} {vals : List (Nat × Value)} {e : TypeId} {cs : Array Value}
    (hr : ∀ w : World, (Instr.buildSlice t n vals.toArray).run P w = .ok (.slice (some ⟨w.heap.size, 0, none⟩) n n) (w.alloc (.cells cs e))) (ho : o.op = .buildSlice t n parts.toArray) (hx : parts.map (fun p => (p.1, a.eval p.2)) = vals)
    (h : ∀ g w', St w0 F (Ch.blk g e cs :: L) w' → K (a.put o.dst (.slice (some ⟨g, 0, none⟩) n n)) w') : if Region.wanted o (yielded ops a.tmps) = true then Oper.wp P o a w K Q else K (a.put o.dst undef) w := by
  rw [if_pos hw]
  subst hx
  have hr' := hr w
  unfold Oper.wp execOp
  simp only [ho, List.map_toArray, Sem.run_bind, hr', Result.andThen_ok, Sem.run_pure]
  exact h _ _ (hS.alloc cs e)

theorem St.blksl2 {g t : Nat} {xs : List Value} (h : St w0 F L w) (i : Nat) (hi : L[i]? = some (Ch.blk g t xs.toArray)) : Sl w (some ⟨g, 0, none⟩) xs := by
  have := h.blksl i hi
  simpa using this

/-- Behind a callee that made memory of its own and wrote to none that was there. -/
theorem St.made {A : List Ch} {w1 : World} (h : St w0 F L w) (k : St w [] A w1) : St w0 F (A ++ L) w1 := h.call (A := []) (A' := A) (w' := w1) L rfl k
end
end Go.Ofp
end

section
/- A store into a part of a row of the call's own; the walk of Sync. -/
set_option linter.unusedSimpArgs false
set_option linter.unusedVariables false
namespace Go.Ofp
open Go.RowKit
section
variable {P : Program} {w w0 : World} {F : List Nat} {L : List Ch} {ops : Array Oper} {rest : List Oper} {o : Oper} {a : Act} {Q : Exit → Act → World → Prop} {K : Act → World → Prop}

theorem ownsRow_put {e size n c g k : Nat} {xs vs : List Value} (h : w.ownsRow 0 e size (.slice (some ⟨g, 0, none⟩) n c) n xs) (hk : k + vs.length ≤ n * size) (h1 : ∀ v ∈ vs, v.oneCell' = true) :
    ∃ w', (storeCells ⟨g, k, none⟩ vs 0).run P w = .ok () w' ∧ w'.ownsRow 0 e size (.slice (some ⟨g, 0, none⟩) n c) n (xs.take k ++ vs ++ xs.drop (k + vs.length)) ∧ Fr [g] w w' := by
  rcases h.2 with ⟨h, _⟩ | ⟨g', cap, cur, hv, _, hgc, hnc, hcm, hcs, htake⟩
  · cases h
  cases hv
  have hmul2 : n * size ≤ c * size := Nat.mul_le_mul_right _ hnc
  have hst := run_storeCells_at P g k e vs 0 cur w hgc (by omega) h1
  simp only [Nat.add_zero] at hst
  refine ⟨_, hst, ⟨?_, .inr ⟨g, c, _, rfl, Nat.zero_le _, setRow_heap w g cur _ e _ hgc, hnc, hcm, ?_, ?_⟩⟩, Fr.of_grown ⟨rfl, rfl, rfl, by simp, fun k _ hk => setRow_other w g k _ (fun e => hk (by simp [e]))⟩⟩
  · have := h.1
    simp only [List.length_append, List.length_take, List.length_drop]
    omega
  · simp only [List.size_toArray, List.length_append, List.length_take, List.length_drop, Array.length_toList]
    omega
  · have hlc : cur.toList.length = c * size := by simpa using hcs
    rw [← htake]
    simp only [List.take_take, Nat.min_eq_left (show k ≤ n * size by omega)]
    rw [List.take_append, List.take_of_length_le (by simp only [List.length_append, List.length_take]; omega), List.drop_take]
    congr 1
    simp only [List.length_append, List.length_take]
    congr 1
    omega

/-- An element of a slice of the call's own is written. -/
theorem op_storeelem_st (hw : Region.wanted o (yielded ops a.tmps) = true) (i j : Nat) {e size n c g k : Nat} {xs : List Value} (hS : St w0 F L w) (hi : L[i]? = some (Ch.row e size (.slice (some ⟨g, 0, none⟩) n c) n xs)) {t : TypeId} {x y : Operand} (ho : o.op = .store t x y) (hx : a.eval x = .pointer (some ⟨g, k, none⟩)) (hk : k = j * size)
    (hsz : sizeB P t size = true) {vs : List Value} (hy : a.eval y = .agg vs.toArray) (hl : vs.length = size) (hv : vs.all Value.oneCell' = true) (hj : j < n)
    (h : ∀ w', St w0 F (L.set i (Ch.row e size (.slice (some ⟨g, 0, none⟩) n c) n (xs.take (j * size) ++ vs ++ xs.drop (j * size + size)))) w' → K (a.put o.dst undef) w') : if Region.wanted o (yielded ops a.tmps) = true then Oper.wp P o a w K Q else K (a.put o.dst undef) w := by
  rw [if_pos hw]
  subst hk
  have h3 : (P.info? t).map (·.size) = some size := by simpa [sizeB] using hsz
  obtain ⟨ii, hii, hi1⟩ := Option.map_eq_some_iff.1 h3
  obtain ⟨w', k1, k2, k3⟩ := ownsRow_set (P := P) (hS.get i hi) hj hl (fun v hv' => List.all_eq_true.1 hv v hv')
  have hr : (Instr.storeAt t (.pointer (some ⟨g, j * size, none⟩)) (.agg vs.toArray)).run P w = .ok () w' := by
    simp [Instr.storeAt, Instr.sureAddr, storeVar, sizeOf, typeInfo, hii, hi1, Value.cells, hl, k1]
  unfold Oper.wp execOp
  simp only [ho, hx, hy, Sem.run_bind, hr, Result.andThen_ok, Sem.run_pure]
  exact h _ (hS.upd i hi k3 (by simp [Ch.row, Value.ownBlock]) k2 (by simp [Ch.row, Value.ownBlock]))

/-- A single cell in a slice of the call's own is written. -/
theorem op_storecell_st (hw : Region.wanted o (yielded ops a.tmps) = true) (i : Nat) {e size n c g k : Nat} {xs : List Value} (hS : St w0 F L w) (hi : L[i]? = some (Ch.row e size (.slice (some ⟨g, 0, none⟩) n c) n xs)) {t : TypeId} {x y : Operand} (ho : o.op = .store t x y) (hx : a.eval x = .pointer (some ⟨g, k, none⟩))
    (hsz : sizeB P t 1 = true) {v : Value} (hy : Value.scal (a.eval y) = some v) (hk : k + 1 ≤ n * size)
    (h : ∀ w', St w0 F (L.set i (Ch.row e size (.slice (some ⟨g, 0, none⟩) n c) n (xs.take k ++ [v] ++ xs.drop (k + 1)))) w' → K (a.put o.dst undef) w') : if Region.wanted o (yielded ops a.tmps) = true then Oper.wp P o a w K Q else K (a.put o.dst undef) w := by
  rw [if_pos hw]
  have h3 : (P.info? t).map (·.size) = some 1 := by simpa [sizeB] using hsz
  obtain ⟨ii, hii, hi1⟩ := Option.map_eq_some_iff.1 h3
  obtain ⟨hy, -, hv⟩ := Value.scal_spec hy
  have hcs : v.cells = #[v] := by cases v <;> simp_all [Value.cells, Value.oneCell']
  obtain ⟨w', k1, k2, k3⟩ := ownsRow_put (P := P) (vs := [v]) (hS.get i hi) (by simpa using hk) (by simpa using hv)
  have hr : (Instr.storeAt t (.pointer (some ⟨g, k, none⟩)) v).run P w = .ok () w' := by
    simp [Instr.storeAt, Instr.sureAddr, storeVar, sizeOf, typeInfo, hii, hi1, hcs, k1]
  unfold Oper.wp execOp
  simp only [ho, hx, hy, Sem.run_bind, hr, Result.andThen_ok, Sem.run_pure]
  exact h _ (hS.upd i hi k3 (by simp [Ch.row, Value.ownBlock]) k2 (by simp [Ch.row, Value.ownBlock]))
end
theorem St.front {w0 w : World} {F : List Nat} {A R : List Ch} (h : St w0 F (A ++ R) w) : St w0 F A w :=
  h.pick (fun i => i) (fun i c hc => by rw [List.getElem?_append_left (List.getElem?_eq_some_iff.1 hc).1]; exact hc) (fun _ _ _ _ h => h)
end Go.Ofp
namespace Go.Proofs.Ytlhpibniecfofaa
open Go.RowKit Go.Ofp
set_option linter.unusedVariables false
set_option maxRecDepth 100000
set_option maxHeartbeats 4000000

theorem done_next (sec : List Sc) (l : List Wt) (j : Nat) (hj : j < l.length) : Dk.done sec (l.take (j + 1)) = (Dk.done sec (l.take j)).set l[j].place.toNat ⟨l[j].b, false⟩ := by
  unfold Dk.done
  rw [List.take_succ_eq_append_getElem hj, List.foldl_append]
  rfl
theorem sc_map_each {l : List Sc} (h : ∀ s ∈ l, s.b.length = 64) : ∀ r ∈ l.map scRow, r.length = 65 := by
  intro r hr
  obtain ⟨s, hs, rfl⟩ := List.mem_map.1 hr
  exact scRow_length s (h s hs)

theorem sync_main (bd : Nat) (sv wv : Value) (d : Dk) (w : World) (h : St w (feet (dks bd sv wv d)) (dks bd sv wv d) w) (hok : d.Ok) (hr : d.ready 0 = 0) (hsd : d.step.dead = false) (hw : d.wait.length ≤ 100000) (hf : -9223372036854775808 ≤ d.fuse ∧ d.fuse ≤ 9223372036854775807) :
    Calls Try.prog 19 #[.pointer (some ⟨bd, 0, none⟩)] w fun e w' => e = .returned (.int .i64 0) ∧ ∃ wv', St w (feet (dks bd sv wv d)) (dks bd sv wv' { d.step with sec := Dk.done d.sec d.wait, wait := [] }) w' := by
  have cR := ready_any bd sv wv d 0 w h
  rw [hr] at cR
  have cS := step_any bd sv wv d w h hf
  rw [hsd] at cS
  have hwe := wt_each hok
  have hwl : (d.wait.map wtRow).length = d.wait.length := List.length_map _
  have hwload : ∀ j (hj : j < d.wait.length), (((d.wait.map wtRow).flatten).drop (j * 66)).take 66 = wtRow d.wait[j] := by
    intro j hj
    rw [flat_elem 66 _ hwe j (by rw [hwl]; exact hj), List.getElem_map]
  have hwok := hok.wait
  have hso := hok.sec
  have hpos := hok.pos
  have ew := elem_wt
  generalize feet (dks bd sv wv d) = F at cS ⊢
  clear h hr hok hf
  unfold dks at cS ⊢
  simp only [Dk.step_sec, Dk.step_wait, Dk.done_length, List.map_nil, List.flatten_nil, List.length_nil, hsd] at cS ⊢
  generalize d.step.fuse = fz at cS ⊢
  clear hsd
  generalize d.wait = wl at *
  generalize d.sec = sec at *
  generalize (wl.map wtRow).flatten = R2 at *
  obtain ⟨n, hn⟩ : ∃ n, wl.length = n := ⟨_, rfl⟩
  obtain ⟨ns, hns⟩ : ∃ n, sec.length = n := ⟨_, rfl⟩
  rw [hn] at hw
  rw [hns] at hpos hwok ⊢
  rw [hn, hns] at cS
  replace cR := Lib.hid cR
  replace cS := Lib.hid cS
  replace hwload := Lib.hid hwload
  replace hwok := Lib.hid hwok
  replace hso := Lib.hid hso
  replace hn := Lib.hid hn
  replace hns := Lib.hid hns
  go_enter Try.func19, Try.ntmps19
  go_wp2_with (first
    | (go_at_call 71; (with_reducible refine cR.out.mono ?_); rintro _ _ ⟨rfl, rfl⟩)
    | (go_at_call 72; (with_reducible refine cS.out.mono ?_); rintro _ w4 ⟨rfl, hS⟩; obtain ⟨gs, cs, rfl, -⟩ := hS.rowat 1 rfl hpos; obtain ⟨aw, cw, rfl, -⟩ := hS.row 2 rfl)
    | ((with_reducible refine wpList_load_st 0 hS rfl rfl rfl rfl ?_ rfl ?_); focus (simp [scalarB, go_sem]; done)))
  clear cS cR
  go_loopg [19] n (fun gk vx wr => ∃ (j : Nat) (l : List Sc), j + gk = n ∧ vx = .int .i64 j ∧ Hid (l = Dk.done sec (wl.take j)) ∧ St w F [Ch.blk bd 117 #[.slice (some ⟨gs, 0, none⟩) ns cs, .slice aw n cw, .int .i64 fz, .bool false], Ch.row 122 65 (.slice (some ⟨gs, 0, none⟩) ns cs) ns (l.map scRow).flatten, Ch.row 125 66 (.slice aw n cw) n R2] wr)
  case atStart => exact ⟨0, sec, Nat.zero_add _, rfl, Lib.hid rfl, hS⟩
  case round =>
    clear hS
    obtain ⟨j, l, hjn, rfl, hl, hS⟩ := hrel
    by_cases hlt : j < n
    · have hj' : j < wl.length := by have := hn.out; omega
      have hl2 := hwload.out j hj'
      obtain ⟨hp1, hp2, hw2⟩ := hwok.out wl[j] (List.getElem_mem hj')
      have hnext := done_next sec wl j hj'
      rw [← hl.out] at hnext
      have hll : l.length = ns := by rw [hl.out, Dk.done_length, hns.out]
      have hle : ∀ s ∈ l, s.b.length = 64 := by
        rw [hl.out]
        exact Dk.done_ok hso.out fun x hx => (hwok.out x (List.mem_of_mem_take hx)).2.2
      have hle2 := sc_map_each hle
      obtain ⟨gw, cw', hwv, -⟩ := hS.rowat 2 rfl (by omega)
      cases hwv
      generalize wl[j] = x at hl2 hw2 hnext hp1 hp2
      obtain ⟨q, hq⟩ := Int.eq_ofNat_of_zero_le hp1
      have hqn : q < ns := by omega
      rw [hq, Int.toNat_natCast] at hnext
      have hp0 : (wtRow x).toArray[0]? = some (.int .i64 q) := by rw [← hq]; rfl
      have hxl := wtRow_length x hw2
      have hxo : (wtRow x).all Value.oneCell' = true := by rw [List.all_eq_true]; exact wt_rowone x
      have hz1 := store_whole (xs := Value.int .i64 0 :: scZero) (ys := wtRow x) (n := 66) (by simp [scZero]) hxl
      have hsec : ((wtRow x).toArray.toList.drop 1).take 65 = scRow ⟨x.b, false⟩ := wt_sector x hw2
      have hset := flat_set 65 _ hle2 q (by rw [List.length_map, hll]; exact hqn) (scRow ⟨x.b, false⟩)
      rw [← List.map_set, ← hnext] at hset
      have hsl2 := scRow_length ⟨x.b, false⟩ hw2
      have hso2 := sc_rowone ⟨x.b, false⟩
      replace hl2 := Lib.hid hl2
      replace hp0 := Lib.hid hp0
      replace hxl := Lib.hid hxl
      replace hxo := Lib.hid hxo
      replace hz1 := Lib.hid hz1
      replace hsec := Lib.hid hsec
      replace hsl2 := Lib.hid hsl2
      replace hso2 := Lib.hid hso2
      replace hset := Lib.hid hset
      clear hwok hwload hn hns hl hso hle hle2 hll hp1 hp2 hq hnext hw2
      generalize (l.map scRow).flatten = R1 at *
      go_wp2_with (first
        | ((with_reducible refine wpList_loadelem_st 2 j hS rfl rfl rfl rfl rfl ?_ (by kernel_rfl) hl2.out hxl.out ?_); focus (simp [rowB, go_sem]; done))
        | ((with_reducible refine wpList_alloc_st hS rfl rfl ew ?_); intro g3 w1 hS1; clear hS; have hS := hS1; clear hS1)
        | ((with_reducible refine wpList_storerow_st 0 (vs := wtRow x) (n := 66) hS rfl rfl rfl rfl (by kernel_rfl) rfl hxl.out hxo.out rfl ?_); intro w1 hS1; clear hS; simp only [List.set_cons_zero] at hS1; rw [hz1.out] at hS1; have hS := hS1; clear hS1))
      have hr65 : rowB Try.prog 122 = true := by simp [rowB, go_sem]
      refine mixs_beginE (by kernel_rfl) hS ?_
      clear hS
      intro w2 hS hC
      have hsc : scalarB Try.prog 3 = true := by simp [scalarB, go_sem]
      refine mixs_take 0 (v := ?_) rfl (by kernel_rfl) (fun _ _ _ h => h) (by kernel_rfl) (by assumption) (fun s => ?hy) ?_; case hy => (go_simp <;> with_reducible rfl)
      try simp only [List.getElem_toArray, List.getElem_cons_succ, List.getElem_cons_zero, Act.put, List.setIfInBounds_toArray, List.set_cons_zero, List.set_cons_succ]
      refine mixs_take 1 (v := ?_) rfl (by kernel_rfl) (fun _ _ _ h => h) (by kernel_rfl) (by assumption) (fun s => ?hy) ?_; case hy => (go_simp <;> with_reducible rfl)
      try simp only [List.getElem_toArray, List.getElem_cons_succ, List.getElem_cons_zero, Act.put, List.setIfInBounds_toArray, List.set_cons_zero, List.set_cons_succ]
      refine mixs_take 2 (v := ?_) rfl (by kernel_rfl) (fun _ _ _ h => h) (by kernel_rfl) (by assumption) (fun s => ?hy) ?_; case hy => (go_simp <;> with_reducible rfl)
      try simp only [List.getElem_toArray, List.getElem_cons_succ, List.getElem_cons_zero, Act.put, List.setIfInBounds_toArray, List.set_cons_zero, List.set_cons_succ]
      refine mixs_take 4 (v := ?_) rfl (by kernel_rfl) (fun _ _ _ h => h) (by kernel_rfl) (by assumption) (fun s => ?hy) ?_; case hy => (go_simp <;> with_reducible rfl)
      try simp only [List.getElem_toArray, List.getElem_cons_succ, List.getElem_cons_zero, Act.put, List.setIfInBounds_toArray, List.set_cons_zero, List.set_cons_succ]
      refine mixs_take 6 (v := ?_) rfl (by kernel_rfl) (fun _ _ _ h => h) (by kernel_rfl) (by assumption) (fun s => ?hy) ?_; case hy => (go_simp <;> with_reducible rfl)
      try simp only [List.getElem_toArray, List.getElem_cons_succ, List.getElem_cons_zero, Act.put, List.setIfInBounds_toArray, List.set_cons_zero, List.set_cons_succ]
      refine mixs_three 3 5 7 (by kernel_rfl) rfl rfl rfl (fun K hK => ?_) (fun K hK => ?_) (fun K hK => ?_)
      ·
        refine op_load_st (by kernel_rfl) 1 hS rfl rfl rfl (by simp [scalarB, go_sem]) rfl ?_
        try clear hC
        refine hK.out _ _ _ (fun _ h => h) (by first | exact hS | exact hS.drop | exact hS.drop.drop | exact hS.drop.drop.drop | exact hS.drop.drop.drop.drop | exact hS.empty | exact hS.one 0 rfl | exact hS.one 1 rfl | exact hS.one 2 rfl | exact hS.one 3 rfl | exact hS.one 4 rfl | exact hS.one 5 rfl | exact hS.one 6 rfl | exact hS.one 7 rfl | exact hS.one 8 rfl | exact hS.one 9 rfl | exact hS.one 10 rfl | exact hS.one 11 rfl) (fun hC => ?_)
        clear hK K
        try simp only [List.getElem_toArray, List.getElem_cons_succ, List.getElem_cons_zero, Act.put, List.setIfInBounds_toArray, List.set_cons_zero, List.set_cons_succ]
        refine mixs_two 5 7 (by kernel_rfl) rfl rfl (fun K hK => ?_) (fun K hK => ?_)
        ·
          (refine op_load_st (by kernel_rfl) 0 hS rfl rfl rfl hsc hp0.out ?_)
          try clear hC
          refine hK.out _ _ _ (fun _ h => h) (by first | exact hS | exact hS.drop | exact hS.drop.drop | exact hS.drop.drop.drop | exact hS.drop.drop.drop.drop | exact hS.empty | exact hS.one 0 rfl | exact hS.one 1 rfl | exact hS.one 2 rfl | exact hS.one 3 rfl | exact hS.one 4 rfl | exact hS.one 5 rfl | exact hS.one 6 rfl | exact hS.one 7 rfl | exact hS.one 8 rfl | exact hS.one 9 rfl | exact hS.one 10 rfl | exact hS.one 11 rfl) (fun hC => ?_)
          clear hK K
          try simp only [List.getElem_toArray, List.getElem_cons_succ, List.getElem_cons_zero, Act.put, List.setIfInBounds_toArray, List.set_cons_zero, List.set_cons_succ]
          refine mixs_one 7 (by kernel_rfl) rfl (fun K hK => ?_)
          (refine op_loadrow_st (by kernel_rfl) 0 hS rfl rfl rfl hr65 (by kernel_rfl) hsec.out hsl2.out ?_)
          try clear hC
          refine hK.out _ _ _ (fun _ h => h) (by first | exact hS | exact hS.drop | exact hS.drop.drop | exact hS.drop.drop.drop | exact hS.drop.drop.drop.drop | exact hS.empty | exact hS.one 0 rfl | exact hS.one 1 rfl | exact hS.one 2 rfl | exact hS.one 3 rfl | exact hS.one 4 rfl | exact hS.one 5 rfl | exact hS.one 6 rfl | exact hS.one 7 rfl | exact hS.one 8 rfl | exact hS.one 9 rfl | exact hS.one 10 rfl | exact hS.one 11 rfl) (fun hC => ?_)
          clear hK K
          try simp only [List.getElem_toArray, List.getElem_cons_succ, List.getElem_cons_zero, Act.put, List.setIfInBounds_toArray, List.set_cons_zero, List.set_cons_succ]
          refine mixs_take 8 (v := ?_) rfl (by kernel_rfl) (fun _ _ _ h => h) (by kernel_rfl) (by assumption) (fun s => ?hy) ?_; case hy => (go_simp <;> with_reducible rfl)
          try simp only [List.getElem_toArray, List.getElem_cons_succ, List.getElem_cons_zero, Act.put, List.setIfInBounds_toArray, List.set_cons_zero, List.set_cons_succ]
          refine mixs_one 9 (by kernel_rfl) rfl (fun K hK => ?_)
          (refine op_storeelem_st (by kernel_rfl) 2 q hS rfl rfl rfl rfl (by kernel_rfl) rfl hsl2.out hso2.out hqn ?_; intro w3 hS1; clear hS; simp only [List.set_cons_succ, List.set_cons_zero] at hS1; rw [hset.out] at hS1; have hS := hS1; clear hS1)
          try clear hC
          refine hK.out _ _ _ (fun _ h => h) (by first | exact hS | exact hS.drop | exact hS.drop.drop | exact hS.drop.drop.drop | exact hS.drop.drop.drop.drop | exact hS.empty | exact hS.one 0 rfl | exact hS.one 1 rfl | exact hS.one 2 rfl | exact hS.one 3 rfl | exact hS.one 4 rfl | exact hS.one 5 rfl | exact hS.one 6 rfl | exact hS.one 7 rfl | exact hS.one 8 rfl | exact hS.one 9 rfl | exact hS.one 10 rfl | exact hS.one 11 rfl) (fun hC => ?_)
          clear hK K
          try simp only [List.getElem_toArray, List.getElem_cons_succ, List.getElem_cons_zero, Act.put, List.setIfInBounds_toArray, List.set_cons_zero, List.set_cons_succ]
          refine wpAnyH_done (by kernel_rfl) ?_ _
          try clear hC
          go_wp2_with fail
          go_roundg (n - (j + 1))
          case measure => omega
          case rel => exact ⟨j + 1, _, by omega, by go_num, Lib.hid rfl, hS.drop⟩
        ·
          (refine op_loadrow_st (by kernel_rfl) 0 hS rfl rfl rfl hr65 (by kernel_rfl) hsec.out hsl2.out ?_)
          try clear hC
          refine hK.out _ _ _ (fun _ h => h) (by first | exact hS | exact hS.drop | exact hS.drop.drop | exact hS.drop.drop.drop | exact hS.drop.drop.drop.drop | exact hS.empty | exact hS.one 0 rfl | exact hS.one 1 rfl | exact hS.one 2 rfl | exact hS.one 3 rfl | exact hS.one 4 rfl | exact hS.one 5 rfl | exact hS.one 6 rfl | exact hS.one 7 rfl | exact hS.one 8 rfl | exact hS.one 9 rfl | exact hS.one 10 rfl | exact hS.one 11 rfl) (fun hC => ?_)
          clear hK K
          try simp only [List.getElem_toArray, List.getElem_cons_succ, List.getElem_cons_zero, Act.put, List.setIfInBounds_toArray, List.set_cons_zero, List.set_cons_succ]
          refine mixs_one 5 (by kernel_rfl) rfl (fun K hK => ?_)
          (refine op_load_st (by kernel_rfl) 0 hS rfl rfl rfl hsc hp0.out ?_)
          try clear hC
          refine hK.out _ _ _ (fun _ h => h) (by first | exact hS | exact hS.drop | exact hS.drop.drop | exact hS.drop.drop.drop | exact hS.drop.drop.drop.drop | exact hS.empty | exact hS.one 0 rfl | exact hS.one 1 rfl | exact hS.one 2 rfl | exact hS.one 3 rfl | exact hS.one 4 rfl | exact hS.one 5 rfl | exact hS.one 6 rfl | exact hS.one 7 rfl | exact hS.one 8 rfl | exact hS.one 9 rfl | exact hS.one 10 rfl | exact hS.one 11 rfl) (fun hC => ?_)
          clear hK K
          try simp only [List.getElem_toArray, List.getElem_cons_succ, List.getElem_cons_zero, Act.put, List.setIfInBounds_toArray, List.set_cons_zero, List.set_cons_succ]
          refine mixs_take 8 (v := ?_) rfl (by kernel_rfl) (fun _ _ _ h => h) (by kernel_rfl) (by assumption) (fun s => ?hy) ?_; case hy => (go_simp <;> with_reducible rfl)
          try simp only [List.getElem_toArray, List.getElem_cons_succ, List.getElem_cons_zero, Act.put, List.setIfInBounds_toArray, List.set_cons_zero, List.set_cons_succ]
          refine mixs_one 9 (by kernel_rfl) rfl (fun K hK => ?_)
          (refine op_storeelem_st (by kernel_rfl) 2 q hS rfl rfl rfl rfl (by kernel_rfl) rfl hsl2.out hso2.out hqn ?_; intro w3 hS1; clear hS; simp only [List.set_cons_succ, List.set_cons_zero] at hS1; rw [hset.out] at hS1; have hS := hS1; clear hS1)
          try clear hC
          refine hK.out _ _ _ (fun _ h => h) (by first | exact hS | exact hS.drop | exact hS.drop.drop | exact hS.drop.drop.drop | exact hS.drop.drop.drop.drop | exact hS.empty | exact hS.one 0 rfl | exact hS.one 1 rfl | exact hS.one 2 rfl | exact hS.one 3 rfl | exact hS.one 4 rfl | exact hS.one 5 rfl | exact hS.one 6 rfl | exact hS.one 7 rfl | exact hS.one 8 rfl | exact hS.one 9 rfl | exact hS.one 10 rfl | exact hS.one 11 rfl) (fun hC => ?_)
          clear hK K
          try simp only [List.getElem_toArray, List.getElem_cons_succ, List.getElem_cons_zero, Act.put, List.setIfInBounds_toArray, List.set_cons_zero, List.set_cons_succ]
          refine wpAnyH_done (by kernel_rfl) ?_ _
          try clear hC
          go_wp2_with fail
          go_roundg (n - (j + 1))
          case measure => omega
          case rel => exact ⟨j + 1, _, by omega, by go_num, Lib.hid rfl, hS.drop⟩
      ·
        (refine op_load_st (by kernel_rfl) 0 hS rfl rfl rfl hsc hp0.out ?_)
        try clear hC
        refine hK.out _ _ _ (fun _ h => h) (by first | exact hS | exact hS.drop | exact hS.drop.drop | exact hS.drop.drop.drop | exact hS.drop.drop.drop.drop | exact hS.empty | exact hS.one 0 rfl | exact hS.one 1 rfl | exact hS.one 2 rfl | exact hS.one 3 rfl | exact hS.one 4 rfl | exact hS.one 5 rfl | exact hS.one 6 rfl | exact hS.one 7 rfl | exact hS.one 8 rfl | exact hS.one 9 rfl | exact hS.one 10 rfl | exact hS.one 11 rfl) (fun hC => ?_)
        clear hK K
        try simp only [List.getElem_toArray, List.getElem_cons_succ, List.getElem_cons_zero, Act.put, List.setIfInBounds_toArray, List.set_cons_zero, List.set_cons_succ]
        refine mixs_two 3 7 (by kernel_rfl) rfl rfl (fun K hK => ?_) (fun K hK => ?_)
        ·
          refine op_load_st (by kernel_rfl) 1 hS rfl rfl rfl (by simp [scalarB, go_sem]) rfl ?_
          try clear hC
          refine hK.out _ _ _ (fun _ h => h) (by first | exact hS | exact hS.drop | exact hS.drop.drop | exact hS.drop.drop.drop | exact hS.drop.drop.drop.drop | exact hS.empty | exact hS.one 0 rfl | exact hS.one 1 rfl | exact hS.one 2 rfl | exact hS.one 3 rfl | exact hS.one 4 rfl | exact hS.one 5 rfl | exact hS.one 6 rfl | exact hS.one 7 rfl | exact hS.one 8 rfl | exact hS.one 9 rfl | exact hS.one 10 rfl | exact hS.one 11 rfl) (fun hC => ?_)
          clear hK K
          try simp only [List.getElem_toArray, List.getElem_cons_succ, List.getElem_cons_zero, Act.put, List.setIfInBounds_toArray, List.set_cons_zero, List.set_cons_succ]
          refine mixs_one 7 (by kernel_rfl) rfl (fun K hK => ?_)
          (refine op_loadrow_st (by kernel_rfl) 0 hS rfl rfl rfl hr65 (by kernel_rfl) hsec.out hsl2.out ?_)
          try clear hC
          refine hK.out _ _ _ (fun _ h => h) (by first | exact hS | exact hS.drop | exact hS.drop.drop | exact hS.drop.drop.drop | exact hS.drop.drop.drop.drop | exact hS.empty | exact hS.one 0 rfl | exact hS.one 1 rfl | exact hS.one 2 rfl | exact hS.one 3 rfl | exact hS.one 4 rfl | exact hS.one 5 rfl | exact hS.one 6 rfl | exact hS.one 7 rfl | exact hS.one 8 rfl | exact hS.one 9 rfl | exact hS.one 10 rfl | exact hS.one 11 rfl) (fun hC => ?_)
          clear hK K
          try simp only [List.getElem_toArray, List.getElem_cons_succ, List.getElem_cons_zero, Act.put, List.setIfInBounds_toArray, List.set_cons_zero, List.set_cons_succ]
          refine mixs_take 8 (v := ?_) rfl (by kernel_rfl) (fun _ _ _ h => h) (by kernel_rfl) (by assumption) (fun s => ?hy) ?_; case hy => (go_simp <;> with_reducible rfl)
          try simp only [List.getElem_toArray, List.getElem_cons_succ, List.getElem_cons_zero, Act.put, List.setIfInBounds_toArray, List.set_cons_zero, List.set_cons_succ]
          refine mixs_one 9 (by kernel_rfl) rfl (fun K hK => ?_)
          (refine op_storeelem_st (by kernel_rfl) 2 q hS rfl rfl rfl rfl (by kernel_rfl) rfl hsl2.out hso2.out hqn ?_; intro w3 hS1; clear hS; simp only [List.set_cons_succ, List.set_cons_zero] at hS1; rw [hset.out] at hS1; have hS := hS1; clear hS1)
          try clear hC
          refine hK.out _ _ _ (fun _ h => h) (by first | exact hS | exact hS.drop | exact hS.drop.drop | exact hS.drop.drop.drop | exact hS.drop.drop.drop.drop | exact hS.empty | exact hS.one 0 rfl | exact hS.one 1 rfl | exact hS.one 2 rfl | exact hS.one 3 rfl | exact hS.one 4 rfl | exact hS.one 5 rfl | exact hS.one 6 rfl | exact hS.one 7 rfl | exact hS.one 8 rfl | exact hS.one 9 rfl | exact hS.one 10 rfl | exact hS.one 11 rfl) (fun hC => ?_)
          clear hK K
          try simp only [List.getElem_toArray, List.getElem_cons_succ, List.getElem_cons_zero, Act.put, List.setIfInBounds_toArray, List.set_cons_zero, List.set_cons_succ]
          refine wpAnyH_done (by kernel_rfl) ?_ _
          try clear hC
          go_wp2_with fail
          go_roundg (n - (j + 1))
          case measure => omega
          case rel => exact ⟨j + 1, _, by omega, by go_num, Lib.hid rfl, hS.drop⟩
        ·
          (refine op_loadrow_st (by kernel_rfl) 0 hS rfl rfl rfl hr65 (by kernel_rfl) hsec.out hsl2.out ?_)
          try clear hC
          refine hK.out _ _ _ (fun _ h => h) (by first | exact hS | exact hS.drop | exact hS.drop.drop | exact hS.drop.drop.drop | exact hS.drop.drop.drop.drop | exact hS.empty | exact hS.one 0 rfl | exact hS.one 1 rfl | exact hS.one 2 rfl | exact hS.one 3 rfl | exact hS.one 4 rfl | exact hS.one 5 rfl | exact hS.one 6 rfl | exact hS.one 7 rfl | exact hS.one 8 rfl | exact hS.one 9 rfl | exact hS.one 10 rfl | exact hS.one 11 rfl) (fun hC => ?_)
          clear hK K
          try simp only [List.getElem_toArray, List.getElem_cons_succ, List.getElem_cons_zero, Act.put, List.setIfInBounds_toArray, List.set_cons_zero, List.set_cons_succ]
          refine mixs_one 3 (by kernel_rfl) rfl (fun K hK => ?_)
          refine op_load_st (by kernel_rfl) 1 hS rfl rfl rfl (by simp [scalarB, go_sem]) rfl ?_
          try clear hC
          refine hK.out _ _ _ (fun _ h => h) (by first | exact hS | exact hS.drop | exact hS.drop.drop | exact hS.drop.drop.drop | exact hS.drop.drop.drop.drop | exact hS.empty | exact hS.one 0 rfl | exact hS.one 1 rfl | exact hS.one 2 rfl | exact hS.one 3 rfl | exact hS.one 4 rfl | exact hS.one 5 rfl | exact hS.one 6 rfl | exact hS.one 7 rfl | exact hS.one 8 rfl | exact hS.one 9 rfl | exact hS.one 10 rfl | exact hS.one 11 rfl) (fun hC => ?_)
          clear hK K
          try simp only [List.getElem_toArray, List.getElem_cons_succ, List.getElem_cons_zero, Act.put, List.setIfInBounds_toArray, List.set_cons_zero, List.set_cons_succ]
          refine mixs_take 8 (v := ?_) rfl (by kernel_rfl) (fun _ _ _ h => h) (by kernel_rfl) (by assumption) (fun s => ?hy) ?_; case hy => (go_simp <;> with_reducible rfl)
          try simp only [List.getElem_toArray, List.getElem_cons_succ, List.getElem_cons_zero, Act.put, List.setIfInBounds_toArray, List.set_cons_zero, List.set_cons_succ]
          refine mixs_one 9 (by kernel_rfl) rfl (fun K hK => ?_)
          (refine op_storeelem_st (by kernel_rfl) 2 q hS rfl rfl rfl rfl (by kernel_rfl) rfl hsl2.out hso2.out hqn ?_; intro w3 hS1; clear hS; simp only [List.set_cons_succ, List.set_cons_zero] at hS1; rw [hset.out] at hS1; have hS := hS1; clear hS1)
          try clear hC
          refine hK.out _ _ _ (fun _ h => h) (by first | exact hS | exact hS.drop | exact hS.drop.drop | exact hS.drop.drop.drop | exact hS.drop.drop.drop.drop | exact hS.empty | exact hS.one 0 rfl | exact hS.one 1 rfl | exact hS.one 2 rfl | exact hS.one 3 rfl | exact hS.one 4 rfl | exact hS.one 5 rfl | exact hS.one 6 rfl | exact hS.one 7 rfl | exact hS.one 8 rfl | exact hS.one 9 rfl | exact hS.one 10 rfl | exact hS.one 11 rfl) (fun hC => ?_)
          clear hK K
          try simp only [List.getElem_toArray, List.getElem_cons_succ, List.getElem_cons_zero, Act.put, List.setIfInBounds_toArray, List.set_cons_zero, List.set_cons_succ]
          refine wpAnyH_done (by kernel_rfl) ?_ _
          try clear hC
          go_wp2_with fail
          go_roundg (n - (j + 1))
          case measure => omega
          case rel => exact ⟨j + 1, _, by omega, by go_num, Lib.hid rfl, hS.drop⟩
      ·
        (refine op_loadrow_st (by kernel_rfl) 0 hS rfl rfl rfl hr65 (by kernel_rfl) hsec.out hsl2.out ?_)
        try clear hC
        refine hK.out _ _ _ (fun _ h => h) (by first | exact hS | exact hS.drop | exact hS.drop.drop | exact hS.drop.drop.drop | exact hS.drop.drop.drop.drop | exact hS.empty | exact hS.one 0 rfl | exact hS.one 1 rfl | exact hS.one 2 rfl | exact hS.one 3 rfl | exact hS.one 4 rfl | exact hS.one 5 rfl | exact hS.one 6 rfl | exact hS.one 7 rfl | exact hS.one 8 rfl | exact hS.one 9 rfl | exact hS.one 10 rfl | exact hS.one 11 rfl) (fun hC => ?_)
        clear hK K
        try simp only [List.getElem_toArray, List.getElem_cons_succ, List.getElem_cons_zero, Act.put, List.setIfInBounds_toArray, List.set_cons_zero, List.set_cons_succ]
        refine mixs_two 3 5 (by kernel_rfl) rfl rfl (fun K hK => ?_) (fun K hK => ?_)
        ·
          refine op_load_st (by kernel_rfl) 1 hS rfl rfl rfl (by simp [scalarB, go_sem]) rfl ?_
          try clear hC
          refine hK.out _ _ _ (fun _ h => h) (by first | exact hS | exact hS.drop | exact hS.drop.drop | exact hS.drop.drop.drop | exact hS.drop.drop.drop.drop | exact hS.empty | exact hS.one 0 rfl | exact hS.one 1 rfl | exact hS.one 2 rfl | exact hS.one 3 rfl | exact hS.one 4 rfl | exact hS.one 5 rfl | exact hS.one 6 rfl | exact hS.one 7 rfl | exact hS.one 8 rfl | exact hS.one 9 rfl | exact hS.one 10 rfl | exact hS.one 11 rfl) (fun hC => ?_)
          clear hK K
          try simp only [List.getElem_toArray, List.getElem_cons_succ, List.getElem_cons_zero, Act.put, List.setIfInBounds_toArray, List.set_cons_zero, List.set_cons_succ]
          refine mixs_one 5 (by kernel_rfl) rfl (fun K hK => ?_)
          (refine op_load_st (by kernel_rfl) 0 hS rfl rfl rfl hsc hp0.out ?_)
          try clear hC
          refine hK.out _ _ _ (fun _ h => h) (by first | exact hS | exact hS.drop | exact hS.drop.drop | exact hS.drop.drop.drop | exact hS.drop.drop.drop.drop | exact hS.empty | exact hS.one 0 rfl | exact hS.one 1 rfl | exact hS.one 2 rfl | exact hS.one 3 rfl | exact hS.one 4 rfl | exact hS.one 5 rfl | exact hS.one 6 rfl | exact hS.one 7 rfl | exact hS.one 8 rfl | exact hS.one 9 rfl | exact hS.one 10 rfl | exact hS.one 11 rfl) (fun hC => ?_)
          clear hK K
          try simp only [List.getElem_toArray, List.getElem_cons_succ, List.getElem_cons_zero, Act.put, List.setIfInBounds_toArray, List.set_cons_zero, List.set_cons_succ]
          refine mixs_take 8 (v := ?_) rfl (by kernel_rfl) (fun _ _ _ h => h) (by kernel_rfl) (by assumption) (fun s => ?hy) ?_; case hy => (go_simp <;> with_reducible rfl)
          try simp only [List.getElem_toArray, List.getElem_cons_succ, List.getElem_cons_zero, Act.put, List.setIfInBounds_toArray, List.set_cons_zero, List.set_cons_succ]
          refine mixs_one 9 (by kernel_rfl) rfl (fun K hK => ?_)
          (refine op_storeelem_st (by kernel_rfl) 2 q hS rfl rfl rfl rfl (by kernel_rfl) rfl hsl2.out hso2.out hqn ?_; intro w3 hS1; clear hS; simp only [List.set_cons_succ, List.set_cons_zero] at hS1; rw [hset.out] at hS1; have hS := hS1; clear hS1)
          try clear hC
          refine hK.out _ _ _ (fun _ h => h) (by first | exact hS | exact hS.drop | exact hS.drop.drop | exact hS.drop.drop.drop | exact hS.drop.drop.drop.drop | exact hS.empty | exact hS.one 0 rfl | exact hS.one 1 rfl | exact hS.one 2 rfl | exact hS.one 3 rfl | exact hS.one 4 rfl | exact hS.one 5 rfl | exact hS.one 6 rfl | exact hS.one 7 rfl | exact hS.one 8 rfl | exact hS.one 9 rfl | exact hS.one 10 rfl | exact hS.one 11 rfl) (fun hC => ?_)
          clear hK K
          try simp only [List.getElem_toArray, List.getElem_cons_succ, List.getElem_cons_zero, Act.put, List.setIfInBounds_toArray, List.set_cons_zero, List.set_cons_succ]
          refine wpAnyH_done (by kernel_rfl) ?_ _
          try clear hC
          go_wp2_with fail
          go_roundg (n - (j + 1))
          case measure => omega
          case rel => exact ⟨j + 1, _, by omega, by go_num, Lib.hid rfl, hS.drop⟩
        ·
          (refine op_load_st (by kernel_rfl) 0 hS rfl rfl rfl hsc hp0.out ?_)
          try clear hC
          refine hK.out _ _ _ (fun _ h => h) (by first | exact hS | exact hS.drop | exact hS.drop.drop | exact hS.drop.drop.drop | exact hS.drop.drop.drop.drop | exact hS.empty | exact hS.one 0 rfl | exact hS.one 1 rfl | exact hS.one 2 rfl | exact hS.one 3 rfl | exact hS.one 4 rfl | exact hS.one 5 rfl | exact hS.one 6 rfl | exact hS.one 7 rfl | exact hS.one 8 rfl | exact hS.one 9 rfl | exact hS.one 10 rfl | exact hS.one 11 rfl) (fun hC => ?_)
          clear hK K
          try simp only [List.getElem_toArray, List.getElem_cons_succ, List.getElem_cons_zero, Act.put, List.setIfInBounds_toArray, List.set_cons_zero, List.set_cons_succ]
          refine mixs_one 3 (by kernel_rfl) rfl (fun K hK => ?_)
          refine op_load_st (by kernel_rfl) 1 hS rfl rfl rfl (by simp [scalarB, go_sem]) rfl ?_
          try clear hC
          refine hK.out _ _ _ (fun _ h => h) (by first | exact hS | exact hS.drop | exact hS.drop.drop | exact hS.drop.drop.drop | exact hS.drop.drop.drop.drop | exact hS.empty | exact hS.one 0 rfl | exact hS.one 1 rfl | exact hS.one 2 rfl | exact hS.one 3 rfl | exact hS.one 4 rfl | exact hS.one 5 rfl | exact hS.one 6 rfl | exact hS.one 7 rfl | exact hS.one 8 rfl | exact hS.one 9 rfl | exact hS.one 10 rfl | exact hS.one 11 rfl) (fun hC => ?_)
          clear hK K
          try simp only [List.getElem_toArray, List.getElem_cons_succ, List.getElem_cons_zero, Act.put, List.setIfInBounds_toArray, List.set_cons_zero, List.set_cons_succ]
          refine mixs_take 8 (v := ?_) rfl (by kernel_rfl) (fun _ _ _ h => h) (by kernel_rfl) (by assumption) (fun s => ?hy) ?_; case hy => (go_simp <;> with_reducible rfl)
          try simp only [List.getElem_toArray, List.getElem_cons_succ, List.getElem_cons_zero, Act.put, List.setIfInBounds_toArray, List.set_cons_zero, List.set_cons_succ]
          refine mixs_one 9 (by kernel_rfl) rfl (fun K hK => ?_)
          (refine op_storeelem_st (by kernel_rfl) 2 q hS rfl rfl rfl rfl (by kernel_rfl) rfl hsl2.out hso2.out hqn ?_; intro w3 hS1; clear hS; simp only [List.set_cons_succ, List.set_cons_zero] at hS1; rw [hset.out] at hS1; have hS := hS1; clear hS1)
          try clear hC
          refine hK.out _ _ _ (fun _ h => h) (by first | exact hS | exact hS.drop | exact hS.drop.drop | exact hS.drop.drop.drop | exact hS.drop.drop.drop.drop | exact hS.empty | exact hS.one 0 rfl | exact hS.one 1 rfl | exact hS.one 2 rfl | exact hS.one 3 rfl | exact hS.one 4 rfl | exact hS.one 5 rfl | exact hS.one 6 rfl | exact hS.one 7 rfl | exact hS.one 8 rfl | exact hS.one 9 rfl | exact hS.one 10 rfl | exact hS.one 11 rfl) (fun hC => ?_)
          clear hK K
          try simp only [List.getElem_toArray, List.getElem_cons_succ, List.getElem_cons_zero, Act.put, List.setIfInBounds_toArray, List.set_cons_zero, List.set_cons_succ]
          refine wpAnyH_done (by kernel_rfl) ?_ _
          try clear hC
          go_wp2_with fail
          go_roundg (n - (j + 1))
          case measure => omega
          case rel => exact ⟨j + 1, _, by omega, by go_num, Lib.hid rfl, hS.drop⟩
    · have hfin : l = Dk.done sec wl := by
        rw [hl.out, List.take_of_length_le (by have := hn.out; omega)]
      rw [hfin] at hS
      clear hl hfin hwok hwload hn ew
      go_wp2_with ((with_reducible refine wpList_store_st 0 hS rfl rfl rfl rfl (by kernel_rfl) rfl rfl ?_); intro w1 hS1; clear hS; simp only [List.set_cons_zero, List.setIfInBounds_toArray, List.set_cons_succ] at hS1; have hS := hS1; clear hS1)
      go_ret
      have hk := (hS.nilrow 125 66).rot3
      exact ⟨rfl, _, hk.front (A := [_, _, _])⟩

theorem sync_any (bd : Nat) (sv wv : Value) (d : Dk) (w : World) (h : St w (feet (dks bd sv wv d)) (dks bd sv wv d) w) (hok : d.Ok) (hw : d.wait.length ≤ 100000) (hf : -9223372036854775808 ≤ d.fuse ∧ d.fuse ≤ 9223372036854775807) :
    Calls Try.prog 19 #[.pointer (some ⟨bd, 0, none⟩)] w fun e w' => e = .returned (.int .i64 d.sync.2) ∧ ∃ wv', St w (feet (dks bd sv wv d)) (dks bd sv wv' d.sync.1) w' := by
  have cR := ready_any bd sv wv d 0 w h
  by_cases hr : d.ready 0 = 0
  · cases hsd : d.step.dead with
    | false =>
      have hd : d.sync = ({ d.step with sec := Dk.done d.sec d.wait, wait := [] }, 0) := by rw [Dk.sync, if_pos hr, if_neg (by rw [hsd]; simp)]
      rw [hd]
      exact sync_main bd sv wv d w h hok hr hsd hw hf
    | true =>
      have hd : d.sync = (d.step, 15) := by rw [Dk.sync, if_pos hr, if_pos hsd]
      rw [hd]
      have cS := step_any bd sv wv d w h hf
      rw [hsd] at cS
      rw [hr] at cR
      generalize d.step = d2 at *
      generalize feet (dks bd sv wv d) = F at *
      clear hr hsd hd hok hw hf h
      replace cR := Lib.hid cR
      replace cS := Lib.hid cS
      go_enter Try.func19, Try.ntmps19
      go_wp2_with (first
        | (go_at_call 71; (with_reducible refine cR.out.mono ?_); rintro _ _ ⟨rfl, rfl⟩)
        | (go_at_call 72; (with_reducible refine cS.out.mono ?_); rintro _ w4 ⟨rfl, hS⟩; replace hS := Lib.hid hS))
      go_ret
      exact ⟨rfl, wv, hS.out⟩
  · have hd : d.sync = (d, d.ready 0) := by rw [Dk.sync, if_neg hr]
    rw [hd]
    have hz : (d.ready 0 == 0) = false := by rw [beq_eq_false_iff_ne]; exact hr
    generalize d.ready 0 = q at *
    clear hr hd hok hw hf
    replace cR := Lib.hid cR
    replace h := Lib.hid h
    go_enter Try.func19, Try.ntmps19
    go_wp2_with (go_at_call 71; (with_reducible refine cR.out.mono ?_); rintro _ _ ⟨rfl, rfl⟩)
    go_ret
    exact ⟨rfl, wv, h.out⟩
end Go.Proofs.Ytlhpibniecfofaa
end
