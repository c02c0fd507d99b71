/- The law OctetReads. -/
import Derived.Test.YtcpkmgmdhjhfaaaOctetLaws
import Derived.Test.YtcpkmgmdhjhfaaaOpen2
import Derived.Test.YtcpkmgmdhjhfaaaOpen3
import Derived.Deep.RegionHeld
namespace Go.Proofs.Ytcpkmgmdhjhfaaa
open Go.RowKit Go.Ofp Go.WideShapes
set_option linter.unusedVariables false

/-- What a read leaves. -/
def readStep (k m : Int) (r : List UInt8) (e : Int) : List UInt8 × Int :=
  if k = 0 then (rdNum r e m).2 else if k = 1 then (rdStr r e m).2 else if k = 2 then (rdFlag r e).2 else (r, rdFail e 5)

def rdRow (p : Int × Int) : List Value := [.int .i64 p.1, .int .i64 p.2]

theorem Below.drewN' {b : Nat} (w : World) (n : Nat) : Below b w (w.drewN n) := by
  induction n with
  | zero => exact Below.refl _ _
  | succ n ih => exact ih.drew

/-- The reader's bytes lie in no block of the other reader. -/
theorem RdR.keepG {w w' : World} {g h : Nat} {r r2 : List UInt8} {e e2 : Int} (hR : RdR w g r e) (hM : RRd w h r2 e2) (hg : w.grownBy w' (some h)) (hne : g ≠ h) : RdR w' g r e := by
  obtain ⟨l, k, ⟨a, cap, hw, hs, hoff, hrest⟩, hr⟩ := hR
  refine ⟨l, k, ⟨a, cap, hw.keep hg (by simpa using hne), ?_, hoff, hrest⟩, hr⟩
  intro i hi
  obtain ⟨b, off, ha, hc⟩ := hs i hi
  refine ⟨b, off, ha, ?_⟩
  have hbh : b ≠ h := by
    rintro rfl
    rw [hM.1.cell] at hc
    generalize off + i = q at hc
    rcases q with _ | _ | n <;> simp [vb] at hc
  rw [World.cell?_of_block (hg.block b (World.block_lt_of_cell? w _ hc) (by simpa using hbh))]
  exact hc

set_option maxRecDepth 100000 in
set_option maxHeartbeats 100000000 in
theorem reads_main (a b : Option Addr) (l : List UInt8) (n ca cb : Nat) (ps : List (Int × Int)) (w : World) (hn : n = l.length) (hl : n ≤ 2000) (ha : Sl w a (l.map vb)) (hps : Rw w b 2 (ps.map rdRow)) (hp : ps.length ≤ maxLen) :
    Calls Try.prog 13 #[.slice a n ca, .slice b ps.length cb] w fun e w' => e = .returned (.bool true) ∧ Below w.heap.size w w' := by
  unfold maxLen at hp
  replace hn := Lib.hid hn
  replace ha := Lib.hid ha
  replace hps := Lib.hid hps
  go_enter Try.func13, Try.ntmps13
  go_wp2_with fail
  refine (rd_new a l n ca _ hn.out ha.out (by omega)).mono ?_
  rintro e w1 ⟨g, rfl, hg, hR, hb1⟩
  have ha1 := ha.out.below hb1
  replace hR := Lib.hid hR
  replace ha1 := Lib.hid ha1
  go_wp2_with (with_reducible refine wpList_bts (src := 22) (dst := 9) (x := .tmp 15) (l := l) rfl rfl Try.underlying22 Try.underlying5 Try.underlying9 rfl ha1.out hn.out ?_)
  have hb2 : Below w.heap.size w (w1.alloc (.cells #[.string (str l), .int .i64 0] 95)) := hb1.alloc hb1.size _
  have hR2 := hR.out.keep ((Below.refl _ _).alloc (Nat.le_refl w1.heap.size) (.cells #[.string (str l), .int .i64 0] 95))
  have hM2 : RRd (w1.alloc (.cells #[.string (str l), .int .i64 0] 95)) w1.heap.size l 0 := ⟨Whole.new _ _ _, by rw [← hn.out]; omega⟩
  have hgg : g ≠ w1.heap.size := by
    obtain ⟨l', k', ⟨_, _, h1, _⟩, _⟩ := hR.out
    exact Nat.ne_of_lt h1.lt
  have hgw : w.heap.size ≤ w1.heap.size := hb1.size
  clear hR ha1 hb1
  generalize hh : w1.heap.size = h at hM2 hgg hgw ⊢
  generalize w1.alloc (.cells #[.string (str l), .int .i64 0] 95) = w2 at hb2 hR2 hM2 ⊢
  clear hh
  go_loopg [7] ps.length (fun gk i wr => ∃ j r e, j + gk = ps.length ∧ i = .int .i64 (j : Nat) ∧ RdR wr g r e ∧ RRd wr h r e ∧ Below w.heap.size w wr)
  case atStart => exact ⟨0, l, 0, by omega, rfl, hR2, hM2, hb2⟩
  case round =>
    obtain ⟨j, r, e, hj, rfl, hR, hM, hb⟩ := hrel
    clear hR2 hM2 hb2
    replace hj := Lib.hid hj
    by_cases hlt : j < ps.length ∧ j < 100
    · obtain ⟨hlt, hj100⟩ := hlt
      obtain ⟨pb, po, rfl, hcell⟩ := hps.out.get j (by simpa using hlt) (by decide)
      obtain ⟨k, m, hkm⟩ : ∃ k m, ps[j] = (k, m) := ⟨_, _, rfl⟩
      have c0 := hcell 0 (.int .i64 k) (by simp [rdRow, hkm])
      have c1 := hcell 1 (.int .i64 m) (by simp [rdRow, hkm])
      rw [Nat.add_zero] at c0
      clear hcell hkm
      have x0 : wr.cell? ⟨pb, po + j * 2, none⟩ = some (.int .i64 k) := by rw [hb.cell (World.block_lt_of_cell? w _ c0)]; exact c0
      have x1 : wr.cell? ⟨pb, po + (j * 2 + 1), none⟩ = some (.int .i64 m) := by rw [hb.cell (World.block_lt_of_cell? w _ c1)]; exact c1
      have hpg : pb ≠ g := by have := World.block_lt_of_cell? w _ c0; simp at this; omega
      have hph : pb ≠ h := by have := World.block_lt_of_cell? w _ c0; simp at this; omega
      have hM' := hM.1.cell 0
      have hM'' := hM.1.cell 1
      simp at hM' hM''
      clear c0 c1
      replace hR := Lib.hid hR
      replace hM := Lib.hid hM
      have hj1 : IntKind.i64.wrap ((j : Int) + 1) = ((j + 1 : Nat) : Int) := by rw [IntWalk.i64_in _ (by omega)]; rfl
      have hb_size := hb.size
      by_cases hk0 : k = 0
      · subst hk0
        go_wp2_with fail
        have z0 : wr.drew.cell? ⟨pb, po + j * 2, none⟩ = some (.int .i64 0) := x0
        have z1 : wr.drew.cell? ⟨pb, po + j * 2 + 1, none⟩ = some (.int .i64 m) := x1
        go_region_held (fun w' => w'.cell? ⟨pb, po + j * 2, none⟩ = some (.int .i64 0) ∧ w'.cell? ⟨pb, po + j * 2 + 1, none⟩ = some (.int .i64 m)) (constructor <;> assumption) (first
          | (go_at_call 49; refine (rd_num g r e m wr.drew (hR.out.keep ((Below.refl _ _).drew))).mono ?_; rintro x w3 ⟨rfl, hR3, hg3⟩; have y0 : w3.cell? ⟨pb, po + j * 2, none⟩ = some (.int .i64 0) := by { rw [World.cell?_of_block (hg3.block pb (World.block_lt_of_cell? wr _ x1) (by simpa using hpg))]; exact x0 }; have y1 : w3.cell? ⟨pb, po + j * 2 + 1, none⟩ = some (.int .i64 m) := by { rw [World.cell?_of_block (hg3.block pb (World.block_lt_of_cell? wr _ x1) (by simpa using hpg))]; exact x1 })
          | (go_at_call 63; refine (rr_num h r e m w3 ((hM.out.keep ((Below.refl _ _).drew)).keepG hg3 (Ne.symm hgg))).mono ?_; rintro x w4 ⟨rfl, hM4, hg4⟩; have yy0 : w4.cell? ⟨pb, po + j * 2, none⟩ = some (.int .i64 0) := by { rw [World.cell?_of_block (hg4.block pb (World.block_lt_of_cell? w3 _ y1) (by simpa using hph))]; exact y0 }; have yy1 : w4.cell? ⟨pb, po + j * 2 + 1, none⟩ = some (.int .i64 m) := by { rw [World.cell?_of_block (hg4.block pb (World.block_lt_of_cell? w3 _ y1) (by simpa using hph))]; exact y1 }))
        clear z0 z1
        have hM3 : RRd w3 h r e := RRd.keepG (w := wr.drew) (hM.out.keep ((Below.refl _ _).drew)) hg3 (Ne.symm hgg)
        have hR4 := hR3.keepG hM3 hg4 hgg
        have hb4 := (hb.drew.trans (below_of_grown hg3 hg hb_size)).trans (below_of_grown hg4 hgw (Nat.le_trans hb_size hg3.size))
        clear hR hM hb x0 x1 hM' hM'' hR3 hM3 hg3 hg4 y0 y1
        replace hR4 := Lib.hid hR4
        replace hM4 := Lib.hid hM4
        go_wp2_with fail
        go_quiet (fail)
        have hRwq := hR4.out.keep (Below.drewN' w4 nq)
        have hMwq := hM4.out.keep (Below.drewN' w4 nq)
        have hbwq := hb4.trans (Below.drewN' w4 nq)
        have xwq0 : (w4.drewN nq).cell? ⟨pb, po + j * 2, none⟩ = some (.int .i64 0) := yy0
        have xwq1 : (w4.drewN nq).cell? ⟨pb, po + j * 2 + 1, none⟩ = some (.int .i64 m) := yy1
        generalize w4.drewN nq = wq at hRwq hMwq hbwq xwq0 xwq1 ⊢
        clear hR4 hM4 hb4 yy0 yy1 nq
        go_wp2_with fail
        have hm0 := hMwq.1.cell 0
        have hm1 := hMwq.1.cell 1
        simp at hm0 hm1
        have qL : ∀ n, Calls Try.prog 53 #[.pointer (some ⟨g, 0, none⟩)] (wq.drewN n) fun x w' => x = .returned (.int .i64 ((rdNum r e m).2.1).length) ∧ ∃ k, w' = wq.drewN k :=
          fun n => (rd_left g _ _ _ (hRwq.keep (Below.drewN' _ _))).mono (by rintro x w' ⟨rfl, k, rfl⟩; exact ⟨rfl, n + k, World.drewN_drewN _ _ _⟩)
        have qE : ∀ n, Calls Try.prog 52 #[.pointer (some ⟨g, 0, none⟩)] (wq.drewN n) fun x w' => x = .returned (.int .i64 ((rdNum r e m).2.2)) ∧ ∃ k, w' = wq.drewN k :=
          fun n => (rd_err g _ _ _ (hRwq.keep (Below.drewN' _ _))).mono (by rintro x w' ⟨rfl, rfl⟩; exact ⟨rfl, n, rfl⟩)
        have qD : ∀ n, Calls Try.prog 68 #[.pointer (some ⟨g, 0, none⟩)] (wq.drewN n) fun x w' => x = .returned (.int .i64 (rdEnd ((rdNum r e m).2.1) ((rdNum r e m).2.2))) ∧ ∃ k, w' = wq.drewN k :=
          fun n => (rd_end g _ _ _ (hRwq.keep (Below.drewN' _ _))).mono (by rintro x w' ⟨rfl, k, rfl⟩; exact ⟨rfl, n + k, World.drewN_drewN _ _ _⟩)
        have qR : ∀ n, Calls Try.prog 69 #[.pointer (some ⟨h, 0, none⟩)] (wq.drewN n) fun x w' => x = .returned (.int .i64 (rdEnd ((rdNum r e m).2.1) ((rdNum r e m).2.2))) ∧ ∃ k, w' = wq.drewN k :=
          fun n => (rr_end h _ _ _ (hMwq.keep (Below.drewN' _ _))).mono (by rintro x w' ⟨rfl, rfl⟩; exact ⟨rfl, n, rfl⟩)
        replace hRwq := Lib.hid hRwq
        replace hMwq := Lib.hid hMwq
        go_quiet (first | with_reducible exact qL _ | with_reducible exact qE _ | with_reducible exact qD _ | with_reducible exact qR _)
        clear qL qE qD qR
        go_wp2_with fail
        go_roundg (gk - 1)
        case measure => have := hj.out; omega
        case rel =>
          exact ⟨j + 1, _, _, by have := hj.out; omega, by go_num, hRwq.out.keep (Below.drewN' _ _), hMwq.out.keep (Below.drewN' _ _), hbwq.trans (Below.drewN' _ _)⟩
      · by_cases hk1 : k = 1
        · subst hk1
          clear hk0
          go_wp2_with fail
          go_quiet (fail)
          have hRwq := hR.out.keep (Below.drewN' wr nq)
          have hMwq := hM.out.keep (Below.drewN' wr nq)
          have hbwq := hb.trans (Below.drewN' wr nq)
          have xwq0 : (wr.drewN nq).cell? ⟨pb, po + j * 2, none⟩ = some (.int .i64 1) := x0
          have xwq1 : (wr.drewN nq).cell? ⟨pb, po + j * 2 + 1, none⟩ = some (.int .i64 m) := x1
          generalize wr.drewN nq = wq at hRwq hMwq hbwq xwq0 xwq1 ⊢
          clear hR hM hb hM' hM'' x0 x1 nq
          replace hRwq := Lib.hid hRwq
          replace hMwq := Lib.hid hMwq
          go_wp2_with fail
          have z0 : wq.drew.cell? ⟨pb, po + j * 2, none⟩ = some (.int .i64 1) := xwq0
          have z1 : wq.drew.cell? ⟨pb, po + j * 2 + 1, none⟩ = some (.int .i64 m) := xwq1
          go_region_held (fun w' => w'.cell? ⟨pb, po + j * 2, none⟩ = some (.int .i64 1) ∧ w'.cell? ⟨pb, po + j * 2 + 1, none⟩ = some (.int .i64 m)) (constructor <;> assumption) (first
            | (go_at_call 50; refine (rd_str g r e m wq.drew (hRwq.out.keep ((Below.refl _ _).drew))).mono ?_; rintro x w3 ⟨rfl, hR3, hg3⟩; have y0 : w3.cell? ⟨pb, po + j * 2, none⟩ = some (.int .i64 1) := by { rw [World.cell?_of_block (hg3.block pb (World.block_lt_of_cell? wq _ xwq1) (by simpa using hpg))]; exact xwq0 }; have y1 : w3.cell? ⟨pb, po + j * 2 + 1, none⟩ = some (.int .i64 m) := by { rw [World.cell?_of_block (hg3.block pb (World.block_lt_of_cell? wq _ xwq1) (by simpa using hpg))]; exact xwq1 })
            | (go_at_call 64; refine (rr_str h r e m w3 ((hMwq.out.keep ((Below.refl _ _).drew)).keepG hg3 (Ne.symm hgg))).mono ?_; rintro x w4 ⟨rfl, hM4, hg4⟩; have yy0 : w4.cell? ⟨pb, po + j * 2, none⟩ = some (.int .i64 1) := by { rw [World.cell?_of_block (hg4.block pb (World.block_lt_of_cell? w3 _ y1) (by simpa using hph))]; exact y0 }; have yy1 : w4.cell? ⟨pb, po + j * 2 + 1, none⟩ = some (.int .i64 m) := by { rw [World.cell?_of_block (hg4.block pb (World.block_lt_of_cell? w3 _ y1) (by simpa using hph))]; exact y1 }))
          clear z0 z1
          have hM3 : RRd w3 h r e := RRd.keepG (w := wq.drew) (hMwq.out.keep ((Below.refl _ _).drew)) hg3 (Ne.symm hgg)
          have hR4 := hR3.keepG hM3 hg4 hgg
          have hb4 := (hbwq.drew.trans (below_of_grown hg3 hg hbwq.size)).trans (below_of_grown hg4 hgw (Nat.le_trans hbwq.size hg3.size))
          have hRw4 := hR4
          have hMw4 := hM4
          have hbw4 := hb4
          clear hR4 hM4 hb4 hRwq hMwq hbwq xwq0 xwq1 hR3 hM3 hg3 hg4 y0 y1
          go_wp2_with fail
          have hm0 := hMw4.1.cell 0
          have hm1 := hMw4.1.cell 1
          simp at hm0 hm1
          have qL : ∀ n, Calls Try.prog 53 #[.pointer (some ⟨g, 0, none⟩)] (w4.drewN n) fun x w' => x = .returned (.int .i64 ((rdStr r e m).2.1).length) ∧ ∃ k, w' = w4.drewN k :=
            fun n => (rd_left g _ _ _ (hRw4.keep (Below.drewN' _ _))).mono (by rintro x w' ⟨rfl, k, rfl⟩; exact ⟨rfl, n + k, World.drewN_drewN _ _ _⟩)
          have qE : ∀ n, Calls Try.prog 52 #[.pointer (some ⟨g, 0, none⟩)] (w4.drewN n) fun x w' => x = .returned (.int .i64 ((rdStr r e m).2.2)) ∧ ∃ k, w' = w4.drewN k :=
            fun n => (rd_err g _ _ _ (hRw4.keep (Below.drewN' _ _))).mono (by rintro x w' ⟨rfl, rfl⟩; exact ⟨rfl, n, rfl⟩)
          have qD : ∀ n, Calls Try.prog 68 #[.pointer (some ⟨g, 0, none⟩)] (w4.drewN n) fun x w' => x = .returned (.int .i64 (rdEnd ((rdStr r e m).2.1) ((rdStr r e m).2.2))) ∧ ∃ k, w' = w4.drewN k :=
            fun n => (rd_end g _ _ _ (hRw4.keep (Below.drewN' _ _))).mono (by rintro x w' ⟨rfl, k, rfl⟩; exact ⟨rfl, n + k, World.drewN_drewN _ _ _⟩)
          have qR : ∀ n, Calls Try.prog 69 #[.pointer (some ⟨h, 0, none⟩)] (w4.drewN n) fun x w' => x = .returned (.int .i64 (rdEnd ((rdStr r e m).2.1) ((rdStr r e m).2.2))) ∧ ∃ k, w' = w4.drewN k :=
            fun n => (rr_end h _ _ _ (hMw4.keep (Below.drewN' _ _))).mono (by rintro x w' ⟨rfl, rfl⟩; exact ⟨rfl, n, rfl⟩)
          replace hRw4 := Lib.hid hRw4
          replace hMw4 := Lib.hid hMw4
          go_quiet (first | with_reducible exact qL _ | with_reducible exact qE _ | with_reducible exact qD _ | with_reducible exact qR _)
          clear qL qE qD qR
          go_wp2_with fail
          go_roundg (gk - 1)
          case measure => have := hj.out; omega
          case rel =>
            exact ⟨j + 1, _, _, by have := hj.out; omega, by go_num, hRw4.out.keep (Below.drewN' _ _), hMw4.out.keep (Below.drewN' _ _), hbw4.trans (Below.drewN' _ _)⟩
        · by_cases hk2 : k = 2
          · subst hk2
            clear hk0 hk1
            go_wp2_with fail
            go_quiet (fail)
            have hRwq := hR.out.keep (Below.drewN' wr nq)
            have hMwq := hM.out.keep (Below.drewN' wr nq)
            have hbwq := hb.trans (Below.drewN' wr nq)
            have xwq0 : (wr.drewN nq).cell? ⟨pb, po + j * 2, none⟩ = some (.int .i64 2) := x0
            have xwq1 : (wr.drewN nq).cell? ⟨pb, po + j * 2 + 1, none⟩ = some (.int .i64 m) := x1
            generalize wr.drewN nq = wq at hRwq hMwq hbwq xwq0 xwq1 ⊢
            clear hR hM hb hM' hM'' x0 x1 nq
            replace hRwq := Lib.hid hRwq
            replace hMwq := Lib.hid hMwq
            go_wp2_with fail
            go_quiet (fail)
            have hRwp := hRwq.out.keep (Below.drewN' wq nq)
            have hMwp := hMwq.out.keep (Below.drewN' wq nq)
            have hbwp := hbwq.trans (Below.drewN' wq nq)
            have xwp0 : (wq.drewN nq).cell? ⟨pb, po + j * 2, none⟩ = some (.int .i64 2) := xwq0
            have xwp1 : (wq.drewN nq).cell? ⟨pb, po + j * 2 + 1, none⟩ = some (.int .i64 m) := xwq1
            generalize wq.drewN nq = wp at hRwp hMwp hbwp xwp0 xwp1 ⊢
            clear hRwq hMwq hbwq xwq0 xwq1 nq
            replace hRwp := Lib.hid hRwp
            replace hMwp := Lib.hid hMwp
            go_wp2_with fail
            refine (rd_flag g r e wp hRwp.out).mono ?_
            rintro x w3 ⟨rfl, hR3, hg3⟩
            have hM3 : RRd w3 h r e := RRd.keepG hMwp.out hg3 (Ne.symm hgg)
            go_wp2_with fail
            refine (rr_flag h r e w3 hM3).mono ?_
            rintro x w4 ⟨rfl, hM4, hg4⟩
            have hR4 := hR3.keepG hM3 hg4 hgg
            have hb4 := (hbwp.trans (below_of_grown hg3 hg hbwp.size)).trans (below_of_grown hg4 hgw (Nat.le_trans hbwp.size hg3.size))
            have v0 : w4.cell? ⟨pb, po + j * 2, none⟩ = some (.int .i64 2) := by
              rw [World.cell?_of_block (hg4.block pb (Nat.lt_of_lt_of_le (World.block_lt_of_cell? wp _ xwp0) hg3.size) (by simpa using hph)), World.cell?_of_block (hg3.block pb (World.block_lt_of_cell? wp _ xwp0) (by simpa using hpg))]
              exact xwp0
            have hRw4 := hR4
            have hMw4 := hM4
            have hbw4 := hb4
            clear hR4 hM4 hb4 hRwp hMwp hbwp xwp0 xwp1 hR3 hM3 hg3 hg4
            go_wp2_with fail
            have hm0 := hMw4.1.cell 0
            have hm1 := hMw4.1.cell 1
            simp at hm0 hm1
            have qL : ∀ n, Calls Try.prog 53 #[.pointer (some ⟨g, 0, none⟩)] (w4.drewN n) fun x w' => x = .returned (.int .i64 ((rdFlag r e).2.1).length) ∧ ∃ k, w' = w4.drewN k :=
              fun n => (rd_left g _ _ _ (hRw4.keep (Below.drewN' _ _))).mono (by rintro x w' ⟨rfl, k, rfl⟩; exact ⟨rfl, n + k, World.drewN_drewN _ _ _⟩)
            have qE : ∀ n, Calls Try.prog 52 #[.pointer (some ⟨g, 0, none⟩)] (w4.drewN n) fun x w' => x = .returned (.int .i64 ((rdFlag r e).2.2)) ∧ ∃ k, w' = w4.drewN k :=
              fun n => (rd_err g _ _ _ (hRw4.keep (Below.drewN' _ _))).mono (by rintro x w' ⟨rfl, rfl⟩; exact ⟨rfl, n, rfl⟩)
            have qD : ∀ n, Calls Try.prog 68 #[.pointer (some ⟨g, 0, none⟩)] (w4.drewN n) fun x w' => x = .returned (.int .i64 (rdEnd ((rdFlag r e).2.1) ((rdFlag r e).2.2))) ∧ ∃ k, w' = w4.drewN k :=
              fun n => (rd_end g _ _ _ (hRw4.keep (Below.drewN' _ _))).mono (by rintro x w' ⟨rfl, k, rfl⟩; exact ⟨rfl, n + k, World.drewN_drewN _ _ _⟩)
            have qR : ∀ n, Calls Try.prog 69 #[.pointer (some ⟨h, 0, none⟩)] (w4.drewN n) fun x w' => x = .returned (.int .i64 (rdEnd ((rdFlag r e).2.1) ((rdFlag r e).2.2))) ∧ ∃ k, w' = w4.drewN k :=
              fun n => (rr_end h _ _ _ (hMw4.keep (Below.drewN' _ _))).mono (by rintro x w' ⟨rfl, rfl⟩; exact ⟨rfl, n, rfl⟩)
            replace hRw4 := Lib.hid hRw4
            replace hMw4 := Lib.hid hMw4
            go_quiet (first | with_reducible exact qL _ | with_reducible exact qE _ | with_reducible exact qD _ | with_reducible exact qR _)
            clear qL qE qD qR
            go_wp2_with fail
            go_roundg (gk - 1)
            case measure => have := hj.out; omega
            case rel =>
              exact ⟨j + 1, _, _, by have := hj.out; omega, by go_num, hRw4.out.keep (Below.drewN' _ _), hMw4.out.keep (Below.drewN' _ _), hbw4.trans (Below.drewN' _ _)⟩
          · have hk3 : (decide (k < 0) || decide (2 < k)) = true := by simp; omega
            go_wp2_with fail
            go_quiet (fail)
            have hRwq := hR.out.keep (Below.drewN' wr nq)
            have hMwq := hM.out.keep (Below.drewN' wr nq)
            have hbwq := hb.trans (Below.drewN' wr nq)
            have xwq0 : (wr.drewN nq).cell? ⟨pb, po + j * 2, none⟩ = some (.int .i64 k) := x0
            have xwq1 : (wr.drewN nq).cell? ⟨pb, po + j * 2 + 1, none⟩ = some (.int .i64 m) := x1
            generalize wr.drewN nq = wq at hRwq hMwq hbwq xwq0 xwq1 ⊢
            clear hR hM hb hM' hM'' x0 x1 nq
            replace hRwq := Lib.hid hRwq
            replace hMwq := Lib.hid hMwq
            go_wp2_with fail
            go_quiet (fail)
            have hRwp := hRwq.out.keep (Below.drewN' wq nq)
            have hMwp := hMwq.out.keep (Below.drewN' wq nq)
            have hbwp := hbwq.trans (Below.drewN' wq nq)
            have xwp0 : (wq.drewN nq).cell? ⟨pb, po + j * 2, none⟩ = some (.int .i64 k) := xwq0
            have xwp1 : (wq.drewN nq).cell? ⟨pb, po + j * 2 + 1, none⟩ = some (.int .i64 m) := xwq1
            generalize wq.drewN nq = wp at hRwp hMwp hbwp xwp0 xwp1 ⊢
            clear hRwq hMwq hbwq xwq0 xwq1 nq
            replace hRwp := Lib.hid hRwp
            replace hMwp := Lib.hid hMwp
            by_cases hk4 : k < 0
            · go_wp2_with fail
              refine (rd_fail g r e 5 wp hRwp.out).mono ?_
              rintro x w3 ⟨rfl, hR3, hg3⟩
              have hM3 : RRd w3 h r e := RRd.keepG hMwp.out hg3 (Ne.symm hgg)
              go_wp2_with fail
              refine (rr_fail h r e 5 w3 hM3).mono ?_
              rintro x w4 ⟨rfl, hM4, hg4⟩
              have hR4 := hR3.keepG hM3 hg4 hgg
              have hb4 := (hbwp.trans (below_of_grown hg3 hg hbwp.size)).trans (below_of_grown hg4 hgw (Nat.le_trans hbwp.size hg3.size))
              have hRw4 := hR4
              have hMw4 := hM4
              have hbw4 := hb4
              clear hR4 hM4 hb4 hRwp hMwp hbwp xwp0 xwp1 hR3 hM3 hg3 hg4
              go_wp2_with fail
              have hm0 := hMw4.1.cell 0
              have hm1 := hMw4.1.cell 1
              simp at hm0 hm1
              have qL : ∀ n, Calls Try.prog 53 #[.pointer (some ⟨g, 0, none⟩)] (w4.drewN n) fun x w' => x = .returned (.int .i64 (r).length) ∧ ∃ k, w' = w4.drewN k :=
                fun n => (rd_left g _ _ _ (hRw4.keep (Below.drewN' _ _))).mono (by rintro x w' ⟨rfl, k, rfl⟩; exact ⟨rfl, n + k, World.drewN_drewN _ _ _⟩)
              have qE : ∀ n, Calls Try.prog 52 #[.pointer (some ⟨g, 0, none⟩)] (w4.drewN n) fun x w' => x = .returned (.int .i64 (rdFail e 5)) ∧ ∃ k, w' = w4.drewN k :=
                fun n => (rd_err g _ _ _ (hRw4.keep (Below.drewN' _ _))).mono (by rintro x w' ⟨rfl, rfl⟩; exact ⟨rfl, n, rfl⟩)
              have qD : ∀ n, Calls Try.prog 68 #[.pointer (some ⟨g, 0, none⟩)] (w4.drewN n) fun x w' => x = .returned (.int .i64 (rdEnd (r) (rdFail e 5))) ∧ ∃ k, w' = w4.drewN k :=
                fun n => (rd_end g _ _ _ (hRw4.keep (Below.drewN' _ _))).mono (by rintro x w' ⟨rfl, k, rfl⟩; exact ⟨rfl, n + k, World.drewN_drewN _ _ _⟩)
              have qR : ∀ n, Calls Try.prog 69 #[.pointer (some ⟨h, 0, none⟩)] (w4.drewN n) fun x w' => x = .returned (.int .i64 (rdEnd (r) (rdFail e 5))) ∧ ∃ k, w' = w4.drewN k :=
                fun n => (rr_end h _ _ _ (hMw4.keep (Below.drewN' _ _))).mono (by rintro x w' ⟨rfl, rfl⟩; exact ⟨rfl, n, rfl⟩)
              replace hRw4 := Lib.hid hRw4
              replace hMw4 := Lib.hid hMw4
              go_quiet (first | with_reducible exact qL _ | with_reducible exact qE _ | with_reducible exact qD _ | with_reducible exact qR _)
              clear qL qE qD qR
              go_wp2_with fail
              go_roundg (gk - 1)
              case measure => have := hj.out; omega
              case rel =>
                exact ⟨j + 1, _, _, by have := hj.out; omega, by go_num, hRw4.out.keep (Below.drewN' _ _), hMw4.out.keep (Below.drewN' _ _), hbw4.trans (Below.drewN' _ _)⟩
            · have hk5 : 2 < k := by omega
              go_wp2_with fail
              refine (rd_fail g r e 5 wp hRwp.out).mono ?_
              rintro x w3 ⟨rfl, hR3, hg3⟩
              have hM3 : RRd w3 h r e := RRd.keepG hMwp.out hg3 (Ne.symm hgg)
              go_wp2_with fail
              refine (rr_fail h r e 5 w3 hM3).mono ?_
              rintro x w4 ⟨rfl, hM4, hg4⟩
              have hR4 := hR3.keepG hM3 hg4 hgg
              have hb4 := (hbwp.trans (below_of_grown hg3 hg hbwp.size)).trans (below_of_grown hg4 hgw (Nat.le_trans hbwp.size hg3.size))
              have hRw4 := hR4
              have hMw4 := hM4
              have hbw4 := hb4
              clear hR4 hM4 hb4 hRwp hMwp hbwp xwp0 xwp1 hR3 hM3 hg3 hg4
              go_wp2_with fail
              have hm0 := hMw4.1.cell 0
              have hm1 := hMw4.1.cell 1
              simp at hm0 hm1
              have qL : ∀ n, Calls Try.prog 53 #[.pointer (some ⟨g, 0, none⟩)] (w4.drewN n) fun x w' => x = .returned (.int .i64 (r).length) ∧ ∃ k, w' = w4.drewN k :=
                fun n => (rd_left g _ _ _ (hRw4.keep (Below.drewN' _ _))).mono (by rintro x w' ⟨rfl, k, rfl⟩; exact ⟨rfl, n + k, World.drewN_drewN _ _ _⟩)
              have qE : ∀ n, Calls Try.prog 52 #[.pointer (some ⟨g, 0, none⟩)] (w4.drewN n) fun x w' => x = .returned (.int .i64 (rdFail e 5)) ∧ ∃ k, w' = w4.drewN k :=
                fun n => (rd_err g _ _ _ (hRw4.keep (Below.drewN' _ _))).mono (by rintro x w' ⟨rfl, rfl⟩; exact ⟨rfl, n, rfl⟩)
              have qD : ∀ n, Calls Try.prog 68 #[.pointer (some ⟨g, 0, none⟩)] (w4.drewN n) fun x w' => x = .returned (.int .i64 (rdEnd (r) (rdFail e 5))) ∧ ∃ k, w' = w4.drewN k :=
                fun n => (rd_end g _ _ _ (hRw4.keep (Below.drewN' _ _))).mono (by rintro x w' ⟨rfl, k, rfl⟩; exact ⟨rfl, n + k, World.drewN_drewN _ _ _⟩)
              have qR : ∀ n, Calls Try.prog 69 #[.pointer (some ⟨h, 0, none⟩)] (w4.drewN n) fun x w' => x = .returned (.int .i64 (rdEnd (r) (rdFail e 5))) ∧ ∃ k, w' = w4.drewN k :=
                fun n => (rr_end h _ _ _ (hMw4.keep (Below.drewN' _ _))).mono (by rintro x w' ⟨rfl, rfl⟩; exact ⟨rfl, n, rfl⟩)
              replace hRw4 := Lib.hid hRw4
              replace hMw4 := Lib.hid hMw4
              go_quiet (first | with_reducible exact qL _ | with_reducible exact qE _ | with_reducible exact qD _ | with_reducible exact qR _)
              clear qL qE qD qR
              go_wp2_with fail
              go_roundg (gk - 1)
              case measure => have := hj.out; omega
              case rel =>
                exact ⟨j + 1, _, _, by have := hj.out; omega, by go_num, hRw4.out.keep (Below.drewN' _ _), hMw4.out.keep (Below.drewN' _ _), hbw4.trans (Below.drewN' _ _)⟩
    · by_cases hjl : j < ps.length
      · have hj9 : ¬ j < 100 := fun h => hlt ⟨hjl, h⟩
        have hj100 : ¬ (j : Int) < 100 := by omega
        have hm0 := hM.1.cell 0
        simp at hm0
        have hmS : ∀ s : Past wr, s.1.cell? ⟨h, 0, none⟩ = some (.string (str r)) := fun s => s.cell hm0
        have qL : ∀ s : Past wr, Calls Try.prog 53 #[.pointer (some ⟨g, 0, none⟩)] s.1 fun x w' => x = .returned (.int .i64 r.length) ∧ ∃ t : Past wr, w' = t.1 := fun s => Calls.past ((rd_left g _ _ _ (hR.keep s.2)).mono (by rintro x w' ⟨rfl, k, rfl⟩; exact ⟨rfl, Below.drewN' _ _⟩))
        have qA : ∀ s : Past wr, Calls Try.prog 31 #[] s.1 fun x w' => x = .returned (.bool true) ∧ ∃ t : Past wr, w' = t.1 := fun s => Calls.past (awake01_any _)
        have qN : ∀ s : Past wr, Calls Try.prog 49 #[.pointer none, .int .i64 9] s.1 fun x w' => x = .returned (.int .i64 0) ∧ ∃ t : Past wr, w' = t.1 := fun s => Calls.past (Calls.same_below (nil_num _ _))
        have qS : ∀ s : Past wr, Calls Try.prog 50 #[.pointer none, .int .i64 9] s.1 fun x w' => x = .returned (.string (str [])) ∧ ∃ t : Past wr, w' = t.1 := fun s => Calls.past (Calls.same_below (nil_str _ _))
        have qF : ∀ s : Past wr, Calls Try.prog 51 #[.pointer none] s.1 fun x w' => x = .returned (.bool false) ∧ ∃ t : Past wr, w' = t.1 := fun s => Calls.past (Calls.same_below (nil_flag _))
        have qO : ∀ s : Past wr, Calls Try.prog 53 #[.pointer none] s.1 fun x w' => x = .returned (.int .i64 0) ∧ ∃ t : Past wr, w' = t.1 := fun s => Calls.past (Calls.same_below (nil_left _))
        have qE : ∀ s : Past wr, Calls Try.prog 52 #[.pointer none] s.1 fun x w' => x = .returned (.int .i64 1) ∧ ∃ t : Past wr, w' = t.1 := fun s => Calls.past (Calls.same_below (nil_err _))
        have qD : ∀ s : Past wr, Calls Try.prog 68 #[.pointer none] s.1 fun x w' => x = .returned (.int .i64 1) ∧ ∃ t : Past wr, w' = t.1 := fun s => Calls.past (Calls.same_below (nil_end _))
        clear hR hM hm0
        go_wp2_with fail
        refine (nil_fail _ _).mono ?_
        rintro x w3 ⟨rfl, rfl⟩
        go_wp2_with fail
        refine wp_region_past_lit (by kernel_rfl) (by kernel_rfl) ?_
        repeat (go_big_quiet_step (first | with_reducible exact qN _ | with_reducible exact qS _ | with_reducible exact qF _ | with_reducible exact qO _ | with_reducible exact qE _ | with_reducible exact qD _ | with_reducible exact qL _ | with_reducible exact qA _))
        refine wpQuiet_nil ?_
        rintro w5 ⟨⟨_, hb5⟩, rfl⟩
        go_wp2_with fail
        go_ret
        exact ⟨rfl, hb.trans (hb5.mono hb.size)⟩
      · have hm0 := hM.1.cell 0
        simp at hm0
        have hmS : ∀ s : Past wr, s.1.cell? ⟨h, 0, none⟩ = some (.string (str r)) := fun s => s.cell hm0
        have qL : ∀ s : Past wr, Calls Try.prog 53 #[.pointer (some ⟨g, 0, none⟩)] s.1 fun x w' => x = .returned (.int .i64 r.length) ∧ ∃ t : Past wr, w' = t.1 := fun s => Calls.past ((rd_left g _ _ _ (hR.keep s.2)).mono (by rintro x w' ⟨rfl, k, rfl⟩; exact ⟨rfl, Below.drewN' _ _⟩))
        have qA : ∀ s : Past wr, Calls Try.prog 31 #[] s.1 fun x w' => x = .returned (.bool true) ∧ ∃ t : Past wr, w' = t.1 := fun s => Calls.past (awake01_any _)
        have qN : ∀ s : Past wr, Calls Try.prog 49 #[.pointer none, .int .i64 9] s.1 fun x w' => x = .returned (.int .i64 0) ∧ ∃ t : Past wr, w' = t.1 := fun s => Calls.past (Calls.same_below (nil_num _ _))
        have qS : ∀ s : Past wr, Calls Try.prog 50 #[.pointer none, .int .i64 9] s.1 fun x w' => x = .returned (.string (str [])) ∧ ∃ t : Past wr, w' = t.1 := fun s => Calls.past (Calls.same_below (nil_str _ _))
        have qF : ∀ s : Past wr, Calls Try.prog 51 #[.pointer none] s.1 fun x w' => x = .returned (.bool false) ∧ ∃ t : Past wr, w' = t.1 := fun s => Calls.past (Calls.same_below (nil_flag _))
        have qO : ∀ s : Past wr, Calls Try.prog 53 #[.pointer none] s.1 fun x w' => x = .returned (.int .i64 0) ∧ ∃ t : Past wr, w' = t.1 := fun s => Calls.past (Calls.same_below (nil_left _))
        have qE : ∀ s : Past wr, Calls Try.prog 52 #[.pointer none] s.1 fun x w' => x = .returned (.int .i64 1) ∧ ∃ t : Past wr, w' = t.1 := fun s => Calls.past (Calls.same_below (nil_err _))
        have qD : ∀ s : Past wr, Calls Try.prog 68 #[.pointer none] s.1 fun x w' => x = .returned (.int .i64 1) ∧ ∃ t : Past wr, w' = t.1 := fun s => Calls.past (Calls.same_below (nil_end _))
        clear hR hM hm0
        go_wp2_with fail
        refine (nil_fail _ _).mono ?_
        rintro x w3 ⟨rfl, rfl⟩
        go_wp2_with fail
        refine wp_region_past_lit (by kernel_rfl) (by kernel_rfl) ?_
        repeat (go_big_quiet_step (first | with_reducible exact qN _ | with_reducible exact qS _ | with_reducible exact qF _ | with_reducible exact qO _ | with_reducible exact qE _ | with_reducible exact qD _ | with_reducible exact qL _ | with_reducible exact qA _))
        refine wpQuiet_nil ?_
        rintro w5 ⟨⟨_, hb5⟩, rfl⟩
        go_wp2_with fail
        go_ret
        exact ⟨rfl, hb.trans (hb5.mono hb.size)⟩

set_option maxRecDepth 100000
theorem reads_skip (a b : Option Addr) (n m ca cb : Nat) (w : World) (hl : 2000 < n) (hn : n ≤ maxLen) :
    Calls Try.prog 13 #[.slice a n ca, .slice b m cb] w fun e w' => e = .returned (.bool true) ∧ Below w.heap.size w w' := by
  unfold maxLen at hn
  go_enter Try.func13, Try.ntmps13
  go_wp2_with fail
  refine (awake01_any _).mono ?_
  rintro e w1 ⟨rfl, hb1⟩
  go_wp2_with fail
  go_ret
  exact ⟨rfl, hb1⟩

theorem rows_of {rows : List (List Value)} (h : ∀ cs ∈ rows, ∃ p, cs = rdRow p) : ∃ ps : List (Int × Int), rows = ps.map rdRow := by
  induction rows with
  | nil => exact ⟨[], rfl⟩
  | cons c cs ih =>
    obtain ⟨p, rfl⟩ := h c (by simp)
    obtain ⟨ps, rfl⟩ := ih (fun x hx => h x (by simp [hx]))
    exact ⟨p :: ps, rfl⟩

section
variable {H : Type} {enc : TypeId × Value → H}
theorem read_row {w : World} {base : Nat} {spare : Nat → Bool} {held : Bool} {cs : List Value} (h : ∃ fuel x, DataW.trod enc Try.prog w base spare held fuel 97 cs = some x) : ∃ p, cs = rdRow p := by
  obtain ⟨fuel, x, h⟩ := h
  obtain ⟨hl, hf⟩ := field_read Try.underlying97 h
  have hc : Try.prog.cellsOf 97 = 2 := by kernel_rfl
  rw [hc] at hl
  obtain ⟨n0, y0, h0⟩ := hf 0 _ rfl
  obtain ⟨n1, y1, h1⟩ := hf 1 _ rfl
  obtain ⟨z0, e0, _⟩ := field_int Try.underlying3 (by kernel_rfl) (by rw [hl]; decide) h0
  obtain ⟨z1, e1, _⟩ := field_int Try.underlying3 (by kernel_rfl) (by rw [hl]; decide) h1
  match cs, hl with
  | [c, d], _ =>
    simp at e0 e1
    exact ⟨(z0, z1), by rw [e0, e1]; rfl⟩

theorem reads_all {r : Reach} {b0 base : Nat} {spare : Nat → Bool} {held : Bool} {v : Value} {d : DataW H} {ps : List MemPlace} (a : Option Addr) (l : List UInt8) (cap : Nat) (w : World) (ha : Sl w a (l.map vb)) (hl : l.length ≤ maxLen)
    (ho : Value.okWide Try.prog w r b0 92 v) (ht : DataW.Trod enc Try.prog w base spare held 92 v d ps) :
    Calls Try.prog 13 #[.slice a l.length cap, v] w fun e w' => e = .returned (.bool true) ∧ Below w.heap.size w w' := by
  have hc : Try.prog.cellsOf 97 = 2 := by kernel_rfl
  obtain ⟨b, n, cb, rfl, hn, hm, rows, hrl, hrw, hrd⟩ := open_rows Try.underlying92 ho ht (by rw [hc]; decide)
  rw [hc] at hrw
  obtain ⟨qs, rfl⟩ := rows_of fun cs h => read_row (hrd cs h)
  rw [List.length_map] at hrl
  subst hrl
  by_cases h : l.length ≤ 2000
  · exact reads_main a b l l.length cap cb qs w rfl h ha hrw (Nat.le_trans hn hm)
  · exact reads_skip a b l.length _ cap cb w (by omega) hl
end

end Go.Proofs.Ytcpkmgmdhjhfaaa
