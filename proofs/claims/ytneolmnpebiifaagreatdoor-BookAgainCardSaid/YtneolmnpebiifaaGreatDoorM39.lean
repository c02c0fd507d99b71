/- Texts laid together: BookDoes BookLawDo BookAwake BookLong BookLaw. -/
import Derived.Test.YtneolmnpebiifaaGreatDoorM17
import Derived.Test.YtneolmnpebiifaaGreatDoorM18
import Derived.Test.YtneolmnpebiifaaGreatDoorM19
import Derived.Test.YtneolmnpebiifaaGreatDoorM22
import Derived.Test.YtneolmnpebiifaaGreatDoorM3
import Derived.Test.YtneolmnpebiifaaGreatDoorM33
import Derived.Test.YtneolmnpebiifaaGreatDoorM34
import Derived.Test.YtneolmnpebiifaaGreatDoorM35
import Derived.Test.YtneolmnpebiifaaGreatDoorM38
section
/- The law's does. -/
set_option linter.unusedSimpArgs false
set_option linter.unusedVariables false
namespace Go.Ofp
open Go.RowKit
theorem Stp.wide {p q : World → Prop} {L : List Ch} (k : Stp p q L) (A B : List Ch) : Stp p q (A ++ (L ++ B)) := fun w0 F A1 B1 W hW h => k w0 F (A1 ++ A) (B ++ B1) W (by simpa using hW) h
theorem BkOk.sz {n : Nat} {b : BkS} (h : BkOk n b) : b.sh.m.length ≤ 50000 ∧ b.sh.dead.length ≤ 50000 := ⟨by have := h.sh.len; omega, by have := h.sh.dlen; omega⟩
end Go.Ofp
namespace Go.Proofs.YtneolmnpebiifaaGreatDoor
open Go.RowKit Go.Ofp
set_option linter.unusedVariables false
set_option maxRecDepth 100000
set_option maxHeartbeats 8000000
end Go.Proofs.YtneolmnpebiifaaGreatDoor
end

section
/- Do, does: in a law. -/
set_option linter.unusedSimpArgs false
set_option linter.unusedVariables false
namespace Go.Ofp
open Go.RowKit
theorem Ovr.off {w0 W : World} {p : World → Prop} {A B R : List Ch} (h : Ovr w0 p R) (hS : St w0 [] (A ++ (B ++ R)) W) : ∀ W', Fr (feet B) W W' → p W' := fun _ k => h.at (A := A) (hS.offM k)
end Go.Ofp
namespace Go.Proofs.YtneolmnpebiifaaGreatDoor
open Go.RowKit Go.Ofp
set_option linter.unusedVariables false
set_option maxRecDepth 100000
theorem bdo_law {m g gs gm : Nat} {b : BkS} {p : PV} {w0 W : World} {A R : List Ch} (e : Ed) (he : EdIn e) (hS : St w0 [] (A ++ (bkV g gs gm b p ++ R)) W) (hO : Ovr w0 (p.at b) R) (hok : BkOk m b) (hm : m ≤ 400) (htab : Tab w0) :
    Calls Tryz.prog 11 #[.pointer (some ⟨g, 0, none⟩), .agg (edRow e).toArray] W fun x W' => ∃ (p' : PV) (a : Option Addr) (c : Nat) (L : List Ch), x = .returned (.tuple #[.slice a (b.does e).2.1.length c, .int .i64 (b.does e).2.2]) ∧
      St w0 [] (A ++ (bkV g gs gm (b.does e).1 p' ++ (Ch.row 48 2 (.slice a (b.does e).2.1.length c) (b.does e).2.1.length (chRows (b.does e).2.1) :: (L ++ R)))) W' ∧ Ovr w0 (p'.at (b.does e).1) (L ++ R) := by
  refine (bdo_any m g gs gm b p e he W hS.preM hok (by omega) (hO.off hS) (htab.fr hS.fr (by simp)) (tab_feet hS htab)).mono ?_
  rintro x W' ⟨p', a, c, L, h1, h2, h3⟩
  refine ⟨p', a, c, L, h1, ?_, hO.step h3⟩
  have := hS.callM h2
  simpa using this
end Go.Proofs.YtneolmnpebiifaaGreatDoor
end

section
/- The law's awake. -/
set_option linter.unusedSimpArgs false
set_option linter.unusedVariables false
namespace Go.Ofp
instance : DecidableEq BkS := fun a b => decidable_of_iff (eqB a b = true) (eqB_iff a b)
def exE1 : Ed := ⟨4, 0, 1, Pt.zero⟩
def exE2 : Ed := ⟨1, 0, 0, exZ⟩
def exE4 : Ed := ⟨6, 2, 1, Pt.zero⟩
def exE5 : Ed := ⟨5, 0, 1, Pt.zero⟩
def exB1 : BkS := ⟨1, ShS.new, [(1, [])]⟩
def exB2 : BkS := ⟨2, exS1, [(1, [])]⟩
def exB3 : BkS := ⟨3, exS2, [(1, [])]⟩
def exB4 : BkS := ⟨4, exS2, [(1, [2])]⟩
def exB5 : BkS := ⟨6, exS2, []⟩
theorem ex_do1 : BkS.new.does exE1 = (exB1, [(1, 0)], 0) := by decide +kernel
theorem ex_do2 : exB1.does exE2 = (exB2, [(2, 1)], 0) := by decide +kernel
theorem ex_do3 : exB2.does exE2 = (exB3, [(3, 2)], 0) := by decide +kernel
theorem ex_do4 : exB3.does exE4 = (exB4, [(4, 2)], 0) := by decide +kernel
theorem ex_do5 : exB4.does exE5 = (exB5, [(5, 2), (6, 0)], 0) := by decide +kernel
theorem BkOk.is {n : Nat} {b b1 : BkS} {e : Ed} {X : List (Int × Int)} {er : Int} (h : BkOk n b) (hd : b.does e = (b1, X, er)) (hp : e.p.lab < 4294967296) (hn : n ≤ 400) : BkOk (n + 1) b1 := by
  have := h.does e hp hn
  rw [hd] at this
  exact this
end Go.Ofp
namespace Go.Proofs.YtneolmnpebiifaaGreatDoor
open Go.RowKit Go.Ofp
set_option linter.unusedVariables false
set_option maxRecDepth 100000
set_option maxHeartbeats 4000000
theorem ptz_in : PtIn Pt.zero := ⟨by decide, by decide, rfl, fun v hv => by
  have : v ∈ List.replicate 8 Vl.zero := hv
  rw [List.eq_of_mem_replicate this]
  exact ⟨by decide, by decide, Nat.zero_le _⟩⟩
theorem exE1_in : EdIn exE1 := ⟨by decide, by decide, by decide, ptz_in⟩
theorem exE2_in : EdIn exE2 := ⟨by decide, by decide, by decide, exZ_in⟩
theorem exE4_in : EdIn exE4 := ⟨by decide, by decide, by decide, ptz_in⟩
theorem exE5_in : EdIn exE5 := ⟨by decide, by decide, by decide, ptz_in⟩
theorem bdo_is {m g gs gm : Nat} {b b1 : BkS} {X : List (Int × Int)} {er : Int} {p : PV} {w0 W : World} {A R : List Ch} (e : Ed) (hd : b.does e = (b1, X, er)) (he : EdIn e) (hS : St w0 [] (A ++ (bkV g gs gm b p ++ R)) W) (hO : Ovr w0 (p.at b) R) (hok : BkOk m b) (hm : m ≤ 400) (htab : Tab w0) :
    Calls Tryz.prog 11 #[.pointer (some ⟨g, 0, none⟩), .agg (edRow e).toArray] W fun x W' => ∃ (p' : PV) (a : Option Addr) (c : Nat) (R' : List Ch), x = .returned (.tuple #[.slice a X.length c, .int .i64 er]) ∧
      St w0 [] (A ++ (bkV g gs gm b1 p' ++ (Ch.row 48 2 (.slice a X.length c) X.length (chRows X) :: R'))) W' ∧ Ovr w0 (p'.at b1) (Ch.row 48 2 (.slice a X.length c) X.length (chRows X) :: R') := by
  have h := bdo_law e he hS hO hok hm htab
  rw [hd] at h
  refine h.mono ?_
  rintro x W' ⟨p', a, c, L, h1, h2, h3⟩
  exact ⟨p', a, c, L ++ R, h1, h2, h3.more [_]⟩
abbrev pv0 : PV := ⟨none, 0, [], none, 0⟩
theorem pv0_ovr (w : World) (R : List Ch) : Ovr w (pv0.at BkS.new) R := fun A B W hW => ⟨rfl, deep_nil W⟩
theorem build_e1 (w : World) : (Instr.build 44 #[(0, .int .i64 4), (2, .int .i64 1)]).run Tryz.prog w = .ok (.agg (edRow exE1).toArray) w := by kernel_rfl
theorem build_e2 (w : World) : (Instr.build 44 #[(0, .int .i64 1), (3, .agg #[.int .u32 1, .int .u32 0, .int .i64 0, .int .i64 0, .string ⟨#[]⟩, .int .i64 0, .int .i64 0, .string ⟨#[]⟩, .int .i64 0, .int .i64 0, .string ⟨#[]⟩, .int .i64 0, .int .i64 0, .string ⟨#[]⟩, .int .i64 0, .int .i64 0, .string ⟨#[]⟩, .int .i64 0, .int .i64 0, .string ⟨#[]⟩, .int .i64 0, .int .i64 0, .string ⟨#[]⟩, .int .i64 0, .int .i64 0, .string ⟨#[]⟩])]).run Tryz.prog w = .ok (.agg (edRow exE2).toArray) w := by kernel_rfl
theorem build_e4 (w : World) : (Instr.build 44 #[(0, .int .i64 6), (2, .int .i64 1), (1, .int .i64 2)]).run Tryz.prog w = .ok (.agg (edRow exE4).toArray) w := by kernel_rfl
theorem build_e5 (w : World) : (Instr.build 44 #[(0, .int .i64 5), (2, .int .i64 1)]).run Tryz.prog w = .ok (.agg (edRow exE5).toArray) w := by kernel_rfl
theorem build_c1 (w : World) : (Instr.build 48 #[(0, .int .i64 5), (1, .int .i64 2)]).run Tryz.prog w = .ok (.agg #[.int .i64 5, .int .i64 2]) w := by kernel_rfl
theorem build_c2 (w : World) : (Instr.build 48 #[(0, .int .i64 6)]).run Tryz.prog w = .ok (.agg #[.int .i64 6, .int .i64 0]) w := by kernel_rfl
theorem blk_lst {w0 w : World} {F : List Nat} {L : List Ch} (hS : St w0 F L w) (i : Nat) {h T : Nat} (hi : L[i]? = some (Ch.blk h T #[.int .i64 5, .int .i64 2, .int .i64 6, .int .i64 0])) : Lst chRow (fun _ => True) w (some ⟨h, 0, none⟩) 2 2 [(5, 2), (6, 0)] :=
  ⟨hS.blksl2 i (xs := [.int .i64 5, .int .i64 2, .int .i64 6, .int .i64 0]) hi, rfl, Nat.le_refl _, by decide, fun _ _ => trivial⟩
theorem awake20_any (w : World) (ht : Tab w) : Calls Tryz.prog 8 #[] w fun e w' => e = .returned (.bool true) ∧ Below w.heap.size w w' := by
  have hS := St.start w
  have ep := elem_pt
  have ech := elem_ch
  have hb0 := build_pt1
  have hb1 := build_e1
  have hb2 := build_e2
  have hb4 := build_e4
  have hb5 := build_e5
  have hc1 := build_c1
  have hc2 := build_c2
  have hB2 := fun W : World => run_build2 (P := Tryz.prog) W 33 _ Tryz.underlying33 ech (u := [.int .i64 5, .int .i64 2]) (v := [.int .i64 6, .int .i64 0]) rfl rfl (by decide)
  have hRP : ptRow exZ = [.int .u32 1, .int .u32 0, .int .i64 0, .int .i64 0, .string ⟨#[]⟩, .int .i64 0, .int .i64 0, .string ⟨#[]⟩, .int .i64 0, .int .i64 0, .string ⟨#[]⟩, .int .i64 0, .int .i64 0, .string ⟨#[]⟩, .int .i64 0, .int .i64 0, .string ⟨#[]⟩, .int .i64 0, .int .i64 0, .string ⟨#[]⟩, .int .i64 0, .int .i64 0, .string ⟨#[]⟩, .int .i64 0, .int .i64 0, .string ⟨#[]⟩] := rfl
  rw [hRP] at hb0
  have ok0 := BkOk.new 0
  have ok1 := ok0.is ex_do1 (by decide) (by decide)
  have ok2 := ok1.is ex_do2 (by decide) (by decide)
  have ok3 := ok2.is ex_do3 (by decide) (by decide)
  have ok4 := ok3.is ex_do4 (by decide) (by decide)
  have cN := fun W => bnew_any W
  have hO := pv0_ovr w []
  have cD1 := fun (g gs gm : Nat) (p : PV) (A R : List Ch) W h1 h2 => bdo_is (g := g) (gs := gs) (gm := gm) (p := p) (A := A) (R := R) (W := W) exE1 ex_do1 exE1_in h1 h2 ok0 (by decide) ht
  have cD2 := fun (g gs gm : Nat) (p : PV) (A R : List Ch) W h1 h2 => bdo_is (g := g) (gs := gs) (gm := gm) (p := p) (A := A) (R := R) (W := W) exE2 ex_do2 exE2_in h1 h2 ok1 (by decide) ht
  have cD3 := fun (g gs gm : Nat) (p : PV) (A R : List Ch) W h1 h2 => bdo_is (g := g) (gs := gs) (gm := gm) (p := p) (A := A) (R := R) (W := W) exE2 ex_do3 exE2_in h1 h2 ok2 (by decide) ht
  have cD4 := fun (g gs gm : Nat) (p : PV) (A R : List Ch) W h1 h2 => bdo_is (g := g) (gs := gs) (gm := gm) (p := p) (A := A) (R := R) (W := W) exE4 ex_do4 exE4_in h1 h2 ok3 (by decide) ht
  have cD5 := fun (g gs gm : Nat) (p : PV) (A R : List Ch) W h1 h2 => bdo_is (g := g) (gs := gs) (gm := gm) (p := p) (A := A) (R := R) (W := W) exE5 ex_do5 exE5_in h1 h2 ok4 (by decide) ht
  have hR1 : edRow exE1 = [.int .i64 4, .int .i64 0, .int .i64 1, .int .u32 0, .int .u32 0, .int .i64 0, .int .i64 0, .string ⟨#[]⟩, .int .i64 0, .int .i64 0, .string ⟨#[]⟩, .int .i64 0, .int .i64 0, .string ⟨#[]⟩, .int .i64 0, .int .i64 0, .string ⟨#[]⟩, .int .i64 0, .int .i64 0, .string ⟨#[]⟩, .int .i64 0, .int .i64 0, .string ⟨#[]⟩, .int .i64 0, .int .i64 0, .string ⟨#[]⟩, .int .i64 0, .int .i64 0, .string ⟨#[]⟩] := rfl
  have hR2 : edRow exE2 = [.int .i64 1, .int .i64 0, .int .i64 0, .int .u32 1, .int .u32 0, .int .i64 0, .int .i64 0, .string ⟨#[]⟩, .int .i64 0, .int .i64 0, .string ⟨#[]⟩, .int .i64 0, .int .i64 0, .string ⟨#[]⟩, .int .i64 0, .int .i64 0, .string ⟨#[]⟩, .int .i64 0, .int .i64 0, .string ⟨#[]⟩, .int .i64 0, .int .i64 0, .string ⟨#[]⟩, .int .i64 0, .int .i64 0, .string ⟨#[]⟩, .int .i64 0, .int .i64 0, .string ⟨#[]⟩] := rfl
  have hR4 : edRow exE4 = [.int .i64 6, .int .i64 2, .int .i64 1, .int .u32 0, .int .u32 0, .int .i64 0, .int .i64 0, .string ⟨#[]⟩, .int .i64 0, .int .i64 0, .string ⟨#[]⟩, .int .i64 0, .int .i64 0, .string ⟨#[]⟩, .int .i64 0, .int .i64 0, .string ⟨#[]⟩, .int .i64 0, .int .i64 0, .string ⟨#[]⟩, .int .i64 0, .int .i64 0, .string ⟨#[]⟩, .int .i64 0, .int .i64 0, .string ⟨#[]⟩, .int .i64 0, .int .i64 0, .string ⟨#[]⟩] := rfl
  have hR5 : edRow exE5 = [.int .i64 5, .int .i64 0, .int .i64 1, .int .u32 0, .int .u32 0, .int .i64 0, .int .i64 0, .string ⟨#[]⟩, .int .i64 0, .int .i64 0, .string ⟨#[]⟩, .int .i64 0, .int .i64 0, .string ⟨#[]⟩, .int .i64 0, .int .i64 0, .string ⟨#[]⟩, .int .i64 0, .int .i64 0, .string ⟨#[]⟩, .int .i64 0, .int .i64 0, .string ⟨#[]⟩, .int .i64 0, .int .i64 0, .string ⟨#[]⟩, .int .i64 0, .int .i64 0, .string ⟨#[]⟩] := rfl
  rw [hR1] at cD1
  rw [hR2] at cD2 cD3
  rw [hR4] at cD4
  rw [hR5] at cD5
  clear hR1 hR2 hR4 hR5 hb1 hb2 hb4 hb5
  have cCh := fun (a b : Option Addr) (c d : Nat) (W : World) h1 h2 => changes_any a b 2 2 c d [(5, 2), (6, 0)] [(5, 2), (6, 0)] W h1 h2 (by decide) (by decide)
  rw [decide_eq_true rfl] at cCh
  have hl5 : ([(5, 2), (6, 0)] : List (Int × Int)).length = 2 := rfl
  rw [hl5] at cD5
  obtain ⟨X5, hX5⟩ : ∃ X : List (Int × Int), X = [(5, 2), (6, 0)] := ⟨_, rfl⟩
  rw [← hX5] at cD5 cCh
  have hlb := Lib.hid fun (w0 w : World) (F : List Nat) (L : List Ch) (hS : St w0 F L w) (i h T : Nat) hi => blk_lst hS i (h := h) (T := T) hi
  rw [← hX5] at hlb
  have hX2 : X5.length = 2 := by rw [hX5]; rfl
  have hlr := Lib.hid fun (w0 w : World) (F : List Nat) (L : List Ch) (hS : St w0 F L w) (i : Nat) (a : Option Addr) (c : Nat) (hi : L[i]? = some (Ch.row 48 2 (.slice a 2 c) 2 (chRows X5))) => show Lst chRow (fun _ => True) w a 2 c X5 from hS.lst i hi hX2 (fun _ _ => trivial)
  clear hX5 hX2 hl5 hRP ok0 ok1 ok2 ok3 ok4 ht
  generalize hq0 : BkS.new = b0 at *
  have cN2 := Lib.hid fun W => show Calls Tryz.prog 9 #[] W fun e w' => ∃ g gs gm, e = .returned (.pointer (some ⟨g, 0, none⟩)) ∧ St W [] (bkV g gs gm b0 pv0) w' from by rw [← hq0]; exact cN W
  clear cN hq0
  generalize exB1 = b1 at *
  generalize exB2 = b2 at *
  generalize exB3 = b3 at *
  generalize exB4 = b4 at *
  generalize exB5 = b5 at *
  replace cD1 := Lib.hid cD1
  replace cD2 := Lib.hid cD2
  replace cD3 := Lib.hid cD3
  replace cD4 := Lib.hid cD4
  replace cD5 := Lib.hid cD5
  replace cCh := Lib.hid cCh
  replace hO := Lib.hid hO
  go_enter Tryz.func8, Tryz.ntmps8
  go_wp2_with (first
    | (go_at_call 9; (with_reducible refine (cN2.out _).mono ?_); rintro _ w3 ⟨g, gs, gm, rfl, hk9⟩; have hS1 := hS.made hk9; clear hS hk9; have hS := hS1; clear hS1)
    | (with_reducible refine wpList_alloc_st (t := 42) hS rfl rfl ep ?_; intro gp w1 hS1; clear hS; have hS := hS1; clear hS1)
    | ((with_reducible refine wpList_storerow_st (t := 42) (n := 26) 0 hS rfl rfl rfl rfl (by kernel_rfl) rfl rfl rfl (by kernel_rfl) ?_); intro w1 hS1; clear hS; have hS : St w [] ([Ch.blk gp 42 #[.int .u32 1, .int .u32 0, .int .i64 0, .int .i64 0, .string ⟨#[]⟩, .int .i64 0, .int .i64 0, .string ⟨#[]⟩, .int .i64 0, .int .i64 0, .string ⟨#[]⟩, .int .i64 0, .int .i64 0, .string ⟨#[]⟩, .int .i64 0, .int .i64 0, .string ⟨#[]⟩, .int .i64 0, .int .i64 0, .string ⟨#[]⟩, .int .i64 0, .int .i64 0, .string ⟨#[]⟩, .int .i64 0, .int .i64 0, .string ⟨#[]⟩]] ++ (bkV g gs gm b0 pv0 ++ [])) w1 := hS1; clear hS1)
    | (go_at_call 11; (with_reducible refine (cD1.out g gs gm pv0 _ [] _ hS hO.out).mono ?_); rintro _ w3 ⟨p1, a1, c1, R1, rfl, hk9, hk8⟩; clear hS hO; have hS := hk9; have hO := Lib.hid hk8; clear hk9 hk8)
    | (go_at_call 11; (with_reducible refine (cD2.out g gs gm p1 _ (_ :: R1) _ hS hO.out).mono ?_); rintro _ w3 ⟨p2, a2, c2, R2, rfl, hk9, hk8⟩; clear hS hO; have hS := hk9; have hO := Lib.hid hk8; clear hk9 hk8)
    | (go_at_call 11; (with_reducible refine (cD3.out g gs gm p2 _ (_ :: R2) _ hS hO.out).mono ?_); rintro _ w3 ⟨p3, a3, c3, R3, rfl, hk9, hk8⟩; clear hS hO; have hS := hk9; have hO := Lib.hid hk8; clear hk9 hk8)
    | (go_at_call 11; (with_reducible refine (cD4.out g gs gm p3 _ (_ :: R3) _ hS hO.out).mono ?_); rintro _ w3 ⟨p4, a4, c4, R4, rfl, hk9, hk8⟩; clear hS hO; have hS := hk9; have hO := Lib.hid hk8; clear hk9 hk8)
    | (go_at_call 11; (with_reducible refine (cD5.out g gs gm p4 _ (_ :: R4) _ hS hO.out).mono ?_); rintro _ w3 ⟨p5, a5, c5, R5, rfl, hk9, hk8⟩; clear hS hO; have hS := hk9; have hO := Lib.hid hk8; clear hk9 hk8)
    | (refine wpList_of_op fun K hK => op_buildr_st (by with_unfolding_all rfl) hS hB2 rfl rfl ?_; intro gr w3 hS1; refine hK _ _ ?_; clear hK hS; have hS := hS1; clear hS1)
    | (go_at_call 27; (with_reducible refine (cCh.out _ _ _ _ _ (hlr.out _ _ _ _ hS 6 _ _ rfl) (hlb.out _ _ _ _ hS 0 _ _ rfl)).mono ?_); rintro _ w3 ⟨rfl, hk9⟩; have hS1 := hS.keepB hk9; clear hk9 hS; have hS := hS1; clear hS1)
    | (with_reducible refine wpList_box_st hS rfl rfl rfl ?_; clear hS; intro g1 w1 hS) | (with_reducible refine wpList_box1_st hS rfl rfl rfl ?_; clear hS; intro g1 w1 hS) | (with_reducible refine al hS rfl rfl ?_; clear hS; intro g1 w1 hS) | (with_reducible refine wpList_alloc1_st hS rfl rfl (by assumption) rfl ?_; clear hS; intro g1 w1 hS) | (with_reducible refine ld 0 hS rfl rfl rfl rfl rfl ?_) | (with_reducible refine lda 0 hS rfl rfl rfl rfl ?_) | (with_reducible refine sto 0 hS rfl rfl rfl rfl rfl rfl ?_; clear hS; intro w1 hS) | (with_reducible refine stor 0 hS rfl rfl rfl rfl rfl rfl rfl rfl ?_; clear hS; intro w1 hS))
  go_ret
  exact ⟨rfl, hS.below⟩
end Go.Proofs.YtneolmnpebiifaaGreatDoor
end

section
/- The book's laws: Long, Large. -/
set_option linter.unusedSimpArgs false
set_option linter.unusedVariables false
namespace Go.Proofs.YtneolmnpebiifaaGreatDoor
open Go.RowKit Go.Ofp
set_option linter.unusedVariables false
set_option maxRecDepth 100000
set_option maxHeartbeats 4000000
def longE (l : List Ed) : Bool := decide (120 < l.length) || l.any fun x => largeF x.p.f
theorem any_drop {α : Type} (l : List α) (f : α → Bool) (j : Nat) (h : j < l.length) : (l.drop j).any f = (f l[j] || (l.drop (j + 1)).any f) := by rw [List.drop_eq_getElem_cons h, List.any_cons]
theorem long20_any (a : Option Addr) (n c : Nat) (l : List Ed) (w : World) (hl : Lst edRow EdIn w a n c l) :
    Calls Tryz.prog 7 #[.slice a n c] w fun e w' => e = .returned (.bool (longE l)) ∧ Below w.heap.size w w' := by
  have hS := St.start w
  unfold longE
  rw [hl.len]
  have hle := hl.le
  have hcm := hl.cm
  by_cases hbig : 120 < n
  · rw [decide_eq_true hbig, Bool.true_or]
    clear hl
    have d1 : decide ((120 : Int) < (n : Int)) = true := decide_eq_true (by omega)
    go_enter Tryz.func7, Tryz.ntmps7
    go_wp2_with fail
    go_ret
    exact ⟨rfl, hS.below⟩
  rw [decide_eq_false hbig, Bool.false_or]
  have hb2 : n ≤ 120 := by omega
  have d1 : decide ((120 : Int) < (n : Int)) = false := decide_eq_false (by omega)
  have cL := Lib.hid fun f hf W => large6_any f hf W
  have hlen := Lib.hid hl.len
  have hlens := Lib.hid (show ∀ x ∈ l, (edRow x).length = 29 from fun x hx => edRow_len x (hl.mem x hx).p.len)
  have hbase := Lib.hid (hl.base (by decide) hlens.out)
  have hmem := Lib.hid hl.mem
  replace hl := Lib.hid hl
  clear hbig
  go_enter Tryz.func7, Tryz.ntmps7
  go_wp2_with fail
  clear d1
  go_loopg [3] n (fun gk vx wr => ∃ j : Nat, j + gk = n ∧ vx = .int .i64 j ∧ Hid ((l.any fun x => largeF x.p.f) = ((l.drop j).any fun x => largeF x.p.f)) ∧ St w [] [] wr)
  case atStart => exact ⟨0, Nat.zero_add _, rfl, Lib.hid rfl, hS⟩
  case round =>
    clear hS
    obtain ⟨j, hj, rfl, hr, hS⟩ := hrel
    by_cases hlt : j < n
    case neg =>
      obtain rfl : j = n := by omega
      have hr2 := hr.out
      rw [List.drop_of_length_le (by rw [hlen.out]; exact Nat.le_refl _)] at hr2
      replace hr2 := Lib.hid hr2
      go_wp2_with fail
      go_ret
      exact ⟨by rw [hr2.out]; rfl, hS.below⟩
    have hjl : j < l.length := by rw [hlen.out]; exact hlt
    have hr2 := hr.out
    rw [any_drop l _ j hjl] at hr2
    obtain ⟨b, off, rfl⟩ := hbase.out (by omega)
    have hrow := hl.out.rowb hlens.out j hjl
    have hf8 := (hmem.out _ (List.getElem_mem hjl)).p.len
    have cL2 := Lib.hid fun W => cL.out l[j].p.f hf8 W
    have hFl2 : (flRow l[j].p.f).length = 24 := by rw [flRow_length, hf8]
    have zF : w.rangeAt b (off + j * 29 + 5) (flRow l[j].p.f) := fun k v hk => by
      have := hrow (5 + k) v (by rw [Nat.add_comm]; exact hk)
      rw [← Nat.add_assoc] at this
      exact this
    clear hrow
    generalize flRow l[j].p.f = FM at *
    generalize largeF l[j].p.f = lm at *
    cases lm
    case true =>
      rw [Bool.true_or] at hr2
      replace hr2 := Lib.hid hr2
      go_wp2_with (first
        | (go_at_call 32; (with_reducible refine (cL2.out _).mono ?_); rintro _ w3 ⟨rfl, hk9⟩; have hS1 := hS.keepB hk9; clear hk9 hS; have hS := hS1; clear hS1)
        | (with_reducible refine wpList_rangerow (t := 40) (n := 24) (range_old hS zF) rfl rfl rfl (by kernel_rfl) (by kernel_rfl) hFl2 ?_))
      go_ret
      exact ⟨by rw [hr2.out]; rfl, hS.below⟩
    rw [Bool.false_or] at hr2
    replace hr2 := Lib.hid hr2
    go_wp2_with (first
      | (go_at_call 32; (with_reducible refine (cL2.out _).mono ?_); rintro _ w3 ⟨rfl, hk9⟩; have hS1 := hS.keepB hk9; clear hk9 hS; have hS := hS1; clear hS1)
      | (with_reducible refine wpList_rangerow (t := 40) (n := 24) (range_old hS zF) rfl rfl rfl (by kernel_rfl) (by kernel_rfl) hFl2 ?_))
    go_roundg (n - (j + 1))
    case measure => omega
    case rel => exact ⟨j + 1, by omega, by go_num, hr2, hS⟩
end Go.Proofs.YtneolmnpebiifaaGreatDoor
end

section
/- Book: what an edit leaves as it was. -/
set_option linter.unusedSimpArgs false
set_option linter.unusedVariables false
namespace Go.Ofp
def memQ (ks : List Key) (x : Int) (q : Nat) : Bool := ks.any fun k => decide (k.1.toNat = q) && Ids.has k.2 x
theorem ofK_ext {ks ks' : List Key} {x : Int} (h : ∀ q, memQ ks x q = memQ ks' x q) : ofK ks x = ofK ks' x := by
  apply Nat.eq_of_testBit_eq
  intro q
  unfold ofK
  rw [ofFrom_bit, ofFrom_bit]
  exact congrArg _ (h q)
theorem memQ_append (A B : List Key) (x : Int) (q : Nat) : memQ (A ++ B) x q = (memQ A x q || memQ B x q) := List.any_append
theorem memQ_cons (k : Key) (B : List Key) (x : Int) (q : Nat) : memQ (k :: B) x q = ((decide (k.1.toNat = q) && Ids.has k.2 x) || memQ B x q) := rfl
theorem open_of {n : Nat} {ks : List Key} (h : KN n ks) {g : Int} (he : (openK ks g).1 = 0) (x : Int) : ofK (openK ks g).2 x = ofK ks x := by
  obtain ⟨-, e, -⟩ := h.open he
  rw [e]
  apply ofK_ext
  intro q
  generalize Ids.place (knos ks) g = p
  conv => rhs; rw [← List.take_append_drop p ks]
  rw [memQ_append, memQ_append, memQ_cons]
  have : Ids.has ((g, []) : Key).2 x = false := rfl
  rw [this, Bool.and_false, Bool.false_or]
theorem split_at {ks : List Key} {g : Int} (hu : Ids.Up (knos ks)) (hh : Ids.has (knos ks) g = true) : ks = ks.take (Ids.place (knos ks) g) ++ (g, memAt ks g) :: ks.drop (Ids.place (knos ks) g + 1) ∧ Ids.place (knos ks) g < ks.length := by
  have hp := Ids.has_lt (knos ks) g hu hh
  have hpk : Ids.place (knos ks) g < ks.length := by simpa [knos] using hp
  have hgk : ks[Ids.place (knos ks) g].1 = g := by
    have := Ids.has_place (knos ks) g hu
    rw [hh, dif_pos hp] at this
    have := of_decide_eq_true this.symm
    simpa [knos] using this
  have hmA : memAt ks g = ks[Ids.place (knos ks) g].2 := by
    unfold memAt
    rw [List.getD_eq_getElem?_getD, List.getElem?_eq_getElem hpk]
    rfl
  have e : ks[Ids.place (knos ks) g] = (g, memAt ks g) := Prod.ext hgk hmA.symm
  refine ⟨?_, hpk⟩
  rw [← e, ← List.drop_eq_getElem_cons hpk, List.take_append_drop]
theorem close_of {n : Nat} {ks : List Key} (h : KN n ks) {g : Int} (he : (closeK ks g).1 = 0) {x : Int} (hx : x ∉ membersK ks g) : ofK (closeK ks g).2 x = ofK ks x := by
  obtain ⟨-, e, -, -, hh⟩ := h.close he
  obtain ⟨hs, -⟩ := split_at ((chkK_iff _).1 h.chk).1 hh
  rw [e]
  apply ofK_ext
  intro q
  conv => rhs; rw [hs]
  rw [memQ_append, memQ_append, memQ_cons]
  have : Ids.has ((g, memAt ks g) : Key).2 x = false := by
    unfold membersK at hx
    rw [hh, if_pos rfl] at hx
    rw [← Bool.not_eq_true, Ids.has_iff]
    exact hx
  rw [this, Bool.and_false, Bool.false_or]
theorem set_of {ks : List Key} {g : Int} {m : List Int} (hu : Ids.Up (knos ks)) (hh : Ids.has (knos ks) g = true) {x : Int} (hx : Ids.has m x = Ids.has (memAt ks g) x) : ofK (ks.set (Ids.place (knos ks) g) (g, m)) x = ofK ks x := by
  obtain ⟨hs, hp⟩ := split_at hu hh
  apply ofK_ext
  intro q
  rw [List.set_eq_take_append_cons_drop, if_pos hp]
  conv => rhs; rw [hs]
  rw [memQ_append, memQ_append, memQ_cons, memQ_cons]
  have : Ids.has ((g, m) : Key).2 x = Ids.has ((g, memAt ks g) : Key).2 x := hx
  rw [this]
theorem has_put {m : List Int} (h : Ids.Up m) {id x : Int} (h1 : 1 ≤ id) (h2 : id < 1073741824) (hx : x ≠ id) : Ids.has (Ids.put m id) x = Ids.has m x := by
  rw [Bool.eq_iff_iff, Ids.has_iff, Ids.has_iff, Ids.mem_put m id x h h1 h2]
  exact ⟨fun h => h.resolve_left hx, .inr⟩
theorem has_drop {m : List Int} {id x : Int} (hx : x ≠ id) : Ids.has (Ids.drop m id) x = Ids.has m x := by
  rw [Bool.eq_iff_iff, Ids.has_iff, Ids.has_iff]
  unfold Ids.drop
  rw [List.mem_filter]
  exact ⟨fun h => h.1, fun h => ⟨h, by simpa using hx⟩⟩
theorem join_of {n : Nat} {ks : List Key} (h : KN n ks) {g id : Int} (he : (joinK ks g id).1 = 0) {x : Int} (hx : x ≠ id) : ofK (joinK ks g id).2 x = ofK ks x := by
  obtain ⟨-, e, hh, h1, h2⟩ := h.join he
  have hu := (chkK_iff _).1 h.chk
  have hri : Ids.Rise (memAt ks g) := hu.2.2 (g, memAt ks g) (mem_at hu.1 hh)
  rw [e]
  exact set_of hu.1 hh (has_put hri.1 h1 h2 hx)
theorem quit_of {n : Nat} {ks : List Key} (h : KN n ks) {g id : Int} (he : (quitK ks g id).1 = 0) {x : Int} (hx : x ≠ id) : ofK (quitK ks g id).2 x = ofK ks x := by
  obtain ⟨-, e, hh⟩ := h.quit he
  rw [e]
  exact set_of ((chkK_iff _).1 h.chk).1 hh (has_drop hx)
theorem leave_of (ks : List Key) {id x : Int} (hx : x ≠ id) : ofK (leaveK ks id) x = ofK ks x := by
  apply ofK_ext
  intro q
  unfold memQ leaveK
  rw [List.any_map]
  congr 1
  funext k
  show (decide (k.1.toNat = q) && Ids.has (Ids.drop k.2 id) x) = _
  rw [has_drop hx]

theorem add_look {s : ShS} (hs : ShOk s) {p : Pt} {x : Int} (hx : x ≠ (s.add p).2.1.id) : lookC (s.add p).1.m x = lookC s.m x := by
  unfold ShS.add at *
  split
  · rfl
  · rename_i h1
    rw [if_neg h1] at hx
    split
    · rfl
    · rename_i h2
      rw [if_neg h2] at hx
      show lookC (s.m ++ [p.fresh s.next]) x = _
      rw [lookC_snoc (fun d hd => by rw [fresh_id]; have := (hs.id d hd).2; omega), if_neg hx]
theorem write_look {s : ShS} {id : Int} {p : Pt} {x : Int} (hx : x ≠ id) : lookC (s.write id p).1.m x = lookC s.m x := by
  unfold ShS.write
  split
  · rfl
  · split
    · rfl
    · split
      · rfl
      · rename_i h1 h2 h3
        have hid := (look_mem (get_ok (Decidable.not_not.1 h2))).2
        show lookC (putC s.m ((s.get id).1.merge p)) x = _
        rw [lookC_putC, if_neg (by rw [merge_id, hid]; exact hx)]
theorem drop_look {s : ShS} {id q : Int} {x : Int} (hx : x ≠ id) : lookC (s.drop id q).1.m x = lookC s.m x := by
  unfold ShS.drop
  split
  · rfl
  · split
    · rfl
    · show lookC (dropC s.m id) x = _
      rw [lookC_dropC, if_neg hx]
theorem act_others {n : Nat} {b : BkS} (h : BkOk n b) (e : Ed) (he : (b.act e).1 = 0) {x : Int} (hx : x ∉ (b.act e).2.1) : lookC (b.act e).2.2.1.m x = lookC b.sh.m x ∧ ofK (b.act e).2.2.2 x = ofK b.ks x := by
  unfold BkS.act at he hx ⊢
  split
  · rename_i h1
    rw [if_pos h1] at hx
    exact ⟨add_look h.sh (by simpa using hx), rfl⟩
  · rename_i h1
    rw [if_neg h1] at hx he
    split
    · rename_i h2
      rw [if_pos h2] at hx
      exact ⟨write_look (by simpa using hx), rfl⟩
    · rename_i h2
      rw [if_neg h2] at hx he
      split
      · rename_i h3
        rw [if_pos h3] at hx
        have hx : x ≠ e.id := by simpa using hx
        exact ⟨drop_look hx, leave_of _ hx⟩
      · rename_i h3
        rw [if_neg h3] at hx he
        split
        · rename_i h4
          rw [if_pos h4] at he
          exact ⟨rfl, open_of h.ks he x⟩
        · rename_i h4
          rw [if_neg h4] at hx he
          split
          · rename_i h5
            rw [if_pos h5] at hx he
            exact ⟨rfl, close_of h.ks he fun hm => hx (by simp [hm])⟩
          · rename_i h5
            rw [if_neg h5] at hx he
            split
            · rename_i h6
              rw [if_pos h6] at hx he
              split
              · exact ⟨rfl, rfl⟩
              · rename_i h7
                rw [if_neg h7] at hx he
                exact ⟨rfl, join_of h.ks he (by simpa using hx)⟩
            · rename_i h6
              rw [if_neg h6] at hx he
              exact ⟨rfl, quit_of h.ks he (by simpa using hx)⟩
end Go.Ofp
end
