/- Disks: the chapter's example, walked. -/
import Derived.Test.YtlhpibniecfofaaDisk8
set_option linter.unusedSimpArgs false
set_option linter.unusedVariables false
namespace Go.Ofp
open Go.RowKit
section
variable {w0 w w' : World} {F : List Nat} {A A' : List Ch}
/-- What a callee that is handed all pieces begins with. -/
theorem St.pre0 (h : St w0 F A w) : St w (feet A) A w := h.pre A [] (List.append_nil A).symm
theorem St.call0 (h : St w0 F A w) (k : St w (feet A) A' w') : St w0 F A' w' := by
  have := h.call A [] (List.append_nil A).symm k
  rwa [List.append_nil] at this
/-- A piece's blocks are none of the others'. -/
theorem St.off0 {c : Ch} (h : St w0 F (c :: A) w) : ∀ g ∈ c.foot, g ∉ feet A := by
  intro g hg hA
  obtain ⟨i, d, hd, hgd⟩ := mem_feet.1 hA
  exact h.apart 0 (i + 1) c d rfl (by simpa using hd) (by omega) g hg hgd
end
end Go.Ofp
namespace Go.Proofs.Ytlhpibniecfofaa
open Go.RowKit Go.Ofp
set_option linter.unusedVariables false
set_option maxRecDepth 100000
set_option maxHeartbeats 4000000

theorem str_size (l : List UInt8) : (str l).size = l.length := by simp [str, ByteArray.size]
theorem str_data (l : List UInt8) : (str l).data.toList = l := by simp [str]

theorem awake35_any (w : World) : Calls Try.prog 12 #[] w fun e w' => e = .returned (.bool true) ∧ Below w.heap.size w w' := by
  obtain ⟨d1, hd1⟩ : ∃ d : Dk, { Dk.new 2 with fuse := 1 } = d := ⟨_, rfl⟩
  obtain ⟨d2, hd2⟩ : ∃ d : Dk, (d1.write 1 (List.replicate 64 5)).1 = d := ⟨_, rfl⟩
  obtain ⟨d3, hd3⟩ : ∃ d : Dk, d2.sync.1 = d := ⟨_, rfl⟩
  obtain ⟨d4, hd4⟩ : ∃ d : Dk, d3.crash [2] = d := ⟨_, rfl⟩
  have r2 : (d1.write 1 (List.replicate 64 5)).2 = 0 := by subst hd1; decide +kernel
  have r3 : d2.sync.2 = 15 := by subst hd2; subst hd1; decide +kernel
  have r4 : d4.read 1 = ([], 16) := by subst hd4; subst hd3; subst hd2; subst hd1; decide +kernel
  have o1 : d1.Ok := by subst hd1; exact ⟨(Dk.Ok.new 2 (by omega)).pos, (Dk.Ok.new 2 (by omega)).sec, (Dk.Ok.new 2 (by omega)).wait⟩
  have o2 : d2.Ok := by rw [← hd2]; exact o1.write _ _
  have o3 : d3.Ok := by rw [← hd3]; exact o2.sync
  have o4 : d4.Ok := by rw [← hd4]; exact o3.crash _
  have l1 : d1.wait.length ≤ 100000 := by subst hd1; simp [Dk.new]
  have l2 : d2.wait.length ≤ 100000 := by subst hd2; subst hd1; decide +kernel
  have l3 : d3.wait.length ≤ 100000 := by subst hd3; subst hd2; subst hd1; decide +kernel
  have l4 : d4.wait.length ≤ 100000 := by subst hd4; simp [Dk.crash]
  have f1 : -9223372036854775808 ≤ d1.fuse ∧ d1.fuse ≤ 9223372036854775807 := by subst hd1; simp
  have f2 : -9223372036854775808 ≤ d2.fuse ∧ d2.fuse ≤ 9223372036854775807 := by subst hd2; subst hd1; decide +kernel
  have cN : Calls Try.prog 11 #[.int .i64 2] w fun e w' => ∃ bd sv wv, e = .returned (.pointer (some ⟨bd, 0, none⟩)) ∧ St w [] (dks bd sv wv (Dk.new 2)) w' := new_any 2 w (by omega) (by omega)
  have cF := fun bd sv wv W (h : St W (feet (dks bd sv wv (Dk.new 2))) (dks bd sv wv (Dk.new 2)) W) => fuse_any bd sv wv (Dk.new 2) 1 W h
  rw [hd1] at cF
  have cW := fun bd sv wv W (h : St W (feet (dks bd sv wv d1)) (dks bd sv wv d1) W) => write_any bd sv wv d1 1 (str (List.replicate 64 5)) W h (by rw [str_size]; simp [maxLen]) l1 f1
  rw [str_data, r2, hd2] at cW
  have cS := fun bd sv wv W (h : St W (feet (dks bd sv wv d2)) (dks bd sv wv d2) W) => sync_any bd sv wv d2 W h o2 l2 f2
  rw [r3, hd3] at cS
  have cC := fun bd sv wv (ak : Option Addr) W (h : St W (feet (dks bd sv wv d3)) (dks bd sv wv d3) W) hks hap => crash_any bd sv wv d3 ak [2] 1 1 W h o3 l3 hks (by simp) rfl (by simp [maxLen]) hap
  rw [hd4] at cC
  have cR := fun bd sv wv W (h : St W (feet (dks bd sv wv d4)) (dks bd sv wv d4) W) => read_any bd sv wv d4 1 W h o4 l4
  rw [r4] at cR
  have cT : ∀ W : World, Calls Try.prog 18 #[.int .u8 5, .int .i64 0] W fun e w' => e = .returned (.string (str (List.replicate 64 5))) ∧ Below W.heap.size W w' := fun W => sector_any 5 0 W
  generalize List.replicate 64 (5 : UInt8) = B at cW cT
  clear hd1 hd2 hd3 hd4 r2 r3 r4 o1 o2 o3 o4 l1 l2 l3 l4 f1 f2
  replace cN := Lib.hid cN
  replace cF := Lib.hid cF
  replace cW := Lib.hid cW
  replace cS := Lib.hid cS
  replace cC := Lib.hid cC
  replace cR := Lib.hid cR
  replace cT := Lib.hid cT
  go_enter Try.func12, Try.ntmps12
  go_wp2_with (first
    | (go_at_call 11; (with_reducible refine cN.out.mono ?_); rintro _ w2 ⟨bd, sv, wv, rfl, hS⟩)
    | (go_at_call 20; (with_reducible refine (cF.out _ _ _ _ hS.pre0).mono ?_); rintro _ w3 ⟨rfl, hk⟩; have hS1 := hS.call0 hk; clear hS hk; have hS := hS1; clear hS1)
    | (go_at_call 18; (with_reducible refine (cT.out _).mono ?_); rintro _ w4 ⟨rfl, hb4⟩; have hS1 := hS.keepB hb4; clear hb4 hS; have hS := hS1; clear hS1)
    | (go_at_call 17; (with_reducible refine (cW.out _ _ _ _ hS.pre0).mono ?_); rintro _ w5 ⟨rfl, wv5, hk⟩; have hS1 := hS.call0 hk; clear hS hk; have hS := hS1; clear hS1)
    | (go_at_call 19; (with_reducible refine (cS.out _ _ _ _ hS.pre0).mono ?_); rintro _ w6 ⟨rfl, wv6, hk⟩; have hS1 := hS.call0 hk; clear hS hk; have hS := hS1; clear hS1)
    | (go_at_call 21; have hA := hS.alloc #[.int .i64 2] 3; have hkb := hA.blksl 0 rfl; have hko := hA.off0 w6.heap.size (by simp [Ch.blk]); clear hS; have hS := hA.drop; clear hA; (refine (cC.out _ _ _ _ _ hS.pre0 hkb (by rintro _ b o e; cases e; exact hko)).mono ?_); rintro _ w8 ⟨rfl, wv8, hk⟩; have hS1 := hS.call0 hk; clear hS hk; have hS := hS1; clear hS1)
    | (go_at_call 22; (with_reducible refine (cR.out _ _ _ _ hS.pre0).mono ?_); rintro _ w9 ⟨rfl, hk⟩; have hS1 := hS.call0 hk; clear hS hk; have hS := hS1; clear hS1))
  go_ret
  exact ⟨rfl, hS.below⟩
end Go.Proofs.Ytlhpibniecfofaa
