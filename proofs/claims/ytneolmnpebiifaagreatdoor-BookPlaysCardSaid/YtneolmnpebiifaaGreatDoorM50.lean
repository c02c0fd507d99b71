/- Texts laid together: RbDo5 BookDoes BookLawDo. -/
import Derived.Test.YtneolmnpebiifaaGreatDoorM30
import Derived.Test.YtneolmnpebiifaaGreatDoorM4
import Derived.Test.YtneolmnpebiifaaGreatDoorM41
import Derived.Test.YtneolmnpebiifaaGreatDoorM42
import Derived.Test.YtneolmnpebiifaaGreatDoorM43
import Derived.Test.YtneolmnpebiifaaGreatDoorM44
import Derived.Test.YtneolmnpebiifaaGreatDoorM47
import Derived.Test.YtneolmnpebiifaaGreatDoorM48
import Derived.Test.YtneolmnpebiifaaGreatDoorM49
import Derived.Test.YtneolmnpebiifaaGreatDoorM5
section
/- The reference's book: Do (Close, Open, Join, Quit; the whole). -/
set_option linter.unusedSimpArgs false
set_option linter.unusedVariables false
namespace Go.Proofs.YtneolmnpebiifaaGreatDoor
open Go.RowKit Go.Ofp
set_option linter.unusedVariables false
set_option maxRecDepth 100000
set_option maxHeartbeats 8000000
theorem edRow_eq (e : Ed) : edRow e = .int .i64 e.kind :: .int .i64 e.id :: .int .i64 e.group :: ptRow e.p := rfl
theorem rbdo5_any (m g : Nat) (b : BkS) (p : RV) (e : Ed) (he : EdIn e) (hk : e.kind = 5) (hc : e.check = 0) (hf : ¬ 1099511627676 < b.seq) (w : World) (hA : St w [g] [rbV g b p] w) (hok : BkOk m b) (hm : m ≤ 2000) (hp : ∀ W, Fr [g] w W → p.at b W) :
    Calls Tryz.prog 48 #[.pointer (some ⟨g, 0, none⟩), .agg (edRow e).toArray] w (RbOutV g b p (b.fin (b.act e)) w [g]) := by
  have hS := hA
  have ec := elem_card
  have hsq := hok.seq
  have hpl := ptRow_len e.p he.p.len
  have cC := fun W => rcheck19_any e he W
  rw [hc] at cC
  have hB : ∀ (i : Int) (W : World), (Instr.build 58 #[(0, .int .i64 i)]).run Tryz.prog W = .ok (.agg #[.int .i64 i, .int .i64 0, .int .u32 0, .int .i64 0, .int .i64 0, .string ⟨#[]⟩, .int .i64 0, .int .i64 0, .string ⟨#[]⟩, .int .i64 0, .int .i64 0, .string ⟨#[]⟩, .int .i64 0, .int .i64 0, .string ⟨#[]⟩, .int .i64 0, .int .i64 0, .string ⟨#[]⟩, .int .i64 0, .int .i64 0, .string ⟨#[]⟩, .int .i64 0, .int .i64 0, .string ⟨#[]⟩, .int .i64 0, .int .i64 0, .string ⟨#[]⟩]) W := fun _ _ => by kernel_rfl
  have hD := Lib.hid fun W h => (hp W h).deep
  have hpt := Lib.hid fun W1 (h : Fr [g] w W1) W (k : Fr [g] W1 W) => hp W (h.trans k fun x hx => .inl hx)
  have d1 : decide (1099511627676 < b.seq) = false := decide_eq_false hf
  have cS := Lib.hid fun (V c1 c2 c3 : Value) (i : Int) (W : World) h => rstep_nil g b.seq V c1 c2 c3 i W h hsq
  have hfn : ∀ (er : Int) (T : List Int) (s1 : ShS) (k1 : List Key), er ≠ 0 → b.fin (er, T, s1, k1) = (b, [], er) := fun er T s1 k1 h => if_pos h
  have hfp : ∀ (i : Int) (s1 : ShS) (k1 : List Key), b.fin (0, [i], s1, k1) = (⟨b.seq + 1, s1, k1⟩, [(b.seq + 1, i)], 0) := fun _ _ _ => rfl
  have cA := fun W h1 h2 => rbclose_any m g b p e.group W h1 hok hm h2
  rw [act5 b e hk]
  simp only [rbV, rbC_eq] at cA
  replace hfn := Lib.hid hfn
  replace hfp := Lib.hid hfp
  simp only [rbV, rbC_eq] at hS
  obtain ⟨kd, i, gn, pt⟩ := e
  have e0 : edRow ⟨kd, i, gn, pt⟩ = .int .i64 kd :: .int .i64 i :: .int .i64 gn :: ptRow pt := rfl
  rw [e0] at cC ⊢
  simp only at *
  subst hk
  replace cC := Lib.hid cC
  clear e0 hc hf
  clear he hok hA hm hp hfn hfp cS
  generalize b.fin ((closeK b.ks gn).1, membersK b.ks gn ++ [0], b.sh, (closeK b.ks gn).2) = RR at *
  replace cA := Lib.hid cA
  generalize ptRow pt = PR at *
  have hrP : ((Value.int .i64 5 :: .int .i64 i :: .int .i64 gn :: PR).toArray.toList.drop 3).take 26 = PR := by simp [← hpl]
  have hsz : sizeB Tryz.prog 44 (Value.int .i64 5 :: .int .i64 i :: .int .i64 gn :: PR).toArray.size = true := by
    rw [List.size_toArray, List.length_cons, List.length_cons, List.length_cons, hpl]
    kernel_rfl
  go_enter Tryz.func48, Tryz.ntmps48
  go_wp2_with (first
    | (go_at_call 82; (with_reducible refine (cC.out _).mono ?_); rintro _ w3 ⟨rfl, hk9⟩; have hS1 := hS.keepB hk9; clear hk9 hS; have hS := hS1; clear hS1) | ((with_reducible refine wpList_loadall_st 0 hS rfl rfl rfl rfl ?_ hsz ?_); focus (simp [rowB, go_sem]; done)) | ((with_reducible refine wpList_loadall_st 1 hS rfl rfl rfl rfl ?_ hsz ?_); focus (simp [rowB, go_sem]; done))
    | (go_at_call 87; have q1 := hS.preM (A := [_, _]) (B := [rbC g (.int .i64 b.seq) (.slice p.ga p.grs.length p.gc) b.sh p.ca p.cc p.da p.dc]) (R := []); (with_reducible refine (cA.out _ q1 (hpt.out _ hS.fr)).mono ?_); clear q1; rintro _ w3 ⟨p', a8, c8, L8, rfl, hk9, hks⟩; have hS1 := hS.callM (A := [_, _]) (B := [rbC g (.int .i64 b.seq) (.slice p.ga p.grs.length p.gc) b.sh p.ca p.cc p.da p.dc]) (R := []) hk9; rw [List.append_nil] at hS1; clear hS hk9; replace hks := Lib.hid hks; have hS := hS1; clear hS1)
    | (with_reducible refine wpList_box_st hS rfl rfl rfl ?_; clear hS; intro g1 w1 hS) | (with_reducible refine wpList_box1_st hS rfl rfl rfl ?_; clear hS; intro g1 w1 hS) | (with_reducible refine al hS rfl rfl ?_; clear hS; intro g1 w1 hS) | (with_reducible refine wpList_alloc1_st hS rfl rfl (by assumption) rfl ?_; clear hS; intro g1 w1 hS) | (with_reducible refine ld 0 hS rfl rfl rfl rfl rfl ?_) | (with_reducible refine lda 0 hS rfl rfl rfl rfl ?_) | (with_reducible refine sto 0 hS rfl rfl rfl rfl rfl rfl ?_; clear hS; intro w1 hS) | (with_reducible refine stor 0 hS rfl rfl rfl rfl rfl rfl rfl rfl ?_; clear hS; intro w1 hS) | (with_reducible refine ld 1 hS rfl rfl rfl rfl rfl ?_) | (with_reducible refine lda 1 hS rfl rfl rfl rfl ?_) | (with_reducible refine sto 1 hS rfl rfl rfl rfl rfl rfl ?_; clear hS; intro w1 hS) | (with_reducible refine stor 1 hS rfl rfl rfl rfl rfl rfl rfl rfl ?_; clear hS; intro w1 hS))
  go_ret2
  exact ⟨p', a8, c8, L8, rfl, hS.drop.drop, hks.out⟩
theorem rbdo4_any (m g : Nat) (b : BkS) (p : RV) (e : Ed) (he : EdIn e) (hk : e.kind = 4) (hc : e.check = 0) (hf : ¬ 1099511627676 < b.seq) (w : World) (hA : St w [g] [rbV g b p] w) (hok : BkOk m b) (hm : m ≤ 2000) (hp : ∀ W, Fr [g] w W → p.at b W) :
    Calls Tryz.prog 48 #[.pointer (some ⟨g, 0, none⟩), .agg (edRow e).toArray] w (RbOutV g b p (b.fin (b.act e)) w [g]) := by
  have hS := hA
  have ec := elem_card
  have hsq := hok.seq
  have hpl := ptRow_len e.p he.p.len
  have cC := fun W => rcheck19_any e he W
  rw [hc] at cC
  have hB : ∀ (i : Int) (W : World), (Instr.build 58 #[(0, .int .i64 i)]).run Tryz.prog W = .ok (.agg #[.int .i64 i, .int .i64 0, .int .u32 0, .int .i64 0, .int .i64 0, .string ⟨#[]⟩, .int .i64 0, .int .i64 0, .string ⟨#[]⟩, .int .i64 0, .int .i64 0, .string ⟨#[]⟩, .int .i64 0, .int .i64 0, .string ⟨#[]⟩, .int .i64 0, .int .i64 0, .string ⟨#[]⟩, .int .i64 0, .int .i64 0, .string ⟨#[]⟩, .int .i64 0, .int .i64 0, .string ⟨#[]⟩, .int .i64 0, .int .i64 0, .string ⟨#[]⟩]) W := fun _ _ => by kernel_rfl
  have hD := Lib.hid fun W h => (hp W h).deep
  have hpt := Lib.hid fun W1 (h : Fr [g] w W1) W (k : Fr [g] W1 W) => hp W (h.trans k fun x hx => .inl hx)
  have d1 : decide (1099511627676 < b.seq) = false := decide_eq_false hf
  have cS := Lib.hid fun (V c1 c2 c3 : Value) (i : Int) (W : World) h => rstep_nil g b.seq V c1 c2 c3 i W h hsq
  have hfn : ∀ (er : Int) (T : List Int) (s1 : ShS) (k1 : List Key), er ≠ 0 → b.fin (er, T, s1, k1) = (b, [], er) := fun er T s1 k1 h => if_pos h
  have hfp : ∀ (i : Int) (s1 : ShS) (k1 : List Key), b.fin (0, [i], s1, k1) = (⟨b.seq + 1, s1, k1⟩, [(b.seq + 1, i)], 0) := fun _ _ _ => rfl
  have cA := fun W h1 h2 => rbgroups4_any m g b p e he hk (check4 hk hc) W h1 hok hm h2
  have e1 := edRow_eq e
  rw [e1] at cA
  clear e1
  simp only [rbV, rbC_eq] at cA
  replace hfn := Lib.hid hfn
  replace hfp := Lib.hid hfp
  simp only [rbV, rbC_eq] at hS
  obtain ⟨kd, i, gn, pt⟩ := e
  have e0 : edRow ⟨kd, i, gn, pt⟩ = .int .i64 kd :: .int .i64 i :: .int .i64 gn :: ptRow pt := rfl
  rw [e0] at cC ⊢
  simp only at *
  subst hk
  replace cC := Lib.hid cC
  clear e0 hc hf
  clear he hok hA hm hp hfn hfp cS
  generalize b.fin (b.act ⟨4, i, gn, pt⟩) = RR at *
  replace cA := Lib.hid cA
  generalize ptRow pt = PR at *
  have hrP : ((Value.int .i64 4 :: .int .i64 i :: .int .i64 gn :: PR).toArray.toList.drop 3).take 26 = PR := by simp [← hpl]
  have hsz : sizeB Tryz.prog 44 (Value.int .i64 4 :: .int .i64 i :: .int .i64 gn :: PR).toArray.size = true := by
    rw [List.size_toArray, List.length_cons, List.length_cons, List.length_cons, hpl]
    kernel_rfl
  go_enter Tryz.func48, Tryz.ntmps48
  go_wp2_with (first
    | (go_at_call 82; (with_reducible refine (cC.out _).mono ?_); rintro _ w3 ⟨rfl, hk9⟩; have hS1 := hS.keepB hk9; clear hk9 hS; have hS := hS1; clear hS1) | ((with_reducible refine wpList_loadall_st 0 hS rfl rfl rfl rfl ?_ hsz ?_); focus (simp [rowB, go_sem]; done)) | ((with_reducible refine wpList_loadall_st 1 hS rfl rfl rfl rfl ?_ hsz ?_); focus (simp [rowB, go_sem]; done))
    | (go_at_call 88; have q1 := hS.preM (A := [_, _]) (B := [rbC g (.int .i64 b.seq) (.slice p.ga p.grs.length p.gc) b.sh p.ca p.cc p.da p.dc]) (R := []); (with_reducible refine (cA.out _ q1 (hpt.out _ hS.fr)).mono ?_); clear q1; rintro _ w3 ⟨p', a8, c8, L8, rfl, hk9, hks⟩; have hS1 := hS.callM (A := [_, _]) (B := [rbC g (.int .i64 b.seq) (.slice p.ga p.grs.length p.gc) b.sh p.ca p.cc p.da p.dc]) (R := []) hk9; rw [List.append_nil] at hS1; clear hS hk9; replace hks := Lib.hid hks; have hS := hS1; clear hS1)
    | (with_reducible refine wpList_box_st hS rfl rfl rfl ?_; clear hS; intro g1 w1 hS) | (with_reducible refine wpList_box1_st hS rfl rfl rfl ?_; clear hS; intro g1 w1 hS) | (with_reducible refine al hS rfl rfl ?_; clear hS; intro g1 w1 hS) | (with_reducible refine wpList_alloc1_st hS rfl rfl (by assumption) rfl ?_; clear hS; intro g1 w1 hS) | (with_reducible refine ld 0 hS rfl rfl rfl rfl rfl ?_) | (with_reducible refine lda 0 hS rfl rfl rfl rfl ?_) | (with_reducible refine sto 0 hS rfl rfl rfl rfl rfl rfl ?_; clear hS; intro w1 hS) | (with_reducible refine stor 0 hS rfl rfl rfl rfl rfl rfl rfl rfl ?_; clear hS; intro w1 hS) | (with_reducible refine ld 1 hS rfl rfl rfl rfl rfl ?_) | (with_reducible refine lda 1 hS rfl rfl rfl rfl ?_) | (with_reducible refine sto 1 hS rfl rfl rfl rfl rfl rfl ?_; clear hS; intro w1 hS) | (with_reducible refine stor 1 hS rfl rfl rfl rfl rfl rfl rfl rfl ?_; clear hS; intro w1 hS))
  go_ret2
  exact ⟨p', a8, c8, L8, rfl, hS.drop.drop, hks.out⟩
theorem rbdo6_any (m g : Nat) (b : BkS) (p : RV) (e : Ed) (he : EdIn e) (hk : e.kind = 6) (hc : e.check = 0) (hf : ¬ 1099511627676 < b.seq) (w : World) (hA : St w [g] [rbV g b p] w) (hok : BkOk m b) (hm : m ≤ 2000) (hp : ∀ W, Fr [g] w W → p.at b W) :
    Calls Tryz.prog 48 #[.pointer (some ⟨g, 0, none⟩), .agg (edRow e).toArray] w (RbOutV g b p (b.fin (b.act e)) w [g]) := by
  have hS := hA
  have ec := elem_card
  have hsq := hok.seq
  have hpl := ptRow_len e.p he.p.len
  have cC := fun W => rcheck19_any e he W
  rw [hc] at cC
  have hB : ∀ (i : Int) (W : World), (Instr.build 58 #[(0, .int .i64 i)]).run Tryz.prog W = .ok (.agg #[.int .i64 i, .int .i64 0, .int .u32 0, .int .i64 0, .int .i64 0, .string ⟨#[]⟩, .int .i64 0, .int .i64 0, .string ⟨#[]⟩, .int .i64 0, .int .i64 0, .string ⟨#[]⟩, .int .i64 0, .int .i64 0, .string ⟨#[]⟩, .int .i64 0, .int .i64 0, .string ⟨#[]⟩, .int .i64 0, .int .i64 0, .string ⟨#[]⟩, .int .i64 0, .int .i64 0, .string ⟨#[]⟩, .int .i64 0, .int .i64 0, .string ⟨#[]⟩]) W := fun _ _ => by kernel_rfl
  have hD := Lib.hid fun W h => (hp W h).deep
  have hpt := Lib.hid fun W1 (h : Fr [g] w W1) W (k : Fr [g] W1 W) => hp W (h.trans k fun x hx => .inl hx)
  have d1 : decide (1099511627676 < b.seq) = false := decide_eq_false hf
  have cS := Lib.hid fun (V c1 c2 c3 : Value) (i : Int) (W : World) h => rstep_nil g b.seq V c1 c2 c3 i W h hsq
  have hfn : ∀ (er : Int) (T : List Int) (s1 : ShS) (k1 : List Key), er ≠ 0 → b.fin (er, T, s1, k1) = (b, [], er) := fun er T s1 k1 h => if_pos h
  have hfp : ∀ (i : Int) (s1 : ShS) (k1 : List Key), b.fin (0, [i], s1, k1) = (⟨b.seq + 1, s1, k1⟩, [(b.seq + 1, i)], 0) := fun _ _ _ => rfl
  have cA := fun W h1 h2 => rbgroups6_any m g b p e he hk W h1 hok hm h2
  have e1 := edRow_eq e
  rw [e1] at cA
  clear e1
  simp only [rbV, rbC_eq] at cA
  replace hfn := Lib.hid hfn
  replace hfp := Lib.hid hfp
  simp only [rbV, rbC_eq] at hS
  obtain ⟨kd, i, gn, pt⟩ := e
  have e0 : edRow ⟨kd, i, gn, pt⟩ = .int .i64 kd :: .int .i64 i :: .int .i64 gn :: ptRow pt := rfl
  rw [e0] at cC ⊢
  simp only at *
  subst hk
  replace cC := Lib.hid cC
  clear e0 hc hf
  clear he hok hA hm hp hfn hfp cS
  generalize b.fin (b.act ⟨6, i, gn, pt⟩) = RR at *
  replace cA := Lib.hid cA
  generalize ptRow pt = PR at *
  have hrP : ((Value.int .i64 6 :: .int .i64 i :: .int .i64 gn :: PR).toArray.toList.drop 3).take 26 = PR := by simp [← hpl]
  have hsz : sizeB Tryz.prog 44 (Value.int .i64 6 :: .int .i64 i :: .int .i64 gn :: PR).toArray.size = true := by
    rw [List.size_toArray, List.length_cons, List.length_cons, List.length_cons, hpl]
    kernel_rfl
  go_enter Tryz.func48, Tryz.ntmps48
  go_wp2_with (first
    | (go_at_call 82; (with_reducible refine (cC.out _).mono ?_); rintro _ w3 ⟨rfl, hk9⟩; have hS1 := hS.keepB hk9; clear hk9 hS; have hS := hS1; clear hS1) | ((with_reducible refine wpList_loadall_st 0 hS rfl rfl rfl rfl ?_ hsz ?_); focus (simp [rowB, go_sem]; done)) | ((with_reducible refine wpList_loadall_st 1 hS rfl rfl rfl rfl ?_ hsz ?_); focus (simp [rowB, go_sem]; done))
    | (go_at_call 88; have q1 := hS.preM (A := [_, _]) (B := [rbC g (.int .i64 b.seq) (.slice p.ga p.grs.length p.gc) b.sh p.ca p.cc p.da p.dc]) (R := []); (with_reducible refine (cA.out _ q1 (hpt.out _ hS.fr)).mono ?_); clear q1; rintro _ w3 ⟨p', a8, c8, L8, rfl, hk9, hks⟩; have hS1 := hS.callM (A := [_, _]) (B := [rbC g (.int .i64 b.seq) (.slice p.ga p.grs.length p.gc) b.sh p.ca p.cc p.da p.dc]) (R := []) hk9; rw [List.append_nil] at hS1; clear hS hk9; replace hks := Lib.hid hks; have hS := hS1; clear hS1)
    | (with_reducible refine wpList_box_st hS rfl rfl rfl ?_; clear hS; intro g1 w1 hS) | (with_reducible refine wpList_box1_st hS rfl rfl rfl ?_; clear hS; intro g1 w1 hS) | (with_reducible refine al hS rfl rfl ?_; clear hS; intro g1 w1 hS) | (with_reducible refine wpList_alloc1_st hS rfl rfl (by assumption) rfl ?_; clear hS; intro g1 w1 hS) | (with_reducible refine ld 0 hS rfl rfl rfl rfl rfl ?_) | (with_reducible refine lda 0 hS rfl rfl rfl rfl ?_) | (with_reducible refine sto 0 hS rfl rfl rfl rfl rfl rfl ?_; clear hS; intro w1 hS) | (with_reducible refine stor 0 hS rfl rfl rfl rfl rfl rfl rfl rfl ?_; clear hS; intro w1 hS) | (with_reducible refine ld 1 hS rfl rfl rfl rfl rfl ?_) | (with_reducible refine lda 1 hS rfl rfl rfl rfl ?_) | (with_reducible refine sto 1 hS rfl rfl rfl rfl rfl rfl ?_; clear hS; intro w1 hS) | (with_reducible refine stor 1 hS rfl rfl rfl rfl rfl rfl rfl rfl ?_; clear hS; intro w1 hS))
  go_ret2
  exact ⟨p', a8, c8, L8, rfl, hS.drop.drop, hks.out⟩
theorem rbdo7_any (m g : Nat) (b : BkS) (p : RV) (e : Ed) (he : EdIn e) (hk : e.kind = 7) (hc : e.check = 0) (hf : ¬ 1099511627676 < b.seq) (w : World) (hA : St w [g] [rbV g b p] w) (hok : BkOk m b) (hm : m ≤ 2000) (hp : ∀ W, Fr [g] w W → p.at b W) :
    Calls Tryz.prog 48 #[.pointer (some ⟨g, 0, none⟩), .agg (edRow e).toArray] w (RbOutV g b p (b.fin (b.act e)) w [g]) := by
  have hS := hA
  have ec := elem_card
  have hsq := hok.seq
  have hpl := ptRow_len e.p he.p.len
  have cC := fun W => rcheck19_any e he W
  rw [hc] at cC
  have hB : ∀ (i : Int) (W : World), (Instr.build 58 #[(0, .int .i64 i)]).run Tryz.prog W = .ok (.agg #[.int .i64 i, .int .i64 0, .int .u32 0, .int .i64 0, .int .i64 0, .string ⟨#[]⟩, .int .i64 0, .int .i64 0, .string ⟨#[]⟩, .int .i64 0, .int .i64 0, .string ⟨#[]⟩, .int .i64 0, .int .i64 0, .string ⟨#[]⟩, .int .i64 0, .int .i64 0, .string ⟨#[]⟩, .int .i64 0, .int .i64 0, .string ⟨#[]⟩, .int .i64 0, .int .i64 0, .string ⟨#[]⟩, .int .i64 0, .int .i64 0, .string ⟨#[]⟩]) W := fun _ _ => by kernel_rfl
  have hD := Lib.hid fun W h => (hp W h).deep
  have hpt := Lib.hid fun W1 (h : Fr [g] w W1) W (k : Fr [g] W1 W) => hp W (h.trans k fun x hx => .inl hx)
  have d1 : decide (1099511627676 < b.seq) = false := decide_eq_false hf
  have cS := Lib.hid fun (V c1 c2 c3 : Value) (i : Int) (W : World) h => rstep_nil g b.seq V c1 c2 c3 i W h hsq
  have hfn : ∀ (er : Int) (T : List Int) (s1 : ShS) (k1 : List Key), er ≠ 0 → b.fin (er, T, s1, k1) = (b, [], er) := fun er T s1 k1 h => if_pos h
  have hfp : ∀ (i : Int) (s1 : ShS) (k1 : List Key), b.fin (0, [i], s1, k1) = (⟨b.seq + 1, s1, k1⟩, [(b.seq + 1, i)], 0) := fun _ _ _ => rfl
  have cA := fun W h1 h2 => rbgroups7_any m g b p e he hk W h1 hok hm h2
  have e1 := edRow_eq e
  rw [e1] at cA
  clear e1
  simp only [rbV, rbC_eq] at cA
  replace hfn := Lib.hid hfn
  replace hfp := Lib.hid hfp
  simp only [rbV, rbC_eq] at hS
  obtain ⟨kd, i, gn, pt⟩ := e
  have e0 : edRow ⟨kd, i, gn, pt⟩ = .int .i64 kd :: .int .i64 i :: .int .i64 gn :: ptRow pt := rfl
  rw [e0] at cC ⊢
  simp only at *
  subst hk
  replace cC := Lib.hid cC
  clear e0 hc hf
  clear he hok hA hm hp hfn hfp cS
  generalize b.fin (b.act ⟨7, i, gn, pt⟩) = RR at *
  replace cA := Lib.hid cA
  generalize ptRow pt = PR at *
  have hrP : ((Value.int .i64 7 :: .int .i64 i :: .int .i64 gn :: PR).toArray.toList.drop 3).take 26 = PR := by simp [← hpl]
  have hsz : sizeB Tryz.prog 44 (Value.int .i64 7 :: .int .i64 i :: .int .i64 gn :: PR).toArray.size = true := by
    rw [List.size_toArray, List.length_cons, List.length_cons, List.length_cons, hpl]
    kernel_rfl
  go_enter Tryz.func48, Tryz.ntmps48
  go_wp2_with (first
    | (go_at_call 82; (with_reducible refine (cC.out _).mono ?_); rintro _ w3 ⟨rfl, hk9⟩; have hS1 := hS.keepB hk9; clear hk9 hS; have hS := hS1; clear hS1) | ((with_reducible refine wpList_loadall_st 0 hS rfl rfl rfl rfl ?_ hsz ?_); focus (simp [rowB, go_sem]; done)) | ((with_reducible refine wpList_loadall_st 1 hS rfl rfl rfl rfl ?_ hsz ?_); focus (simp [rowB, go_sem]; done))
    | (go_at_call 88; have q1 := hS.preM (A := [_, _]) (B := [rbC g (.int .i64 b.seq) (.slice p.ga p.grs.length p.gc) b.sh p.ca p.cc p.da p.dc]) (R := []); (with_reducible refine (cA.out _ q1 (hpt.out _ hS.fr)).mono ?_); clear q1; rintro _ w3 ⟨p', a8, c8, L8, rfl, hk9, hks⟩; have hS1 := hS.callM (A := [_, _]) (B := [rbC g (.int .i64 b.seq) (.slice p.ga p.grs.length p.gc) b.sh p.ca p.cc p.da p.dc]) (R := []) hk9; rw [List.append_nil] at hS1; clear hS hk9; replace hks := Lib.hid hks; have hS := hS1; clear hS1)
    | (with_reducible refine wpList_box_st hS rfl rfl rfl ?_; clear hS; intro g1 w1 hS) | (with_reducible refine wpList_box1_st hS rfl rfl rfl ?_; clear hS; intro g1 w1 hS) | (with_reducible refine al hS rfl rfl ?_; clear hS; intro g1 w1 hS) | (with_reducible refine wpList_alloc1_st hS rfl rfl (by assumption) rfl ?_; clear hS; intro g1 w1 hS) | (with_reducible refine ld 0 hS rfl rfl rfl rfl rfl ?_) | (with_reducible refine lda 0 hS rfl rfl rfl rfl ?_) | (with_reducible refine sto 0 hS rfl rfl rfl rfl rfl rfl ?_; clear hS; intro w1 hS) | (with_reducible refine stor 0 hS rfl rfl rfl rfl rfl rfl rfl rfl ?_; clear hS; intro w1 hS) | (with_reducible refine ld 1 hS rfl rfl rfl rfl rfl ?_) | (with_reducible refine lda 1 hS rfl rfl rfl rfl ?_) | (with_reducible refine sto 1 hS rfl rfl rfl rfl rfl rfl ?_; clear hS; intro w1 hS) | (with_reducible refine stor 1 hS rfl rfl rfl rfl rfl rfl rfl rfl ?_; clear hS; intro w1 hS))
  go_ret2
  exact ⟨p', a8, c8, L8, rfl, hS.drop.drop, hks.out⟩
theorem rbdo_any (m g : Nat) (b : BkS) (p : RV) (e : Ed) (he : EdIn e) (w : World) (hA : St w [g] [rbV g b p] w) (hok : BkOk m b) (hm : m ≤ 2000) (hp : ∀ W, Fr [g] w W → p.at b W) :
    Calls Tryz.prog 48 #[.pointer (some ⟨g, 0, none⟩), .agg (edRow e).toArray] w (RbOutV g b p (b.does e) w [g]) := by
  by_cases hc : e.check = 0
  case neg =>
    have hS := hA
    have hd : b.does e = (b, [], e.check) := if_pos hc
    rw [hd]
    have cC := fun W => rcheck19_any e he W
    have hpl := edRow_len e he.p.len
    have hno := Lib.hid fun (er : Int) (w' : World) (hS : St w [g] [rbV g b p] w') => rbOutV_no (er := er) hS
    simp only [rbV, rbC_eq] at hS hno
    have b1 : (e.check != 0) = true := by simpa using hc
    have hsz : sizeB Tryz.prog 44 (edRow e).toArray.size = true := by
      rw [List.size_toArray, hpl]
      kernel_rfl
    clear hd hc he hp hok hA
    generalize edRow e = RE at *
    generalize e.check = er at *
    replace cC := Lib.hid cC
    go_enter Tryz.func48, Tryz.ntmps48
    go_wp2_with (first
      | (go_at_call 82; (with_reducible refine (cC.out _).mono ?_); rintro _ w3 ⟨rfl, hk9⟩; have hS1 := hS.keepB hk9; clear hk9 hS; have hS := hS1; clear hS1)
      | ((with_reducible refine wpList_loadall_st 0 hS rfl rfl rfl rfl ?_ hsz ?_); focus (simp [rowB, go_sem]; done))
      | (with_reducible refine wpList_box_st hS rfl rfl rfl ?_; clear hS; intro g1 w1 hS) | (with_reducible refine wpList_box1_st hS rfl rfl rfl ?_; clear hS; intro g1 w1 hS) | (with_reducible refine al hS rfl rfl ?_; clear hS; intro g1 w1 hS) | (with_reducible refine wpList_alloc1_st hS rfl rfl (by assumption) rfl ?_; clear hS; intro g1 w1 hS) | (with_reducible refine ld 0 hS rfl rfl rfl rfl rfl ?_) | (with_reducible refine lda 0 hS rfl rfl rfl rfl ?_) | (with_reducible refine sto 0 hS rfl rfl rfl rfl rfl rfl ?_; clear hS; intro w1 hS) | (with_reducible refine stor 0 hS rfl rfl rfl rfl rfl rfl rfl rfl ?_; clear hS; intro w1 hS) | (with_reducible refine ld 1 hS rfl rfl rfl rfl rfl ?_) | (with_reducible refine lda 1 hS rfl rfl rfl rfl ?_) | (with_reducible refine sto 1 hS rfl rfl rfl rfl rfl rfl ?_; clear hS; intro w1 hS) | (with_reducible refine stor 1 hS rfl rfl rfl rfl rfl rfl rfl rfl ?_; clear hS; intro w1 hS))
    go_ret2
    exact hno.out _ _ hS.drop
  by_cases hf : 1099511627676 < b.seq
  case pos =>
    have hS := hA
    have hd : b.does e = (b, [], 8) := by unfold BkS.does; rw [if_neg (by simpa using hc), if_pos hf]
    rw [hd]
    have cC := fun W => rcheck19_any e he W
    rw [hc] at cC
    have hpl := edRow_len e he.p.len
    have hno := Lib.hid fun (er : Int) (w' : World) (hS : St w [g] [rbV g b p] w') => rbOutV_no (er := er) hS
    simp only [rbV, rbC_eq] at hS hno
    have d1 : decide (1099511627676 < b.seq) = true := decide_eq_true hf
    have hsz : sizeB Tryz.prog 44 (edRow e).toArray.size = true := by
      rw [List.size_toArray, hpl]
      kernel_rfl
    clear hd hc he hp hok hA hf
    generalize edRow e = RE at *
    replace cC := Lib.hid cC
    go_enter Tryz.func48, Tryz.ntmps48
    go_wp2_with (first
      | (go_at_call 82; (with_reducible refine (cC.out _).mono ?_); rintro _ w3 ⟨rfl, hk9⟩; have hS1 := hS.keepB hk9; clear hk9 hS; have hS := hS1; clear hS1)
      | ((with_reducible refine wpList_loadall_st 0 hS rfl rfl rfl rfl ?_ hsz ?_); focus (simp [rowB, go_sem]; done))
      | (with_reducible refine wpList_box_st hS rfl rfl rfl ?_; clear hS; intro g1 w1 hS) | (with_reducible refine wpList_box1_st hS rfl rfl rfl ?_; clear hS; intro g1 w1 hS) | (with_reducible refine al hS rfl rfl ?_; clear hS; intro g1 w1 hS) | (with_reducible refine wpList_alloc1_st hS rfl rfl (by assumption) rfl ?_; clear hS; intro g1 w1 hS) | (with_reducible refine ld 0 hS rfl rfl rfl rfl rfl ?_) | (with_reducible refine lda 0 hS rfl rfl rfl rfl ?_) | (with_reducible refine sto 0 hS rfl rfl rfl rfl rfl rfl ?_; clear hS; intro w1 hS) | (with_reducible refine stor 0 hS rfl rfl rfl rfl rfl rfl rfl rfl ?_; clear hS; intro w1 hS) | (with_reducible refine ld 1 hS rfl rfl rfl rfl rfl ?_) | (with_reducible refine lda 1 hS rfl rfl rfl rfl ?_) | (with_reducible refine sto 1 hS rfl rfl rfl rfl rfl rfl ?_; clear hS; intro w1 hS) | (with_reducible refine stor 1 hS rfl rfl rfl rfl rfl rfl rfl rfl ?_; clear hS; intro w1 hS))
    go_ret2
    exact hno.out _ _ hS.drop
  rw [does_fin hc hf]
  rcases check_kind hc with hk | hk | hk | hk | hk | hk | hk
  · exact rbdo1_any m g b p e he hk hc hf w hA hok hm hp
  · exact rbdo2_any m g b p e he hk hc hf w hA hok hm hp
  · exact rbdo3_any m g b p e he hk hc hf w hA hok hm hp
  · exact rbdo4_any m g b p e he hk hc hf w hA hok hm hp
  · exact rbdo5_any m g b p e he hk hc hf w hA hok hm hp
  · exact rbdo6_any m g b p e he hk hc hf w hA hok hm hp
  · exact rbdo7_any m g b p e he hk hc hf w hA hok hm hp
end Go.Proofs.YtneolmnpebiifaaGreatDoor
end

section
/- The law's does. -/
set_option linter.unusedSimpArgs false
set_option linter.unusedVariables false
namespace Go.Ofp
open Go.RowKit
theorem Stp.atLast {p q : World → Prop} {w0 W : World} {F : List Nat} {A L1 L2 : List Ch} (k : Stp p q L1) (hS : St w0 F (A ++ (L2 ++ L1)) W) (h : p W) : q W := k w0 F (A ++ L2) [] W (by rw [List.append_nil, List.append_assoc]; exact hS) h
theorem Stp.wide {p q : World → Prop} {L : List Ch} (k : Stp p q L) (A B : List Ch) : Stp p q (A ++ (L ++ B)) := fun w0 F A1 B1 W hW h => k w0 F (A1 ++ A) (B ++ B1) W (by simpa using hW) h
theorem does_len {n : Nat} {b : BkS} (h : BkOk n b) (e : Ed) (hp : e.p.lab < 4294967296) : (b.does e).2.1.length ≤ n + 1 := by
  unfold BkS.does
  split
  · exact Nat.zero_le _
  · split
    · exact Nat.zero_le _
    · split
      · exact Nat.zero_le _
      · rename_i h1 h2 h3
        have := (act_ok h e hp (Decidable.not_not.1 h3)).2.2.1
        show (stepsL b.seq (b.act e).2.1).length ≤ _
        rw [stepsL_len]
        exact this
theorem BkOk.sz {n : Nat} {b : BkS} (h : BkOk n b) : b.sh.m.length ≤ 50000 ∧ b.sh.dead.length ≤ 50000 := ⟨by have := h.sh.len; omega, by have := h.sh.dlen; omega⟩
theorem feet_left {A B : List Ch} {g : Nat} (h : g ∈ feet A) : g ∈ feet (A ++ B) := by rw [feet_append]; exact List.mem_append_left _ h
theorem feet_right {A B : List Ch} {g : Nat} (h : g ∈ feet B) : g ∈ feet (A ++ B) := by rw [feet_append]; exact List.mem_append_right _ h
end Go.Ofp
namespace Go.Proofs.YtneolmnpebiifaaGreatDoor
open Go.RowKit Go.Ofp
set_option linter.unusedVariables false
set_option maxRecDepth 100000
set_option maxHeartbeats 8000000
theorem build_bd5 (a b : Int) (c1 : Option Addr) (n1 d1 : Nat) (c2 : Option Addr) (n2 d2 : Nat) (c3 : Option Addr) (n3 d3 : Nat) (w : World) : (Instr.build 31 #[(0, .int .i64 a), (1, .int .i64 b), (2, .slice c1 n1 d1), (3, .slice c2 n2 d2), (4, .slice c3 n3 d3)]).run Tryz.prog w = .ok (.agg #[.int .i64 a, .int .i64 b, .slice c1 n1 d1, .slice c2 n2 d2, .slice c3 n3 d3]) w := by kernel_rfl
theorem rbdata_any (b : BkS) (r : RV) (w : World) : Calls Tryz.prog 24 #[.agg #[.int .i64 b.seq, .int .i64 b.sh.next, .slice r.ca b.sh.m.length r.cc, .slice r.da b.sh.dead.length r.dc, .slice r.ga r.grs.length r.gc]] w fun e w' => e = .returned (.agg (bdRow b r).toArray) ∧ Below w.heap.size w w' := by
  have hS := St.start w
  have eb := elem_bd
  have hB := build_bd5
  rw [bdRow_eq]
  generalize b.sh.m.length = n1
  generalize b.sh.dead.length = n2
  generalize r.grs.length = n3
  go_enter Tryz.func24, Tryz.ntmps24
  go_wp2_with (first
    | (with_reducible refine wpList_box_st hS rfl rfl rfl ?_; clear hS; intro g1 w1 hS) | (with_reducible refine wpList_box1_st hS rfl rfl rfl ?_; clear hS; intro g1 w1 hS) | (with_reducible refine al hS rfl rfl ?_; clear hS; intro g1 w1 hS) | (with_reducible refine wpList_alloc1_st hS rfl rfl (by assumption) rfl ?_; clear hS; intro g1 w1 hS) | (with_reducible refine ld 0 hS rfl rfl rfl rfl rfl ?_) | (with_reducible refine lda 0 hS rfl rfl rfl rfl ?_) | (with_reducible refine sto 0 hS rfl rfl rfl rfl rfl rfl ?_; clear hS; intro w1 hS) | (with_reducible refine stor 0 hS rfl rfl rfl rfl rfl rfl rfl rfl ?_; clear hS; intro w1 hS) | (with_reducible refine ld 1 hS rfl rfl rfl rfl rfl ?_) | (with_reducible refine lda 1 hS rfl rfl rfl rfl ?_) | (with_reducible refine sto 1 hS rfl rfl rfl rfl rfl rfl ?_; clear hS; intro w1 hS) | (with_reducible refine stor 1 hS rfl rfl rfl rfl rfl rfl rfl rfl ?_; clear hS; intro w1 hS))
  exact bodyPost_ret (v := .agg #[.int .i64 b.seq, .int .i64 b.sh.next, .slice r.ca n1 r.cc, .slice r.da n2 r.dc, .slice r.ga n3 r.gc]) (results_blk Tryz.results24 rfl hS 0 rfl (by kernel_rfl) (by kernel_rfl)) rfl ⟨rfl, hS.below⟩
theorem does20_any (m g gs gm g2 : Nat) (b : BkS) (p : PV) (r : RV) (e : Ed) (he : EdIn e) (w : World) (hA : St w (feet (bkV g gs gm b p ++ [rbV g2 b r])) (bkV g gs gm b p ++ [rbV g2 b r]) w) (hok : BkOk m b) (hm : m ≤ 400) (hp : ∀ W, Fr (feet (bkV g gs gm b p ++ [rbV g2 b r])) w W → p.at b W) (hr : ∀ W, Fr (feet (bkV g gs gm b p ++ [rbV g2 b r])) w W → r.at b W) (htab : Tab w) (hT : 0 ∉ feet (bkV g gs gm b p ++ [rbV g2 b r])) :
    Calls Tryz.prog 15 #[.pointer (some ⟨g, 0, none⟩), .pointer (some ⟨g2, 0, none⟩), .agg (edRow e).toArray] w fun x w' => x = .returned (.bool true) ∧ ∃ (p' : PV) (r' : RV) (L' : List Ch),
      St w (feet (bkV g gs gm b p ++ [rbV g2 b r])) (bkV g gs gm (b.does e).1 p' ++ (rbV g2 (b.does e).1 r' :: L')) w' ∧ Stp (p.at b) (p'.at (b.does e).1) L' ∧ Stp (r.at b) (r'.at (b.does e).1) L' := by
  have hS := hA
  have hT1 : 0 ∉ feet (bkV g gs gm b p) := (feet_off hT).1
  have hok1 := hok.does e he.p.lab hm
  have hln := does_len hok e he.p.lab
  have hsz1 := hok1.sz
  have cP := fun W h1 (hF : Fr (feet (bkV g gs gm b p ++ [rbV g2 b r])) w W) => bdo_any m g gs gm b p e he W h1 hok (by omega) (fun W1 h => hp W1 (hF.trans h fun x hx => .inl (feet_left hx))) (htab.fr hF hT) hT1
  have cR := fun W h1 (hF : Fr (feet (bkV g gs gm b p ++ [rbV g2 b r])) w W) => rbdo_any m g2 b r e he W h1 hok (by omega) (fun W1 h => hr W1 (hF.trans h fun x hx => .inl (feet_right (A := bkV g gs gm b p) hx)))
  have hel := edRow_len e he.p.len
  have hsz : sizeB Tryz.prog 44 (edRow e).toArray.size = true := by
    rw [List.size_toArray, hel]
    kernel_rfl
  generalize edRow e = RE at *
  obtain ⟨RR, hRR⟩ : ∃ RR, b.does e = RR := ⟨_, rfl⟩
  rw [hRR] at cP cR hok1 hln hsz1 ⊢
  clear hRR he hA hok hT hT1 htab
  obtain ⟨b1, X, er⟩ := RR
  simp only at *
  obtain ⟨F, hF⟩ : ∃ F, F = feet (bkV g gs gm b p ++ [rbV g2 b r]) := ⟨_, rfl⟩
  rw [← hF] at hS cP cR hp hr ⊢
  clear hF
  replace cP := Lib.hid cP
  replace cR := Lib.hid cR
  replace hp := Lib.hid hp
  replace hr := Lib.hid hr
  replace hok1 := Lib.hid hok1
  go_enter Tryz.func15, Tryz.ntmps15
  go_wp2_with (first
    | (with_reducible refine wpList_box_st (L := bkV g gs gm b p ++ [rbV g2 b r]) hS rfl rfl rfl ?_; intro gE w1 hS1; clear hS; have hS := hS1; clear hS1)
    | ((with_reducible refine wpList_loadall_st 0 hS rfl rfl rfl rfl ?_ hsz ?_); focus (simp [rowB, go_sem]; done))
    | (go_at_call 11; have q1 := hS.preM (A := [Ch.blk gE 44 RE.toArray]) (B := bkV g gs gm b p) (R := [rbV g2 b r]); (with_reducible refine (cP.out _ q1 hS.fr).mono ?_); clear q1; rintro _ w3 ⟨p1, a3, c3, L1, rfl, hk9, hkp⟩; have hS1 := St.mid (A := (Ch.blk gE 44 RE.toArray :: bkV g gs gm b1 p1)) (B := Ch.row 48 2 (.slice a3 X.length c3) X.length (chRows X) :: L1) (C := [rbV g2 b r]) (R := []) (hS.callM (A := [Ch.blk gE 44 RE.toArray]) (B := bkV g gs gm b p) (R := [rbV g2 b r]) hk9); rw [List.append_nil] at hS1; clear hS hk9; replace hkp := Lib.hid hkp; have hS := hS1; clear hS1)
    | (go_at_call 48; have q1 := hS.preM (A := (Ch.blk gE 44 RE.toArray :: bkV g gs gm b1 p1)) (B := [rbV g2 b r]) (R := Ch.row 48 2 (.slice a3 X.length c3) X.length (chRows X) :: L1); (with_reducible refine (cR.out _ q1 hS.fr).mono ?_); clear q1; rintro _ w5 ⟨r1, a5, c5, L2, rfl, hk9, hkr⟩; have hS1 : St w F ((Ch.blk gE 44 RE.toArray :: bkV g gs gm b1 p1) ++ ([rbV g2 b1 r1, Ch.row 48 2 (.slice a5 X.length c5) X.length (chRows X), Ch.row 48 2 (.slice a3 X.length c3) X.length (chRows X)] ++ (L2 ++ L1))) w5 := St.mid (A := (Ch.blk gE 44 RE.toArray :: bkV g gs gm b1 p1) ++ [rbV g2 b1 r1, Ch.row 48 2 (.slice a5 X.length c5) X.length (chRows X)]) (B := L2) (C := [Ch.row 48 2 (.slice a3 X.length c3) X.length (chRows X)]) (R := L1) (hS.callM (A := (Ch.blk gE 44 RE.toArray :: bkV g gs gm b1 p1)) (B := [rbV g2 b r]) (R := Ch.row 48 2 (.slice a3 X.length c3) X.length (chRows X) :: L1) hk9); clear hS hk9; replace hkr := Lib.hid hkr; have hS := hS1; clear hS1))
  have hp1 : p1.at b1 w5 := hkp.out.atLast (A := (Ch.blk gE 44 RE.toArray :: bkV g gs gm b1 p1) ++ [rbV g2 b1 r1, Ch.row 48 2 (.slice a5 X.length c5) X.length (chRows X), Ch.row 48 2 (.slice a3 X.length c3) X.length (chRows X)]) hS (hp.out _ hS.fr)
  have hr1 : r1.at b1 w5 := hkr.out w F ((Ch.blk gE 44 RE.toArray :: bkV g gs gm b1 p1) ++ [rbV g2 b1 r1, Ch.row 48 2 (.slice a5 X.length c5) X.length (chRows X), Ch.row 48 2 (.slice a3 X.length c3) X.length (chRows X)]) L1 w5 hS (hr.out _ hS.fr)
  have hB := bkAt_of (A := [Ch.blk gE 44 RE.toArray]) (R := rbV g2 b1 r1 :: Ch.row 48 2 (.slice a5 X.length c5) X.length (chRows X) :: Ch.row 48 2 (.slice a3 X.length c3) X.length (chRows X) :: (L2 ++ L1)) hS hp1
  have z0 : w5.cell? ⟨g2, 0, none⟩ = some (.int .i64 b1.seq) := hS.cell 5 rfl 0
  have zr : w5.rangeAt g2 0 [.int .i64 b1.seq, .int .i64 b1.sh.next, .slice r1.ca b1.sh.m.length r1.cc, .slice r1.da b1.sh.dead.length r1.dc, .slice r1.ga r1.grs.length r1.gc] := Whole.range (hS.get 5 rfl) 0 fun k v hk => by simpa [rsRow] using hk
  have lP : Lst chRow (fun _ => True) w5 a3 X.length c3 X := hS.lst (e := 48) (size := 2) 7 rfl rfl (fun _ _ => trivial)
  have lR : Lst chRow (fun _ => True) w5 a5 X.length c5 X := hS.lst (e := 48) (size := 2) 6 rfl rfl (fun _ _ => trivial)
  have cCh := fun W (h : Below w5.heap.size w5 W) => changes_any a3 a5 X.length X.length c3 c5 X X W (lP.below h) (lR.below h) (by omega) (by omega)
  rw [decide_eq_true rfl] at cCh
  have cSq := Lib.hid fun W (h : Below w5.heap.size w5 W) => bseq_any (hB.below h)
  have cDa := Lib.hid fun W (h : Below w5.heap.size w5 W) => bdata_any (hB.below h) hok1.out (by omega)
  have cRD := Lib.hid fun W => rbdata_any b1 r1 W
  have cSm := fun (rr : RV) W (h : rr.at b1 W) (hb : Below w5.heap.size w5 W) => rbsame_any b1 b1 rr r1 W h (hr1.below hb) ⟨hsz1.1, hsz1.2⟩ ⟨hsz1.1, hsz1.2⟩
  rw [eqB_self] at cSm
  replace cSm := Lib.hid cSm
  replace cCh := Lib.hid cCh
  have hOld := Lib.hid hS
  have hend := Lib.hid fun (W : World) (hb : Below w5.heap.size w5 W) => show ∃ (p' : PV) (r' : RV) (L' : List Ch), St w F (bkV g gs gm b1 p' ++ (rbV g2 b1 r' :: L')) W ∧ Stp (p.at b) (p'.at b1) L' ∧ Stp (r.at b) (r'.at b1) L' from
    ⟨p1, r1, [Ch.row 48 2 (.slice a5 X.length c5) X.length (chRows X), Ch.row 48 2 (.slice a3 X.length c3) X.length (chRows X)] ++ (L2 ++ L1), (hOld.out.keepB hb).drop, (by have := hkp.out.wide ([Ch.row 48 2 (.slice a5 X.length c5) X.length (chRows X), Ch.row 48 2 (.slice a3 X.length c3) X.length (chRows X)] ++ L2) []; rw [List.append_nil, List.append_assoc] at this; exact this), hkr.out.wide _ _⟩
  clear hS hOld hkp hkr hp hr hp1 hr1 hB lP lR cP cR
  have hS := St.start w5
  have he : (er == er) = true := by simp
  have hq : (b1.seq == b1.seq) = true := by simp
  have k0 := hS.empty.kold0 z0
  have kr := hS.empty.kold_row (P := Tryz.prog) (t := 53) zr (by kernel_rfl) (n := 5) (by kernel_rfl) rfl
  refine mixs_beginE (by kernel_rfl) hS ?_
  clear hS
  intro w6 hS hC
  refine tk 0 ?_
  refine tk 1 ?_
  refine tk 2 ?_
  refine tk 3 ?_
  refine tk 4 ?_
  refine tk 5 ?_
  refine mixs_one 6 (by kernel_rfl) rfl (fun K hK => ?_)
  go_simp
  (go_at_call 27; (with_reducible refine (cCh.out _ hS.below).mono ?_); rintro _ w3 ⟨rfl, hk9⟩; have hS1 := hS.keepB hk9; clear hk9 hS; have hS := hS1; clear hS1)
  try clear hC
  refine cl hK (fun hC => ?_)
  clear hK K
  refine tk 7 ?_
  refine tk 8 ?_
  refine tk 9 ?_
  refine tk 11 ?_
  refine tk 12 ?_
  refine tk 13 ?_
  refine tk 14 ?_
  refine mixs_one 10 (by kernel_rfl) rfl (fun K hK => ?_)
  go_simp
  (go_at_call 25; (with_reducible refine (cSq.out _ hS.below).mono ?_); rintro _ w3 ⟨rfl, hk9⟩; have hS1 := hS.keepB hk9; clear hk9 hS; have hS := hS1; clear hS1)
  try clear hC
  refine cl hK (fun hC => ?_)
  clear hK K
  refine tk 15 ?_
  refine tk 16 ?_
  refine tk 17 ?_
  refine tk 18 ?_
  refine tk 20 ?_
  refine tk 21 ?_
  refine tkr 22 kr ?_
  refine mixs_one 19 (by kernel_rfl) rfl (fun K hK => ?_)
  go_simp
  (go_at_call 10; (with_reducible refine (cDa.out _ hS.below).mono ?_); rintro _ w3 ⟨r3, L3, rfl, hk9, hk3⟩; have hr3 := hk3 _ _ [] [] _ (by rw [List.append_nil]; exact hk9) trivial; have hS1 := hS.made hk9; clear hk9 hk3 hS; replace hr3 := Lib.hid hr3; have hS := hS1; clear hS1)
  try clear hC
  refine cl hK (fun hC => ?_)
  clear hK K
  refine mixs_one 23 (by kernel_rfl) rfl (fun K hK => ?_)
  go_simp
  (go_at_call 24; (with_reducible refine (cRD.out _).mono ?_); rintro _ w3 ⟨rfl, hk9⟩; have hr4 := Lib.hid (hr3.out.below hk9); have hS1 := hS.keepB hk9; clear hk9 hS; have hS := hS1; clear hS1)
  try clear hC
  refine cl hK (fun hC => ?_)
  clear hK K
  refine mixs_one 24 (by kernel_rfl) rfl (fun K hK => ?_)
  go_simp
  (go_at_call 12; (with_reducible refine (cSm.out _ _ hr4.out hS.below).mono ?_); rintro _ w3 ⟨rfl, hk9⟩; have hS1 := hS.keepB hk9; clear hk9 hS; have hS := hS1; clear hS1)
  try clear hC
  refine cl hK (fun hC => ?_)
  clear hK K
  refine tk 25 ?_
  refine tk 26 ?_
  refine wpAnyH_done (by kernel_rfl) ?_ _
  all_goals
    clear k0 kr he hq
    go_wp2_with fail
    go_ret
    exact ⟨rfl, hend.out _ hS.below⟩
end Go.Proofs.YtneolmnpebiifaaGreatDoor
end

section
/- Do, does: in a law. -/
set_option linter.unusedSimpArgs false
set_option linter.unusedVariables false
namespace Go.Ofp
open Go.RowKit
theorem Ovr.off {w0 W : World} {p : World → Prop} {A B R : List Ch} (h : Ovr w0 p R) (hS : St w0 [] (A ++ (B ++ R)) W) : ∀ W', Fr (feet B) W W' → p W' := fun _ k => h.at (A := A) (hS.offM k)
end Go.Ofp
namespace Go.Proofs.YtneolmnpebiifaaGreatDoor
open Go.RowKit Go.Ofp
set_option linter.unusedVariables false
set_option maxRecDepth 100000
theorem bdo_law {m g gs gm : Nat} {b : BkS} {p : PV} {w0 W : World} {A R : List Ch} (e : Ed) (he : EdIn e) (hS : St w0 [] (A ++ (bkV g gs gm b p ++ R)) W) (hO : Ovr w0 (p.at b) R) (hok : BkOk m b) (hm : m ≤ 400) (htab : Tab w0) :
    Calls Tryz.prog 11 #[.pointer (some ⟨g, 0, none⟩), .agg (edRow e).toArray] W fun x W' => ∃ (p' : PV) (a : Option Addr) (c : Nat) (L : List Ch), x = .returned (.tuple #[.slice a (b.does e).2.1.length c, .int .i64 (b.does e).2.2]) ∧
      St w0 [] (A ++ (bkV g gs gm (b.does e).1 p' ++ (Ch.row 48 2 (.slice a (b.does e).2.1.length c) (b.does e).2.1.length (chRows (b.does e).2.1) :: (L ++ R)))) W' ∧ Ovr w0 (p'.at (b.does e).1) (L ++ R) := by
  refine (bdo_any m g gs gm b p e he W hS.preM hok (by omega) (hO.off hS) (htab.fr hS.fr (by simp)) (tab_feet hS htab)).mono ?_
  rintro x W' ⟨p', a, c, L, h1, h2, h3⟩
  refine ⟨p', a, c, L, h1, ?_, hO.step h3⟩
  have := hS.callM h2
  simpa using this
theorem does_law {m g gs gm g2 : Nat} {b : BkS} {p : PV} {r : RV} {w0 W : World} {A R : List Ch} (e : Ed) (he : EdIn e) (hS : St w0 [] (A ++ (bkV g gs gm b p ++ (rbV g2 b r :: R))) W) (hO : Ovr w0 (p.at b) R) (hO2 : Ovr w0 (r.at b) R) (hok : BkOk m b) (hm : m ≤ 400) (htab : Tab w0) :
    Calls Tryz.prog 15 #[.pointer (some ⟨g, 0, none⟩), .pointer (some ⟨g2, 0, none⟩), .agg (edRow e).toArray] W fun x W' => x = .returned (.bool true) ∧ ∃ (p' : PV) (r' : RV) (L : List Ch),
      St w0 [] (A ++ (bkV g gs gm (b.does e).1 p' ++ (rbV g2 (b.does e).1 r' :: (L ++ R)))) W' ∧ Ovr w0 (p'.at (b.does e).1) (L ++ R) ∧ Ovr w0 (r'.at (b.does e).1) (L ++ R) := by
  have hS1 : St w0 [] (A ++ ((bkV g gs gm b p ++ [rbV g2 b r]) ++ R)) W := by simpa using hS
  refine (does20_any m g gs gm g2 b p r e he W hS1.preM hok hm (hO.off hS1) (hO2.off hS1) (htab.fr hS1.fr (by simp)) (tab_feet hS1 htab)).mono ?_
  rintro x W' ⟨h1, p', r', L, h2, h3, h4⟩
  refine ⟨h1, p', r', L, ?_, hO.step h3, hO2.step h4⟩
  have := hS1.callM h2
  simpa using this
end Go.Proofs.YtneolmnpebiifaaGreatDoor
end
