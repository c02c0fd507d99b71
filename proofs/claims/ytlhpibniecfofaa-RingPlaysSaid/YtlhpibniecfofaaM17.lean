/- Texts laid together: RingPlays RingOpen. -/
import Derived.Test.YtlhpibniecfofaaM12
import Derived.Test.YtlhpibniecfofaaM16
import Derived.Test.YtlhpibniecfofaaM2
import Derived.Test.YtlhpibniecfofaaM4
import Derived.Test.YtlhpibniecfofaaM9
section
/- The law RingPlays: the walk of it. -/
set_option linter.unusedSimpArgs false
set_option linter.unusedVariables false
namespace Go.Proofs.Ytlhpibniecfofaa
open Go.RowKit Go.Ofp
set_option linter.unusedVariables false
set_option maxRecDepth 100000
set_option maxHeartbeats 8000000

theorem build_play (bd : Nat) (a : Option Addr) (n c : Nat) (w : World) : (Instr.build 94 #[(0, .pointer (some ⟨bd, 0, none⟩)), (2, .agg #[.slice a n c, .slice none 0 0, .int .i64 (-1), .bool false])]).run Try.prog w = .ok (.agg #[.pointer (some ⟨bd, 0, none⟩), .pointer none, .slice a n c, .slice none 0 0, .int .i64 (-1), .bool false, .int .i64 0, .int .i64 0, .int .i64 0, .int .i64 0, .int .i64 0]) w := by kernel_rfl

theorem _root_.Go.Ofp.St.nilEnd {w0 w : World} {F : List Nat} {A B : List Ch} (h : St w0 F (A ++ B) w) : St w0 F (A ++ (B ++ [])) w := by simpa using h
theorem plays37_any (sz : Nat) (f n h l : Int) (a : Option Addr) (m c : Nat) (acts : List Ga) (w : World) (hl : Gas w a m c acts) (hq : sz ≤ 255) :
    Calls Try.prog 8 #[.int .u8 sz, .agg #[.int .i64 f, .int .i64 n, .int .i64 h, .int .i64 l], .slice a m c] w fun e w' => e = .returned (.bool true) ∧ Below w.heap.size w w' := by
  have cA := awake37_any
  have hS := St.start w
  replace cA := Lib.hid cA
  by_cases hQ : ShortQ m acts
  · have cL : ∀ W, Below w.heap.size w W → Calls Try.prog 47 #[.slice a m c] W fun e w' => e = .returned (.bool false) ∧ W = w' := fun W hb => (long37_any a m c acts W (hl.below hb)).mono fun e w' hk => ⟨hk.1.yes hQ, hk.2⟩
    obtain ⟨size, hsz⟩ : ∃ k, 1 + sz % 30 = k := ⟨_, rfl⟩
    have hw2 : 1 + (sz : Int) % 30 = size := by omega
    have hs1 : 1 ≤ size := by omega
    have hs3 : size ≤ 30 := by omega
    clear hsz
    have cN := fun W => new_any size W hs1 (by omega)
    have hlen : (Dk.new size).sec.length = size := by simp [Dk.new]
    have cM : ∀ W : World, Calls Try.prog 13 #[.int .i64 size] W fun e w' => ∃ a c, e = .returned (.agg #[.slice a size c, .slice none 0 0, .int .i64 (-1), .bool false]) ∧ St W [] [Ch.row 9 1 (.slice a size c) (Dk.new size).sec.length ((Dk.new size).sec.map rsc)] w' := fun W => (rnew_any size W (by omega)).mono fun e w' ⟨sv, h1, h2⟩ => by
      obtain ⟨a, c, rfl, -⟩ := h2.row 0 rfl
      exact ⟨a, c, h1, by rw [hlen]; exact h2⟩
    have hfit0 := Dk.Fit.new size hs1
    have hd0 : (Dk.new size).dead = false := rfl
    have hbp := build_play
    have cK := fun W => rright_any size f n h l W (by omega)
    have cR := fun bd sv wv W hh => rgnew_any bd sv wv (Dk.new size) f n h l W hh (by rw [hlen]; omega)
    rw [hlen] at cR
    have cZ := fun W => rgnew_nil f n h l W
    obtain ⟨ok, hok⟩ : ∃ b, ringOk size f n h l = b := ⟨_, rfl⟩
    rw [hok] at cK cR
    replace cL := Lib.hid cL
    replace cN := Lib.hid cN
    replace cM := Lib.hid cM
    replace cZ := Lib.hid cZ
    replace cK := Lib.hid cK
    replace hlen := Lib.hid hlen
    cases ok with
    | false =>
      have cG : ∀ (bd : Nat) (sv wv : Value) W, St W (feet (dks bd sv wv (Dk.new size))) (dks bd sv wv (Dk.new size)) W → Calls Try.prog 42 #[.pointer (some ⟨bd, 0, none⟩), .int .i64 f, .int .i64 n, .int .i64 h, .int .i64 l] W fun e w' => e = .returned (.pointer none) ∧ W = w' := fun bd sv wv W hh => (cR bd sv wv W hh).mono fun e w' hk => hk.1 rfl
      have cO := fun (bd g : Nat) (sv wv rsv rwv : Value) W hh => open37_bad bd g sv wv rsv rwv (Dk.new size) (⟨.pointer (some ⟨bd, 0, none⟩), .pointer none, .int .i64 0, .int .i64 0, .int .i64 0, .int .i64 0, .int .i64 0⟩ : Pl37) f n h l size W hh rfl hlen.out (by omega) hd0 hok
      clear cR hl
      replace cG := Lib.hid cG
      replace cO := Lib.hid cO
      replace hfit0 := Lib.hid hfit0
      replace hok := Lib.hid hok
      go_enter Try.func8, Try.ntmps8
      go_wp2_with (first
        | (go_at_call 47; (with_reducible refine (cL.out _ hS.below).mono ?_); rintro _ _ ⟨rfl, rfl⟩)
        | (go_at_call 11; (with_reducible refine (cN.out _).mono ?_); rintro _ w3 ⟨bd, sv, wv, rfl, hk3⟩; have hS1 := hS.made hk3; clear hS hk3; have hS : St w [] (dks bd sv wv (Dk.new size) ++ [Ch.blk gb 87 #[.int .i64 f, .int .i64 n, .int .i64 h, .int .i64 l]]) _ := hS1; clear hS1)
        | (go_at_call 13; (with_reducible refine (cM.out _).mono ?_); rintro _ w4 ⟨aS, cS, rfl, hk4⟩; have hS1 := hS.made hk4; clear hS hk4; have hS := hS1; clear hS1; simp only [List.cons_append, List.nil_append] at hS)
        | ((with_reducible refine wpList_box_st hS rfl rfl rfl ?_); intro gb w1 hS1; clear hS; have hS : St w [] [Ch.blk gb 87 #[.int .i64 f, .int .i64 n, .int .i64 h, .int .i64 l]] w1 := hS1; clear hS1)
        | ((with_reducible refine wpList_box_st hS rfl rfl rfl ?_); intro g w2 hS1; clear hS; have hS := hS1; clear hS1))
      have hS1 := hS.nilrow 141 2
      clear hS
      have hS2 := St.rot (A := _ :: _ :: _ :: dks bd sv wv (Dk.new size)) (B := [_]) (St.mid (A := []) (B := [_]) (C := [_, _]) (R := dks bd sv wv (Dk.new size) ++ [_]) hS1)
      have hS : St w [] (Ch.blk gb 87 #[.int .i64 f, .int .i64 n, .int .i64 h, .int .i64 l] :: (rdp37 (⟨.pointer (some ⟨bd, 0, none⟩), .pointer none, .int .i64 0, .int .i64 0, .int .i64 0, .int .i64 0, .int .i64 0⟩ : Pl37) g (.slice aS size cS) (.slice none 0 0) (Dk.new size) ++ (dks bd sv wv (Dk.new size) ++ []))) _ := St.nilEnd (A := Ch.blk gb 87 #[.int .i64 f, .int .i64 n, .int .i64 h, .int .i64 l] :: rdp37 (⟨.pointer (some ⟨bd, 0, none⟩), .pointer none, .int .i64 0, .int .i64 0, .int .i64 0, .int .i64 0, .int .i64 0⟩ : Pl37) g (.slice aS size cS) (.slice none 0 0) (Dk.new size)) (B := dks bd sv wv (Dk.new size)) hS2
      clear hS1 hS2 cL cN cM
      unfold rdp37 at hS
      simp only [List.cons_append, List.nil_append] at hS
      revert hS
      apply wp_cut0
      · intro hS
        refine mixs_beginP [(0, .pointer (some ⟨bd, 0, none⟩))] (by kernel_rfl) hS (by simp) ?_
        clear hS
        intro w6 hS hC
        have kC := hC.kblk 0 rfl
        have kC1 := hC.kpart 1 rfl (0, .pointer (some ⟨bd, 0, none⟩)) (by simp)
        simp only at kC1
        refine mixs_take 0 (v := ?_) rfl (by kernel_rfl) (fun _ _ _ h => h) (by kernel_rfl) (by assumption) (fun s => ?hy) ?_; case hy => (go_simp <;> with_reducible rfl)
        try simp only [List.getElem_toArray, List.getElem_cons_succ, List.getElem_cons_zero, Act.put, List.setIfInBounds_toArray, List.set_cons_zero, List.set_cons_succ]
        refine mixs_take 1 (v := ?_) rfl (by kernel_rfl) (fun _ _ _ h => h) (by kernel_rfl) (by assumption) (fun s => ?hy) ?_; case hy => (go_simp <;> with_reducible rfl)
        try simp only [List.getElem_toArray, List.getElem_cons_succ, List.getElem_cons_zero, Act.put, List.setIfInBounds_toArray, List.set_cons_zero, List.set_cons_succ]
        refine mixs_take 2 (v := ?_) rfl (by kernel_rfl) (fun _ _ _ h => h) (by kernel_rfl) (by assumption) (fun s => ?hy) ?_; case hy => (go_simp <;> with_reducible rfl)
        try simp only [List.getElem_toArray, List.getElem_cons_succ, List.getElem_cons_zero, Act.put, List.setIfInBounds_toArray, List.set_cons_zero, List.set_cons_succ]
        refine mixs_take 3 (v := ?_) rfl (by kernel_rfl) (fun _ _ _ h => h) (by kernel_rfl) (by assumption) (fun s => ?hy) ?_; case hy => (go_simp <;> with_reducible rfl)
        try simp only [List.getElem_toArray, List.getElem_cons_succ, List.getElem_cons_zero, Act.put, List.setIfInBounds_toArray, List.set_cons_zero, List.set_cons_succ]
        refine mixs_take 4 (v := ?_) rfl (by kernel_rfl) (fun _ _ _ h => h) (by kernel_rfl) (by assumption) (fun s => ?hy) ?_; case hy => (go_simp <;> with_reducible rfl)
        try simp only [List.getElem_toArray, List.getElem_cons_succ, List.getElem_cons_zero, Act.put, List.setIfInBounds_toArray, List.set_cons_zero, List.set_cons_succ]
        refine mixs_take 5 (v := ?_) rfl (by kernel_rfl) (fun _ _ _ h => h) (by kernel_rfl) (by assumption) (fun s => ?hy) ?_; case hy => (go_simp <;> with_reducible rfl)
        try simp only [List.getElem_toArray, List.getElem_cons_succ, List.getElem_cons_zero, Act.put, List.setIfInBounds_toArray, List.set_cons_zero, List.set_cons_succ]
        refine mixs_take 6 (v := ?_) rfl (by kernel_rfl) (fun _ _ _ h => h) (by kernel_rfl) (by assumption) (fun s => ?hy) ?_; case hy => (go_simp <;> with_reducible rfl)
        try simp only [List.getElem_toArray, List.getElem_cons_succ, List.getElem_cons_zero, Act.put, List.setIfInBounds_toArray, List.set_cons_zero, List.set_cons_succ]
        refine mixs_take 7 (v := ?_) rfl (by kernel_rfl) (fun _ _ _ h => h) (by kernel_rfl) (by assumption) (fun s => ?hy) ?_; case hy => (go_simp <;> with_reducible rfl)
        try simp only [List.getElem_toArray, List.getElem_cons_succ, List.getElem_cons_zero, Act.put, List.setIfInBounds_toArray, List.set_cons_zero, List.set_cons_succ]
        refine mixs_take 8 (v := ?_) rfl (by kernel_rfl) (fun _ _ _ h => h) (by kernel_rfl) (by assumption) (fun s => ?hy) ?_; case hy => (go_simp <;> with_reducible rfl)
        try simp only [List.getElem_toArray, List.getElem_cons_succ, List.getElem_cons_zero, Act.put, List.setIfInBounds_toArray, List.set_cons_zero, List.set_cons_succ]
        refine mixs_take 9 (v := ?_) rfl (by kernel_rfl) (fun _ _ _ h => h) (by kernel_rfl) (by assumption) (fun s => ?hy) ?_; case hy => (go_simp <;> with_reducible rfl)
        try simp only [List.getElem_toArray, List.getElem_cons_succ, List.getElem_cons_zero, Act.put, List.setIfInBounds_toArray, List.set_cons_zero, List.set_cons_succ]
        refine mixs_take 10 (v := ?_) rfl (by kernel_rfl) (fun _ _ _ h => h) (by kernel_rfl) (by assumption) (fun s => ?hy) ?_; case hy => (go_simp <;> with_reducible rfl)
        try simp only [List.getElem_toArray, List.getElem_cons_succ, List.getElem_cons_zero, Act.put, List.setIfInBounds_toArray, List.set_cons_zero, List.set_cons_succ]
        refine mixs_take 11 (v := ?_) rfl (by kernel_rfl) (fun _ _ _ h => h) (by kernel_rfl) (by assumption) (fun s => ?hy) ?_; case hy => (go_simp <;> with_reducible rfl)
        try simp only [List.getElem_toArray, List.getElem_cons_succ, List.getElem_cons_zero, Act.put, List.setIfInBounds_toArray, List.set_cons_zero, List.set_cons_succ]
        refine mixs_take 14 (v := ?_) rfl (by kernel_rfl) (fun _ _ _ h => h) (by kernel_rfl) (by assumption) (fun s => ?hy) ?_; case hy => (go_simp <;> with_reducible rfl)
        try simp only [List.getElem_toArray, List.getElem_cons_succ, List.getElem_cons_zero, Act.put, List.setIfInBounds_toArray, List.set_cons_zero, List.set_cons_succ]
        refine mixs_take 15 (v := ?_) rfl (by kernel_rfl) (fun _ _ _ h => h) (by kernel_rfl) (by assumption) (fun s => ?hy) ?_; case hy => (go_simp <;> with_reducible rfl)
        try simp only [List.getElem_toArray, List.getElem_cons_succ, List.getElem_cons_zero, Act.put, List.setIfInBounds_toArray, List.set_cons_zero, List.set_cons_succ]
        refine mixs_one 12 (by kernel_rfl) rfl (fun K hK => ?_)
        go_simp
        ( (first | (go_at_call 42; (first | (with_reducible refine (cZ.out _).mono ?_) | (with_reducible refine (cG.out _ _ _ _ (hS.preM (A := [_, _, _, _]) (B := dks bd sv wv (Dk.new size)) (R := []))).mono ?_)); rintro _ _ ⟨rfl, rfl⟩) | (go_at_call 48; (with_reducible refine (cK.out _).mono ?_); rintro _ w9 ⟨rfl, hb9⟩; have hS1 := hS.keepB hb9; clear hb9 hS; have hS := hS1; clear hS1) | (go_at_call 49; have hS2 : St w [] ([_] ++ ((rdp37 (⟨.pointer (some ⟨bd, 0, none⟩), .pointer none, .int .i64 0, .int .i64 0, .int .i64 0, .int .i64 0, .int .i64 0⟩ : Pl37) g (.slice aS size cS) (.slice none 0 0) (Dk.new size) ++ dks bd sv wv (Dk.new size)) ++ [])) _ := hS; (with_reducible refine (cO.out _ _ _ _ _ _ _ (St.preM hS2)).mono ?_); rintro _ w10 ⟨rfl, hk10⟩; have hS3 := St.callM hS2 hk10; clear hS hS2 hk10; have hS := hS3; clear hS3; unfold rdp37 at hS; simp only [List.cons_append, List.nil_append] at hS)) )
        try clear hC
        refine hK.out _ _ _ (fun _ h => h) (by first | exact hS | exact hS.drop | exact hS.drop.drop | exact hS.drop.drop.drop | exact hS.drop.drop.drop.drop | exact hS.empty | exact hS.one 0 rfl | exact hS.one 1 rfl | exact hS.one 2 rfl | exact hS.one 3 rfl | exact hS.one 4 rfl | exact hS.one 5 rfl | exact hS.one 6 rfl | exact hS.one 7 rfl | exact hS.one 8 rfl | exact hS.one 9 rfl | exact hS.one 10 rfl | exact hS.one 11 rfl | exact hS.toPart (by simp)) (fun hC => ?_)
        clear hK K
        try simp only [List.getElem_toArray, List.getElem_cons_succ, List.getElem_cons_zero, Act.put, List.setIfInBounds_toArray, List.set_cons_zero, List.set_cons_succ]
        refine mixs_take 13 (v := ?_) rfl (by kernel_rfl) (fun _ _ _ h => h) (by kernel_rfl) (by assumption) (fun s => ?hy) ?_; case hy => (go_simp <;> with_reducible rfl)
        try simp only [List.getElem_toArray, List.getElem_cons_succ, List.getElem_cons_zero, Act.put, List.setIfInBounds_toArray, List.set_cons_zero, List.set_cons_succ]
        refine mixs_one 16 (by kernel_rfl) rfl (fun K hK => ?_)
        go_simp
        ( (first | (go_at_call 42; (first | (with_reducible refine (cZ.out _).mono ?_) | (with_reducible refine (cG.out _ _ _ _ (hS.preM (A := [_, _, _, _]) (B := dks bd sv wv (Dk.new size)) (R := []))).mono ?_)); rintro _ _ ⟨rfl, rfl⟩) | (go_at_call 48; (with_reducible refine (cK.out _).mono ?_); rintro _ w9 ⟨rfl, hb9⟩; have hS1 := hS.keepB hb9; clear hb9 hS; have hS := hS1; clear hS1) | (go_at_call 49; have hS2 : St w [] ([_] ++ ((rdp37 (⟨.pointer (some ⟨bd, 0, none⟩), .pointer none, .int .i64 0, .int .i64 0, .int .i64 0, .int .i64 0, .int .i64 0⟩ : Pl37) g (.slice aS size cS) (.slice none 0 0) (Dk.new size) ++ dks bd sv wv (Dk.new size)) ++ [])) _ := hS; (with_reducible refine (cO.out _ _ _ _ _ _ _ (St.preM hS2)).mono ?_); rintro _ w10 ⟨rfl, hk10⟩; have hS3 := St.callM hS2 hk10; clear hS hS2 hk10; have hS := hS3; clear hS3; unfold rdp37 at hS; simp only [List.cons_append, List.nil_append] at hS)) )
        try clear hC
        refine hK.out _ _ _ (fun _ h => h) (by first | exact hS | exact hS.drop | exact hS.drop.drop | exact hS.drop.drop.drop | exact hS.drop.drop.drop.drop | exact hS.empty | exact hS.one 0 rfl | exact hS.one 1 rfl | exact hS.one 2 rfl | exact hS.one 3 rfl | exact hS.one 4 rfl | exact hS.one 5 rfl | exact hS.one 6 rfl | exact hS.one 7 rfl | exact hS.one 8 rfl | exact hS.one 9 rfl | exact hS.one 10 rfl | exact hS.one 11 rfl | exact hS.toPart (by simp)) (fun hC => ?_)
        clear hK K
        try simp only [List.getElem_toArray, List.getElem_cons_succ, List.getElem_cons_zero, Act.put, List.setIfInBounds_toArray, List.set_cons_zero, List.set_cons_succ]
        refine mixs_take 17 (v := ?_) rfl (by kernel_rfl) (fun _ _ _ h => h) (by kernel_rfl) (by assumption) (fun s => ?hy) ?_; case hy => (go_simp <;> with_reducible rfl)
        try simp only [List.getElem_toArray, List.getElem_cons_succ, List.getElem_cons_zero, Act.put, List.setIfInBounds_toArray, List.set_cons_zero, List.set_cons_succ]
        refine mixs_take 18 (v := ?_) rfl (by kernel_rfl) (fun _ _ _ h => h) (by kernel_rfl) (by assumption) (fun s => ?hy) ?_; case hy => (go_simp <;> with_reducible rfl)
        try simp only [List.getElem_toArray, List.getElem_cons_succ, List.getElem_cons_zero, Act.put, List.setIfInBounds_toArray, List.set_cons_zero, List.set_cons_succ]
        refine mixs_take 19 (v := ?_) rfl (by kernel_rfl) (fun _ _ _ h => h) (by kernel_rfl) (by assumption) (fun s => ?hy) ?_; case hy => (go_simp <;> with_reducible rfl)
        try simp only [List.getElem_toArray, List.getElem_cons_succ, List.getElem_cons_zero, Act.put, List.setIfInBounds_toArray, List.set_cons_zero, List.set_cons_succ]
        refine mixs_take 20 (v := ?_) rfl (by kernel_rfl) (fun _ _ _ h => h) (by kernel_rfl) (by assumption) (fun s => ?hy) ?_; case hy => (go_simp <;> with_reducible rfl)
        try simp only [List.getElem_toArray, List.getElem_cons_succ, List.getElem_cons_zero, Act.put, List.setIfInBounds_toArray, List.set_cons_zero, List.set_cons_succ]
        refine mixs_take 21 (v := ?_) rfl (by kernel_rfl) (fun _ _ _ h => h) (by kernel_rfl) (by assumption) (fun s => ?hy) ?_; case hy => (go_simp <;> with_reducible rfl)
        try simp only [List.getElem_toArray, List.getElem_cons_succ, List.getElem_cons_zero, Act.put, List.setIfInBounds_toArray, List.set_cons_zero, List.set_cons_succ]
        refine mixs_take 22 (v := ?_) rfl (by kernel_rfl) (fun _ _ _ h => h) (by kernel_rfl) (by assumption) (fun s => ?hy) ?_; case hy => (go_simp <;> with_reducible rfl)
        try simp only [List.getElem_toArray, List.getElem_cons_succ, List.getElem_cons_zero, Act.put, List.setIfInBounds_toArray, List.set_cons_zero, List.set_cons_succ]
        refine mixs_take 23 (v := ?_) rfl (by kernel_rfl) (fun _ _ _ h => h) (by kernel_rfl) (by assumption) (fun s => ?hy) ?_; case hy => (go_simp <;> with_reducible rfl)
        try simp only [List.getElem_toArray, List.getElem_cons_succ, List.getElem_cons_zero, Act.put, List.setIfInBounds_toArray, List.set_cons_zero, List.set_cons_succ]
        refine mixs_take 24 (v := ?_) rfl (by kernel_rfl) (fun _ _ _ h => h) (by kernel_rfl) (by assumption) (fun s => ?hy) ?_; case hy => (go_simp <;> with_reducible rfl)
        try simp only [List.getElem_toArray, List.getElem_cons_succ, List.getElem_cons_zero, Act.put, List.setIfInBounds_toArray, List.set_cons_zero, List.set_cons_succ]
        refine mixs_take 25 (v := ?_) rfl (by kernel_rfl) (fun _ _ _ h => h) (by kernel_rfl) (by assumption) (fun s => ?hy) ?_; case hy => (go_simp <;> with_reducible rfl)
        try simp only [List.getElem_toArray, List.getElem_cons_succ, List.getElem_cons_zero, Act.put, List.setIfInBounds_toArray, List.set_cons_zero, List.set_cons_succ]
        refine mixs_take 26 (v := ?_) rfl (by kernel_rfl) (fun _ _ _ h => h) (by kernel_rfl) (by assumption) (fun s => ?hy) ?_; case hy => (go_simp <;> with_reducible rfl)
        try simp only [List.getElem_toArray, List.getElem_cons_succ, List.getElem_cons_zero, Act.put, List.setIfInBounds_toArray, List.set_cons_zero, List.set_cons_succ]
        refine mixs_one 27 (by kernel_rfl) rfl (fun K hK => ?_)
        go_simp
        ( (first | (go_at_call 42; (first | (with_reducible refine (cZ.out _).mono ?_) | (with_reducible refine (cG.out _ _ _ _ (hS.preM (A := [_, _, _, _]) (B := dks bd sv wv (Dk.new size)) (R := []))).mono ?_)); rintro _ _ ⟨rfl, rfl⟩) | (go_at_call 48; (with_reducible refine (cK.out _).mono ?_); rintro _ w9 ⟨rfl, hb9⟩; have hS1 := hS.keepB hb9; clear hb9 hS; have hS := hS1; clear hS1) | (go_at_call 49; have hS2 : St w [] ([_] ++ ((rdp37 (⟨.pointer (some ⟨bd, 0, none⟩), .pointer none, .int .i64 0, .int .i64 0, .int .i64 0, .int .i64 0, .int .i64 0⟩ : Pl37) g (.slice aS size cS) (.slice none 0 0) (Dk.new size) ++ dks bd sv wv (Dk.new size)) ++ [])) _ := hS; (with_reducible refine (cO.out _ _ _ _ _ _ _ (St.preM hS2)).mono ?_); rintro _ w10 ⟨rfl, hk10⟩; have hS3 := St.callM hS2 hk10; clear hS hS2 hk10; have hS := hS3; clear hS3; unfold rdp37 at hS; simp only [List.cons_append, List.nil_append] at hS)) )
        try clear hC
        refine hK.out _ _ _ (fun _ h => h) (by first | exact hS | exact hS.drop | exact hS.drop.drop | exact hS.drop.drop.drop | exact hS.drop.drop.drop.drop | exact hS.empty | exact hS.one 0 rfl | exact hS.one 1 rfl | exact hS.one 2 rfl | exact hS.one 3 rfl | exact hS.one 4 rfl | exact hS.one 5 rfl | exact hS.one 6 rfl | exact hS.one 7 rfl | exact hS.one 8 rfl | exact hS.one 9 rfl | exact hS.one 10 rfl | exact hS.one 11 rfl | exact hS.toPart (by simp)) (fun hC => ?_)
        clear hK K
        try simp only [List.getElem_toArray, List.getElem_cons_succ, List.getElem_cons_zero, Act.put, List.setIfInBounds_toArray, List.set_cons_zero, List.set_cons_succ]
        refine mixs_take 28 (v := ?_) rfl (by kernel_rfl) (fun _ _ _ h => h) (by kernel_rfl) (by assumption) (fun s => ?hy) ?_; case hy => (go_simp <;> with_reducible rfl)
        try simp only [List.getElem_toArray, List.getElem_cons_succ, List.getElem_cons_zero, Act.put, List.setIfInBounds_toArray, List.set_cons_zero, List.set_cons_succ]
        refine mixs_take 29 (v := ?_) rfl (by kernel_rfl) (fun _ _ _ h => h) (by kernel_rfl) (by assumption) (fun s => ?hy) ?_; case hy => (go_simp <;> with_reducible rfl)
        try simp only [List.getElem_toArray, List.getElem_cons_succ, List.getElem_cons_zero, Act.put, List.setIfInBounds_toArray, List.set_cons_zero, List.set_cons_succ]
        refine mixs_take 30 (v := ?_) rfl (by kernel_rfl) (fun _ _ _ h => h) (by kernel_rfl) (by assumption) (fun s => ?hy) ?_; case hy => (go_simp <;> with_reducible rfl)
        try simp only [List.getElem_toArray, List.getElem_cons_succ, List.getElem_cons_zero, Act.put, List.setIfInBounds_toArray, List.set_cons_zero, List.set_cons_succ]
        refine mixs_take 31 (v := ?_) rfl (by kernel_rfl) (fun _ _ _ h => h) (by kernel_rfl) (by assumption) (fun s => ?hy) ?_; case hy => (go_simp <;> with_reducible rfl)
        try simp only [List.getElem_toArray, List.getElem_cons_succ, List.getElem_cons_zero, Act.put, List.setIfInBounds_toArray, List.set_cons_zero, List.set_cons_succ]
        refine mixs_take 32 (v := ?_) rfl (by kernel_rfl) (fun _ _ _ h => h) (by kernel_rfl) (by assumption) (fun s => ?hy) ?_; case hy => (go_simp <;> with_reducible rfl)
        try simp only [List.getElem_toArray, List.getElem_cons_succ, List.getElem_cons_zero, Act.put, List.setIfInBounds_toArray, List.set_cons_zero, List.set_cons_succ]
        refine mixs_one 33 (by kernel_rfl) rfl (fun K hK => ?_)
        go_simp
        ( (first | (go_at_call 42; (first | (with_reducible refine (cZ.out _).mono ?_) | (with_reducible refine (cG.out _ _ _ _ (hS.preM (A := [_, _, _, _]) (B := dks bd sv wv (Dk.new size)) (R := []))).mono ?_)); rintro _ _ ⟨rfl, rfl⟩) | (go_at_call 48; (with_reducible refine (cK.out _).mono ?_); rintro _ w9 ⟨rfl, hb9⟩; have hS1 := hS.keepB hb9; clear hb9 hS; have hS := hS1; clear hS1) | (go_at_call 49; have hS2 : St w [] ([_] ++ ((rdp37 (⟨.pointer (some ⟨bd, 0, none⟩), .pointer none, .int .i64 0, .int .i64 0, .int .i64 0, .int .i64 0, .int .i64 0⟩ : Pl37) g (.slice aS size cS) (.slice none 0 0) (Dk.new size) ++ dks bd sv wv (Dk.new size)) ++ [])) _ := hS; (with_reducible refine (cO.out _ _ _ _ _ _ _ (St.preM hS2)).mono ?_); rintro _ w10 ⟨rfl, hk10⟩; have hS3 := St.callM hS2 hk10; clear hS hS2 hk10; have hS := hS3; clear hS3; unfold rdp37 at hS; simp only [List.cons_append, List.nil_append] at hS)) )
        try clear hC
        refine hK.out _ _ _ (fun _ h => h) (by first | exact hS | exact hS.drop | exact hS.drop.drop | exact hS.drop.drop.drop | exact hS.drop.drop.drop.drop | exact hS.empty | exact hS.one 0 rfl | exact hS.one 1 rfl | exact hS.one 2 rfl | exact hS.one 3 rfl | exact hS.one 4 rfl | exact hS.one 5 rfl | exact hS.one 6 rfl | exact hS.one 7 rfl | exact hS.one 8 rfl | exact hS.one 9 rfl | exact hS.one 10 rfl | exact hS.one 11 rfl | exact hS.toPart (by simp)) (fun hC => ?_)
        clear hK K
        try simp only [List.getElem_toArray, List.getElem_cons_succ, List.getElem_cons_zero, Act.put, List.setIfInBounds_toArray, List.set_cons_zero, List.set_cons_succ]
        refine mixs_take 34 (v := ?_) rfl (by kernel_rfl) (fun _ _ _ h => h) (by kernel_rfl) (by assumption) (fun s => ?hy) ?_; case hy => (go_simp <;> with_reducible rfl)
        try simp only [List.getElem_toArray, List.getElem_cons_succ, List.getElem_cons_zero, Act.put, List.setIfInBounds_toArray, List.set_cons_zero, List.set_cons_succ]
        refine mixs_take 35 (v := ?_) rfl (by kernel_rfl) (fun _ _ _ h => h) (by kernel_rfl) (by assumption) (fun s => ?hy) ?_; case hy => (go_simp <;> with_reducible rfl)
        try simp only [List.getElem_toArray, List.getElem_cons_succ, List.getElem_cons_zero, Act.put, List.setIfInBounds_toArray, List.set_cons_zero, List.set_cons_succ]
        refine wpAnyH_done (by kernel_rfl) ?_ _
        exact ⟨rfl, hS⟩
      intro w7 hS
      go_wp2_with (first
        | (with_reducible refine wpList_box_st hS rfl rfl rfl ?_; intro g1 w1 hS1; clear hS; replace hS := hS1; clear hS1) | (with_reducible refine wpList_box1_st hS rfl rfl rfl ?_; intro g1 w1 hS1; clear hS; replace hS := hS1; clear hS1) | (with_reducible refine wpList_alloc_st hS rfl rfl (by assumption) ?_; intro g1 w1 hS1; clear hS; replace hS := hS1; clear hS1) | (with_reducible refine wpList_alloc1_st hS rfl rfl (by assumption) rfl ?_; intro g1 w1 hS1; clear hS; replace hS := hS1; clear hS1) | ((with_reducible refine wpList_load_st 0 hS rfl rfl rfl rfl ?_ rfl ?_); focus (simp [scalarB, go_sem]; done)) | ((with_reducible refine wpList_loadall_st 0 hS rfl rfl rfl rfl ?_ (by kernel_rfl) ?_); focus (simp [rowB, go_sem]; done)) | ((with_reducible refine wpList_store_st 0 hS rfl rfl rfl rfl (by kernel_rfl) rfl rfl ?_); intro w1 hS1; clear hS; replace hS := hS1; clear hS1; try simp only [List.set_cons_zero, List.set_cons_succ, List.setIfInBounds_toArray, List.take_succ_cons, List.take_zero, List.drop_succ_cons, List.drop_zero, List.nil_append, List.cons_append, List.append_nil, List.drop_nil, List.take_nil, List.length_cons, List.length_nil, Nat.zero_add, Nat.add_zero, Nat.reduceAdd] at hS) | ((with_reducible refine wpList_storerow_st 0 hS rfl rfl rfl rfl (by kernel_rfl) rfl rfl rfl rfl ?_); intro w1 hS1; clear hS; replace hS := hS1; clear hS1; try simp only [List.set_cons_zero, List.set_cons_succ, List.setIfInBounds_toArray, List.take_succ_cons, List.take_zero, List.drop_succ_cons, List.drop_zero, List.nil_append, List.cons_append, List.append_nil, List.drop_nil, List.take_nil, List.length_cons, List.length_nil, Nat.zero_add, Nat.add_zero, Nat.reduceAdd] at hS) | ((with_reducible refine wpList_load_st 1 hS rfl rfl rfl rfl ?_ rfl ?_); focus (simp [scalarB, go_sem]; done)) | ((with_reducible refine wpList_loadall_st 1 hS rfl rfl rfl rfl ?_ (by kernel_rfl) ?_); focus (simp [rowB, go_sem]; done)) | ((with_reducible refine wpList_store_st 1 hS rfl rfl rfl rfl (by kernel_rfl) rfl rfl ?_); intro w1 hS1; clear hS; replace hS := hS1; clear hS1; try simp only [List.set_cons_zero, List.set_cons_succ, List.setIfInBounds_toArray, List.take_succ_cons, List.take_zero, List.drop_succ_cons, List.drop_zero, List.nil_append, List.cons_append, List.append_nil, List.drop_nil, List.take_nil, List.length_cons, List.length_nil, Nat.zero_add, Nat.add_zero, Nat.reduceAdd] at hS) | ((with_reducible refine wpList_storerow_st 1 hS rfl rfl rfl rfl (by kernel_rfl) rfl rfl rfl rfl ?_); intro w1 hS1; clear hS; replace hS := hS1; clear hS1; try simp only [List.set_cons_zero, List.set_cons_succ, List.setIfInBounds_toArray, List.take_succ_cons, List.take_zero, List.drop_succ_cons, List.drop_zero, List.nil_append, List.cons_append, List.append_nil, List.drop_nil, List.take_nil, List.length_cons, List.length_nil, Nat.zero_add, Nat.add_zero, Nat.reduceAdd] at hS)
        | (go_at_call 41; (with_reducible refine (cA.out _).mono ?_); rintro _ w3 ⟨rfl, hb3⟩; have hS1 := hS.keepB hb3; clear hb3 hS; have hS := hS1; clear hS1))
      go_ret
      exact ⟨rfl, hS.below⟩
    | true =>
      have hbk := (ringOk_iff _ _ _ _ _).1 hok
      obtain ⟨f, rfl⟩ := Int.eq_ofNat_of_zero_le hbk.1
      obtain ⟨n, rfl⟩ := Int.eq_ofNat_of_zero_le (show 0 ≤ n by omega)
      obtain ⟨h, rfl⟩ := Int.eq_ofNat_of_zero_le hbk.2.2.2.2.1
      obtain ⟨l, rfl⟩ := Int.eq_ofNat_of_zero_le (show 0 ≤ l by omega)
      have cG : ∀ (bd : Nat) (sv wv : Value) W, St W (feet (dks bd sv wv (Dk.new size))) (dks bd sv wv (Dk.new size)) W → Calls Try.prog 42 #[.pointer (some ⟨bd, 0, none⟩), .int .i64 f, .int .i64 n, .int .i64 h, .int .i64 l] W fun e w' => ∃ g, e = .returned (.pointer (some ⟨g, 0, none⟩)) ∧ Below W.heap.size W w' := fun bd sv wv W hh => (cR bd sv wv W hh).mono fun e w' hk => by
        obtain ⟨g, h1, h2⟩ := hk.2 rfl
        exact ⟨g, h1, h2.below⟩
      have cO := fun (bd g : Nat) (sv wv rsv rwv : Value) W hh => open37_ok bd g sv wv rsv rwv (Dk.new size) (⟨.pointer (some ⟨bd, 0, none⟩), .pointer none, .int .i64 0, .int .i64 0, .int .i64 0, .int .i64 0, .int .i64 0⟩ : Pl37) f n h l size 0 W hh rfl hfit0 (by omega) (by omega) hd0 hok
      have hrO : ∀ (recs : List ByteArray) (t : Nat), (Dk.new size).Runs ⟨f, n, h, h, l⟩ 1 h recs t → Rg.Ok ⟨f, n, h, t, l⟩ size := fun recs t hh => by
        have h1 := hh.le (by simp only; omega)
        have h2 := hh.top (by omega)
        simp only at h1
        exact ⟨by simp only; omega, by simp only; omega, by simp only; omega, h2, by simp only; omega⟩
      clear cR hbk hok
      have hm60 := hQ.1
      replace cG := Lib.hid cG
      replace cO := Lib.hid cO
      replace hrO := Lib.hid hrO
      replace hfit0 := Lib.hid hfit0
      replace hQ := Lib.hid hQ
      replace hl := Lib.hid hl
      go_enter Try.func8, Try.ntmps8
      go_wp2_with (first
        | (go_at_call 47; (with_reducible refine (cL.out _ hS.below).mono ?_); rintro _ _ ⟨rfl, rfl⟩)
        | (go_at_call 11; (with_reducible refine (cN.out _).mono ?_); rintro _ w3 ⟨bd, sv, wv, rfl, hk3⟩; have hS1 := hS.made hk3; clear hS hk3; have hS : St w [] (dks bd sv wv (Dk.new size) ++ [Ch.blk gb 87 #[.int .i64 f, .int .i64 n, .int .i64 h, .int .i64 l]]) _ := hS1; clear hS1)
        | (go_at_call 13; (with_reducible refine (cM.out _).mono ?_); rintro _ w4 ⟨aS, cS, rfl, hk4⟩; have hS1 := hS.made hk4; clear hS hk4; have hS := hS1; clear hS1; simp only [List.cons_append, List.nil_append] at hS)
        | ((with_reducible refine wpList_box_st hS rfl rfl rfl ?_); intro gb w1 hS1; clear hS; have hS : St w [] [Ch.blk gb 87 #[.int .i64 f, .int .i64 n, .int .i64 h, .int .i64 l]] w1 := hS1; clear hS1)
        | ((with_reducible refine wpList_box_st hS rfl rfl rfl ?_); intro g w2 hS1; clear hS; have hS := hS1; clear hS1))
      have hS1 := hS.nilrow 141 2
      clear hS
      have hS2 := St.rot (A := _ :: _ :: _ :: dks bd sv wv (Dk.new size)) (B := [_]) (St.mid (A := []) (B := [_]) (C := [_, _]) (R := dks bd sv wv (Dk.new size) ++ [_]) hS1)
      have hS : St w [] (Ch.blk gb 87 #[.int .i64 f, .int .i64 n, .int .i64 h, .int .i64 l] :: (rdp37 (⟨.pointer (some ⟨bd, 0, none⟩), .pointer none, .int .i64 0, .int .i64 0, .int .i64 0, .int .i64 0, .int .i64 0⟩ : Pl37) g (.slice aS size cS) (.slice none 0 0) (Dk.new size) ++ (dks bd sv wv (Dk.new size) ++ []))) _ := St.nilEnd (A := Ch.blk gb 87 #[.int .i64 f, .int .i64 n, .int .i64 h, .int .i64 l] :: rdp37 (⟨.pointer (some ⟨bd, 0, none⟩), .pointer none, .int .i64 0, .int .i64 0, .int .i64 0, .int .i64 0, .int .i64 0⟩ : Pl37) g (.slice aS size cS) (.slice none 0 0) (Dk.new size)) (B := dks bd sv wv (Dk.new size)) hS2
      clear hS1 hS2 cL cN cM
      unfold rdp37 at hS
      simp only [List.cons_append, List.nil_append] at hS
      revert hS
      apply wp_cut4p
      · intro hS
        refine mixs_beginP [(0, .pointer (some ⟨bd, 0, none⟩))] (by kernel_rfl) hS (by simp) ?_
        clear hS
        intro w6 hS hC
        have kC := hC.kblk 0 rfl
        have kC1 := hC.kpart 1 rfl (0, .pointer (some ⟨bd, 0, none⟩)) (by simp)
        simp only at kC1
        refine mixs_take 0 (v := ?_) rfl (by kernel_rfl) (fun _ _ _ h => h) (by kernel_rfl) (by assumption) (fun s => ?hy) ?_; case hy => (go_simp <;> with_reducible rfl)
        try simp only [List.getElem_toArray, List.getElem_cons_succ, List.getElem_cons_zero, Act.put, List.setIfInBounds_toArray, List.set_cons_zero, List.set_cons_succ]
        refine mixs_take 1 (v := ?_) rfl (by kernel_rfl) (fun _ _ _ h => h) (by kernel_rfl) (by assumption) (fun s => ?hy) ?_; case hy => (go_simp <;> with_reducible rfl)
        try simp only [List.getElem_toArray, List.getElem_cons_succ, List.getElem_cons_zero, Act.put, List.setIfInBounds_toArray, List.set_cons_zero, List.set_cons_succ]
        refine mixs_take 2 (v := ?_) rfl (by kernel_rfl) (fun _ _ _ h => h) (by kernel_rfl) (by assumption) (fun s => ?hy) ?_; case hy => (go_simp <;> with_reducible rfl)
        try simp only [List.getElem_toArray, List.getElem_cons_succ, List.getElem_cons_zero, Act.put, List.setIfInBounds_toArray, List.set_cons_zero, List.set_cons_succ]
        refine mixs_take 3 (v := ?_) rfl (by kernel_rfl) (fun _ _ _ h => h) (by kernel_rfl) (by assumption) (fun s => ?hy) ?_; case hy => (go_simp <;> with_reducible rfl)
        try simp only [List.getElem_toArray, List.getElem_cons_succ, List.getElem_cons_zero, Act.put, List.setIfInBounds_toArray, List.set_cons_zero, List.set_cons_succ]
        refine mixs_take 4 (v := ?_) rfl (by kernel_rfl) (fun _ _ _ h => h) (by kernel_rfl) (by assumption) (fun s => ?hy) ?_; case hy => (go_simp <;> with_reducible rfl)
        try simp only [List.getElem_toArray, List.getElem_cons_succ, List.getElem_cons_zero, Act.put, List.setIfInBounds_toArray, List.set_cons_zero, List.set_cons_succ]
        refine mixs_take 5 (v := ?_) rfl (by kernel_rfl) (fun _ _ _ h => h) (by kernel_rfl) (by assumption) (fun s => ?hy) ?_; case hy => (go_simp <;> with_reducible rfl)
        try simp only [List.getElem_toArray, List.getElem_cons_succ, List.getElem_cons_zero, Act.put, List.setIfInBounds_toArray, List.set_cons_zero, List.set_cons_succ]
        refine mixs_take 6 (v := ?_) rfl (by kernel_rfl) (fun _ _ _ h => h) (by kernel_rfl) (by assumption) (fun s => ?hy) ?_; case hy => (go_simp <;> with_reducible rfl)
        try simp only [List.getElem_toArray, List.getElem_cons_succ, List.getElem_cons_zero, Act.put, List.setIfInBounds_toArray, List.set_cons_zero, List.set_cons_succ]
        refine mixs_take 7 (v := ?_) rfl (by kernel_rfl) (fun _ _ _ h => h) (by kernel_rfl) (by assumption) (fun s => ?hy) ?_; case hy => (go_simp <;> with_reducible rfl)
        try simp only [List.getElem_toArray, List.getElem_cons_succ, List.getElem_cons_zero, Act.put, List.setIfInBounds_toArray, List.set_cons_zero, List.set_cons_succ]
        refine mixs_take 8 (v := ?_) rfl (by kernel_rfl) (fun _ _ _ h => h) (by kernel_rfl) (by assumption) (fun s => ?hy) ?_; case hy => (go_simp <;> with_reducible rfl)
        try simp only [List.getElem_toArray, List.getElem_cons_succ, List.getElem_cons_zero, Act.put, List.setIfInBounds_toArray, List.set_cons_zero, List.set_cons_succ]
        refine mixs_take 9 (v := ?_) rfl (by kernel_rfl) (fun _ _ _ h => h) (by kernel_rfl) (by assumption) (fun s => ?hy) ?_; case hy => (go_simp <;> with_reducible rfl)
        try simp only [List.getElem_toArray, List.getElem_cons_succ, List.getElem_cons_zero, Act.put, List.setIfInBounds_toArray, List.set_cons_zero, List.set_cons_succ]
        refine mixs_take 10 (v := ?_) rfl (by kernel_rfl) (fun _ _ _ h => h) (by kernel_rfl) (by assumption) (fun s => ?hy) ?_; case hy => (go_simp <;> with_reducible rfl)
        try simp only [List.getElem_toArray, List.getElem_cons_succ, List.getElem_cons_zero, Act.put, List.setIfInBounds_toArray, List.set_cons_zero, List.set_cons_succ]
        refine mixs_take 11 (v := ?_) rfl (by kernel_rfl) (fun _ _ _ h => h) (by kernel_rfl) (by assumption) (fun s => ?hy) ?_; case hy => (go_simp <;> with_reducible rfl)
        try simp only [List.getElem_toArray, List.getElem_cons_succ, List.getElem_cons_zero, Act.put, List.setIfInBounds_toArray, List.set_cons_zero, List.set_cons_succ]
        refine mixs_take 14 (v := ?_) rfl (by kernel_rfl) (fun _ _ _ h => h) (by kernel_rfl) (by assumption) (fun s => ?hy) ?_; case hy => (go_simp <;> with_reducible rfl)
        try simp only [List.getElem_toArray, List.getElem_cons_succ, List.getElem_cons_zero, Act.put, List.setIfInBounds_toArray, List.set_cons_zero, List.set_cons_succ]
        refine mixs_take 15 (v := ?_) rfl (by kernel_rfl) (fun _ _ _ h => h) (by kernel_rfl) (by assumption) (fun s => ?hy) ?_; case hy => (go_simp <;> with_reducible rfl)
        try simp only [List.getElem_toArray, List.getElem_cons_succ, List.getElem_cons_zero, Act.put, List.setIfInBounds_toArray, List.set_cons_zero, List.set_cons_succ]
        refine mixs_one 12 (by kernel_rfl) rfl (fun K hK => ?_)
        go_simp
        ( (first | (go_at_call 42; (with_reducible refine (cZ.out _).mono ?_); rintro _ _ ⟨rfl, rfl⟩) | (go_at_call 42; (with_reducible refine (cG.out _ _ _ _ (hS.preM (A := [_, _, _, _]) (B := dks bd sv wv (Dk.new size)) (R := []))).mono ?_); rintro _ w8 ⟨g8, rfl, hb8⟩; have hS1 := hS.keepB hb8; clear hb8 hS; have hS := hS1; clear hS1) | (go_at_call 48; (with_reducible refine (cK.out _).mono ?_); rintro _ w9 ⟨rfl, hb9⟩; have hS1 := hS.keepB hb9; clear hb9 hS; have hS := hS1; clear hS1) | (go_at_call 49; have hS2 : St w [] ([_] ++ ((rdp37 (⟨.pointer (some ⟨bd, 0, none⟩), .pointer none, .int .i64 0, .int .i64 0, .int .i64 0, .int .i64 0, .int .i64 0⟩ : Pl37) g (.slice aS size cS) (.slice none 0 0) (Dk.new size) ++ dks bd sv wv (Dk.new size)) ++ [])) _ := hS; (with_reducible refine (cO.out _ _ _ _ _ _ _ (St.preM hS2)).mono ?_); rintro _ w10 ⟨rfl, g10, t10, recs10, hr10, hk10⟩; have hS3 := St.callM hS2 hk10; clear hS hS2 hk10; have hS := hS3; clear hS3; unfold rdp37 at hS; simp only [List.cons_append, List.nil_append] at hS)) )
        try clear hC
        refine hK.out _ _ _ (fun _ h => h) (by first | exact hS | exact hS.drop | exact hS.drop.drop | exact hS.drop.drop.drop | exact hS.drop.drop.drop.drop | exact hS.empty | exact hS.one 0 rfl | exact hS.one 1 rfl | exact hS.one 2 rfl | exact hS.one 3 rfl | exact hS.one 4 rfl | exact hS.one 5 rfl | exact hS.one 6 rfl | exact hS.one 7 rfl | exact hS.one 8 rfl | exact hS.one 9 rfl | exact hS.one 10 rfl | exact hS.one 11 rfl | exact hS.toPart (by simp)) (fun hC => ?_)
        clear hK K
        try simp only [List.getElem_toArray, List.getElem_cons_succ, List.getElem_cons_zero, Act.put, List.setIfInBounds_toArray, List.set_cons_zero, List.set_cons_succ]
        refine mixs_take 13 (v := ?_) rfl (by kernel_rfl) (fun _ _ _ h => h) (by kernel_rfl) (by assumption) (fun s => ?hy) ?_; case hy => (go_simp <;> with_reducible rfl)
        try simp only [List.getElem_toArray, List.getElem_cons_succ, List.getElem_cons_zero, Act.put, List.setIfInBounds_toArray, List.set_cons_zero, List.set_cons_succ]
        refine mixs_one 16 (by kernel_rfl) rfl (fun K hK => ?_)
        go_simp
        ( (first | (go_at_call 42; (with_reducible refine (cZ.out _).mono ?_); rintro _ _ ⟨rfl, rfl⟩) | (go_at_call 42; (with_reducible refine (cG.out _ _ _ _ (hS.preM (A := [_, _, _, _]) (B := dks bd sv wv (Dk.new size)) (R := []))).mono ?_); rintro _ w8 ⟨g8, rfl, hb8⟩; have hS1 := hS.keepB hb8; clear hb8 hS; have hS := hS1; clear hS1) | (go_at_call 48; (with_reducible refine (cK.out _).mono ?_); rintro _ w9 ⟨rfl, hb9⟩; have hS1 := hS.keepB hb9; clear hb9 hS; have hS := hS1; clear hS1) | (go_at_call 49; have hS2 : St w [] ([_] ++ ((rdp37 (⟨.pointer (some ⟨bd, 0, none⟩), .pointer none, .int .i64 0, .int .i64 0, .int .i64 0, .int .i64 0, .int .i64 0⟩ : Pl37) g (.slice aS size cS) (.slice none 0 0) (Dk.new size) ++ dks bd sv wv (Dk.new size)) ++ [])) _ := hS; (with_reducible refine (cO.out _ _ _ _ _ _ _ (St.preM hS2)).mono ?_); rintro _ w10 ⟨rfl, g10, t10, recs10, hr10, hk10⟩; have hS3 := St.callM hS2 hk10; clear hS hS2 hk10; have hS := hS3; clear hS3; unfold rdp37 at hS; simp only [List.cons_append, List.nil_append] at hS)) )
        try clear hC
        refine hK.out _ _ _ (fun _ h => h) (by first | exact hS | exact hS.drop | exact hS.drop.drop | exact hS.drop.drop.drop | exact hS.drop.drop.drop.drop | exact hS.empty | exact hS.one 0 rfl | exact hS.one 1 rfl | exact hS.one 2 rfl | exact hS.one 3 rfl | exact hS.one 4 rfl | exact hS.one 5 rfl | exact hS.one 6 rfl | exact hS.one 7 rfl | exact hS.one 8 rfl | exact hS.one 9 rfl | exact hS.one 10 rfl | exact hS.one 11 rfl | exact hS.toPart (by simp)) (fun hC => ?_)
        clear hK K
        try simp only [List.getElem_toArray, List.getElem_cons_succ, List.getElem_cons_zero, Act.put, List.setIfInBounds_toArray, List.set_cons_zero, List.set_cons_succ]
        refine mixs_take 17 (v := ?_) rfl (by kernel_rfl) (fun _ _ _ h => h) (by kernel_rfl) (by assumption) (fun s => ?hy) ?_; case hy => (go_simp <;> with_reducible rfl)
        try simp only [List.getElem_toArray, List.getElem_cons_succ, List.getElem_cons_zero, Act.put, List.setIfInBounds_toArray, List.set_cons_zero, List.set_cons_succ]
        refine mixs_take 18 (v := ?_) rfl (by kernel_rfl) (fun _ _ _ h => h) (by kernel_rfl) (by assumption) (fun s => ?hy) ?_; case hy => (go_simp <;> with_reducible rfl)
        try simp only [List.getElem_toArray, List.getElem_cons_succ, List.getElem_cons_zero, Act.put, List.setIfInBounds_toArray, List.set_cons_zero, List.set_cons_succ]
        refine mixs_take 19 (v := ?_) rfl (by kernel_rfl) (fun _ _ _ h => h) (by kernel_rfl) (by assumption) (fun s => ?hy) ?_; case hy => (go_simp <;> with_reducible rfl)
        try simp only [List.getElem_toArray, List.getElem_cons_succ, List.getElem_cons_zero, Act.put, List.setIfInBounds_toArray, List.set_cons_zero, List.set_cons_succ]
        refine mixs_take 20 (v := ?_) rfl (by kernel_rfl) (fun _ _ _ h => h) (by kernel_rfl) (by assumption) (fun s => ?hy) ?_; case hy => (go_simp <;> with_reducible rfl)
        try simp only [List.getElem_toArray, List.getElem_cons_succ, List.getElem_cons_zero, Act.put, List.setIfInBounds_toArray, List.set_cons_zero, List.set_cons_succ]
        refine mixs_take 21 (v := ?_) rfl (by kernel_rfl) (fun _ _ _ h => h) (by kernel_rfl) (by assumption) (fun s => ?hy) ?_; case hy => (go_simp <;> with_reducible rfl)
        try simp only [List.getElem_toArray, List.getElem_cons_succ, List.getElem_cons_zero, Act.put, List.setIfInBounds_toArray, List.set_cons_zero, List.set_cons_succ]
        refine mixs_take 22 (v := ?_) rfl (by kernel_rfl) (fun _ _ _ h => h) (by kernel_rfl) (by assumption) (fun s => ?hy) ?_; case hy => (go_simp <;> with_reducible rfl)
        try simp only [List.getElem_toArray, List.getElem_cons_succ, List.getElem_cons_zero, Act.put, List.setIfInBounds_toArray, List.set_cons_zero, List.set_cons_succ]
        refine mixs_take 23 (v := ?_) rfl (by kernel_rfl) (fun _ _ _ h => h) (by kernel_rfl) (by assumption) (fun s => ?hy) ?_; case hy => (go_simp <;> with_reducible rfl)
        try simp only [List.getElem_toArray, List.getElem_cons_succ, List.getElem_cons_zero, Act.put, List.setIfInBounds_toArray, List.set_cons_zero, List.set_cons_succ]
        refine mixs_take 24 (v := ?_) rfl (by kernel_rfl) (fun _ _ _ h => h) (by kernel_rfl) (by assumption) (fun s => ?hy) ?_; case hy => (go_simp <;> with_reducible rfl)
        try simp only [List.getElem_toArray, List.getElem_cons_succ, List.getElem_cons_zero, Act.put, List.setIfInBounds_toArray, List.set_cons_zero, List.set_cons_succ]
        refine mixs_take 25 (v := ?_) rfl (by kernel_rfl) (fun _ _ _ h => h) (by kernel_rfl) (by assumption) (fun s => ?hy) ?_; case hy => (go_simp <;> with_reducible rfl)
        try simp only [List.getElem_toArray, List.getElem_cons_succ, List.getElem_cons_zero, Act.put, List.setIfInBounds_toArray, List.set_cons_zero, List.set_cons_succ]
        refine mixs_take 26 (v := ?_) rfl (by kernel_rfl) (fun _ _ _ h => h) (by kernel_rfl) (by assumption) (fun s => ?hy) ?_; case hy => (go_simp <;> with_reducible rfl)
        try simp only [List.getElem_toArray, List.getElem_cons_succ, List.getElem_cons_zero, Act.put, List.setIfInBounds_toArray, List.set_cons_zero, List.set_cons_succ]
        refine mixs_one 27 (by kernel_rfl) rfl (fun K hK => ?_)
        go_simp
        ( (first | (go_at_call 42; (with_reducible refine (cZ.out _).mono ?_); rintro _ _ ⟨rfl, rfl⟩) | (go_at_call 42; (with_reducible refine (cG.out _ _ _ _ (hS.preM (A := [_, _, _, _]) (B := dks bd sv wv (Dk.new size)) (R := []))).mono ?_); rintro _ w8 ⟨g8, rfl, hb8⟩; have hS1 := hS.keepB hb8; clear hb8 hS; have hS := hS1; clear hS1) | (go_at_call 48; (with_reducible refine (cK.out _).mono ?_); rintro _ w9 ⟨rfl, hb9⟩; have hS1 := hS.keepB hb9; clear hb9 hS; have hS := hS1; clear hS1) | (go_at_call 49; have hS2 : St w [] ([_] ++ ((rdp37 (⟨.pointer (some ⟨bd, 0, none⟩), .pointer none, .int .i64 0, .int .i64 0, .int .i64 0, .int .i64 0, .int .i64 0⟩ : Pl37) g (.slice aS size cS) (.slice none 0 0) (Dk.new size) ++ dks bd sv wv (Dk.new size)) ++ [])) _ := hS; (with_reducible refine (cO.out _ _ _ _ _ _ _ (St.preM hS2)).mono ?_); rintro _ w10 ⟨rfl, g10, t10, recs10, hr10, hk10⟩; have hS3 := St.callM hS2 hk10; clear hS hS2 hk10; have hS := hS3; clear hS3; unfold rdp37 at hS; simp only [List.cons_append, List.nil_append] at hS)) )
        try clear hC
        refine hK.out _ _ _ (fun _ h => h) (by first | exact hS | exact hS.drop | exact hS.drop.drop | exact hS.drop.drop.drop | exact hS.drop.drop.drop.drop | exact hS.empty | exact hS.one 0 rfl | exact hS.one 1 rfl | exact hS.one 2 rfl | exact hS.one 3 rfl | exact hS.one 4 rfl | exact hS.one 5 rfl | exact hS.one 6 rfl | exact hS.one 7 rfl | exact hS.one 8 rfl | exact hS.one 9 rfl | exact hS.one 10 rfl | exact hS.one 11 rfl | exact hS.toPart (by simp)) (fun hC => ?_)
        clear hK K
        try simp only [List.getElem_toArray, List.getElem_cons_succ, List.getElem_cons_zero, Act.put, List.setIfInBounds_toArray, List.set_cons_zero, List.set_cons_succ]
        refine mixs_take 28 (v := ?_) rfl (by kernel_rfl) (fun _ _ _ h => h) (by kernel_rfl) (by assumption) (fun s => ?hy) ?_; case hy => (go_simp <;> with_reducible rfl)
        try simp only [List.getElem_toArray, List.getElem_cons_succ, List.getElem_cons_zero, Act.put, List.setIfInBounds_toArray, List.set_cons_zero, List.set_cons_succ]
        refine mixs_take 29 (v := ?_) rfl (by kernel_rfl) (fun _ _ _ h => h) (by kernel_rfl) (by assumption) (fun s => ?hy) ?_; case hy => (go_simp <;> with_reducible rfl)
        try simp only [List.getElem_toArray, List.getElem_cons_succ, List.getElem_cons_zero, Act.put, List.setIfInBounds_toArray, List.set_cons_zero, List.set_cons_succ]
        refine mixs_take 30 (v := ?_) rfl (by kernel_rfl) (fun _ _ _ h => h) (by kernel_rfl) (by assumption) (fun s => ?hy) ?_; case hy => (go_simp <;> with_reducible rfl)
        try simp only [List.getElem_toArray, List.getElem_cons_succ, List.getElem_cons_zero, Act.put, List.setIfInBounds_toArray, List.set_cons_zero, List.set_cons_succ]
        refine mixs_take 31 (v := ?_) rfl (by kernel_rfl) (fun _ _ _ h => h) (by kernel_rfl) (by assumption) (fun s => ?hy) ?_; case hy => (go_simp <;> with_reducible rfl)
        try simp only [List.getElem_toArray, List.getElem_cons_succ, List.getElem_cons_zero, Act.put, List.setIfInBounds_toArray, List.set_cons_zero, List.set_cons_succ]
        refine mixs_take 32 (v := ?_) rfl (by kernel_rfl) (fun _ _ _ h => h) (by kernel_rfl) (by assumption) (fun s => ?hy) ?_; case hy => (go_simp <;> with_reducible rfl)
        try simp only [List.getElem_toArray, List.getElem_cons_succ, List.getElem_cons_zero, Act.put, List.setIfInBounds_toArray, List.set_cons_zero, List.set_cons_succ]
        refine mixs_one 33 (by kernel_rfl) rfl (fun K hK => ?_)
        go_simp
        ( (first | (go_at_call 42; (with_reducible refine (cZ.out _).mono ?_); rintro _ _ ⟨rfl, rfl⟩) | (go_at_call 42; (with_reducible refine (cG.out _ _ _ _ (hS.preM (A := [_, _, _, _]) (B := dks bd sv wv (Dk.new size)) (R := []))).mono ?_); rintro _ w8 ⟨g8, rfl, hb8⟩; have hS1 := hS.keepB hb8; clear hb8 hS; have hS := hS1; clear hS1) | (go_at_call 48; (with_reducible refine (cK.out _).mono ?_); rintro _ w9 ⟨rfl, hb9⟩; have hS1 := hS.keepB hb9; clear hb9 hS; have hS := hS1; clear hS1) | (go_at_call 49; have hS2 : St w [] ([_] ++ ((rdp37 (⟨.pointer (some ⟨bd, 0, none⟩), .pointer none, .int .i64 0, .int .i64 0, .int .i64 0, .int .i64 0, .int .i64 0⟩ : Pl37) g (.slice aS size cS) (.slice none 0 0) (Dk.new size) ++ dks bd sv wv (Dk.new size)) ++ [])) _ := hS; (with_reducible refine (cO.out _ _ _ _ _ _ _ (St.preM hS2)).mono ?_); rintro _ w10 ⟨rfl, g10, t10, recs10, hr10, hk10⟩; have hS3 := St.callM hS2 hk10; clear hS hS2 hk10; have hS := hS3; clear hS3; unfold rdp37 at hS; simp only [List.cons_append, List.nil_append] at hS)) )
        try clear hC
        refine hK.out _ _ _ (fun _ h => h) (by first | exact hS | exact hS.drop | exact hS.drop.drop | exact hS.drop.drop.drop | exact hS.drop.drop.drop.drop | exact hS.empty | exact hS.one 0 rfl | exact hS.one 1 rfl | exact hS.one 2 rfl | exact hS.one 3 rfl | exact hS.one 4 rfl | exact hS.one 5 rfl | exact hS.one 6 rfl | exact hS.one 7 rfl | exact hS.one 8 rfl | exact hS.one 9 rfl | exact hS.one 10 rfl | exact hS.one 11 rfl | exact hS.toPart (by simp)) (fun hC => ?_)
        clear hK K
        try simp only [List.getElem_toArray, List.getElem_cons_succ, List.getElem_cons_zero, Act.put, List.setIfInBounds_toArray, List.set_cons_zero, List.set_cons_succ]
        refine mixs_take 34 (v := ?_) rfl (by kernel_rfl) (fun _ _ _ h => h) (by kernel_rfl) (by assumption) (fun s => ?hy) ?_; case hy => (go_simp <;> with_reducible rfl)
        try simp only [List.getElem_toArray, List.getElem_cons_succ, List.getElem_cons_zero, Act.put, List.setIfInBounds_toArray, List.set_cons_zero, List.set_cons_succ]
        refine mixs_take 35 (v := ?_) rfl (by kernel_rfl) (fun _ _ _ h => h) (by kernel_rfl) (by assumption) (fun s => ?hy) ?_; case hy => (go_simp <;> with_reducible rfl)
        try simp only [List.getElem_toArray, List.getElem_cons_succ, List.getElem_cons_zero, Act.put, List.setIfInBounds_toArray, List.set_cons_zero, List.set_cons_succ]
        refine wpAnyH_done (by kernel_rfl) ?_ _
        exact ⟨g10, t10, recs10, g8, rfl, hr10, hS⟩
      intro g2 t recs g8 w7 hruns hS
      have hrOk := hrO.out _ _ hruns
      clear hrO hruns cG cO cZ cK
      go_wp2_with (first | (with_reducible refine wpList_box_st hS rfl rfl rfl ?_; intro g1 w1 hS1; clear hS; replace hS := hS1; clear hS1) | (with_reducible refine wpList_box1_st hS rfl rfl rfl ?_; intro g1 w1 hS1; clear hS; replace hS := hS1; clear hS1) | (with_reducible refine wpList_alloc_st hS rfl rfl (by assumption) ?_; intro g1 w1 hS1; clear hS; replace hS := hS1; clear hS1) | (with_reducible refine wpList_alloc1_st hS rfl rfl (by assumption) rfl ?_; intro g1 w1 hS1; clear hS; replace hS := hS1; clear hS1) | ((with_reducible refine wpList_load_st 0 hS rfl rfl rfl rfl ?_ rfl ?_); focus (simp [scalarB, go_sem]; done)) | ((with_reducible refine wpList_loadall_st 0 hS rfl rfl rfl rfl ?_ (by kernel_rfl) ?_); focus (simp [rowB, go_sem]; done)) | ((with_reducible refine wpList_store_st 0 hS rfl rfl rfl rfl (by kernel_rfl) rfl rfl ?_); intro w1 hS1; clear hS; replace hS := hS1; clear hS1; try simp only [List.set_cons_zero, List.set_cons_succ, List.setIfInBounds_toArray, List.take_succ_cons, List.take_zero, List.drop_succ_cons, List.drop_zero, List.nil_append, List.cons_append, List.append_nil, List.drop_nil, List.take_nil, List.length_cons, List.length_nil, Nat.zero_add, Nat.add_zero, Nat.reduceAdd] at hS) | ((with_reducible refine wpList_storerow_st 0 hS rfl rfl rfl rfl (by kernel_rfl) rfl rfl rfl rfl ?_); intro w1 hS1; clear hS; replace hS := hS1; clear hS1; try simp only [List.set_cons_zero, List.set_cons_succ, List.setIfInBounds_toArray, List.take_succ_cons, List.take_zero, List.drop_succ_cons, List.drop_zero, List.nil_append, List.cons_append, List.append_nil, List.drop_nil, List.take_nil, List.length_cons, List.length_nil, Nat.zero_add, Nat.add_zero, Nat.reduceAdd] at hS) | ((with_reducible refine wpList_load_st 1 hS rfl rfl rfl rfl ?_ rfl ?_); focus (simp [scalarB, go_sem]; done)) | ((with_reducible refine wpList_loadall_st 1 hS rfl rfl rfl rfl ?_ (by kernel_rfl) ?_); focus (simp [rowB, go_sem]; done)) | ((with_reducible refine wpList_store_st 1 hS rfl rfl rfl rfl (by kernel_rfl) rfl rfl ?_); intro w1 hS1; clear hS; replace hS := hS1; clear hS1; try simp only [List.set_cons_zero, List.set_cons_succ, List.setIfInBounds_toArray, List.take_succ_cons, List.take_zero, List.drop_succ_cons, List.drop_zero, List.nil_append, List.cons_append, List.append_nil, List.drop_nil, List.take_nil, List.length_cons, List.length_nil, Nat.zero_add, Nat.add_zero, Nat.reduceAdd] at hS) | ((with_reducible refine wpList_storerow_st 1 hS rfl rfl rfl rfl (by kernel_rfl) rfl rfl rfl rfl ?_); intro w1 hS1; clear hS; replace hS := hS1; clear hS1; try simp only [List.set_cons_zero, List.set_cons_succ, List.setIfInBounds_toArray, List.take_succ_cons, List.take_zero, List.drop_succ_cons, List.drop_zero, List.nil_append, List.cons_append, List.append_nil, List.drop_nil, List.take_nil, List.length_cons, List.length_nil, Nat.zero_add, Nat.add_zero, Nat.reduceAdd] at hS))
      go_loopg [9] m (fun gk vi wr => ∃ (j g2 : Nat) (sv wv rsv rwv : Value) (d : Dk) (r : Rg), j + gk = m ∧ vi = .int .i64 (j : Nat) ∧ r.Ok size ∧ d.Fit size (10 * j) ∧ St w [] (plays g bd g2 sv wv rsv rwv d r ++ []) wr)
      case atStart => exact ⟨0, g2, sv, wv, _, _, Dk.new size, _, by omega, rfl, hrOk, hfit0.out, by simpa [plays, rdp37, dks] using hS.drop⟩
      case round =>
        clear hS hrOk hfit0
        obtain ⟨j, g2, sv, wv, rsv, rwv, d, r, hj, rfl, hr, hfit, hS⟩ := hrel
        by_cases hlt : j < m
        · have hj1 : j < acts.length := by have := hl.out.len; omega
          obtain ⟨b1, o1, rfl, hc⟩ := hl.out.get j hj1
          have z0 := hS.old (hc 0 _ rfl) (by simp)
          have z1 := hS.old (hc 1 _ rfl) (by simp)
          have z2 := hS.old (hc 2 _ rfl) (by simp)
          have z3 := hS.old (hc 3 _ rfl) (by simp)
          have z4 := hS.old (hc 4 _ rfl) (by simp)
          rw [show o1 + (j * 5 + 0) = o1 + j * 5 by omega] at z0
          rw [show o1 + (j * 5 + 1) = o1 + j * 5 + 1 by omega] at z1
          rw [show o1 + (j * 5 + 2) = o1 + j * 5 + 2 by omega] at z2
          rw [show o1 + (j * 5 + 3) = o1 + j * 5 + 3 by omega] at z3
          rw [show o1 + (j * 5 + 4) = o1 + j * 5 + 4 by omega] at z4
          clear hc
          have hm := hl.out.mem acts[j] (List.getElem_mem hj1)
          have hq := hQ.out.2 acts[j] (List.getElem_mem hj1)
          generalize acts[j] = x at z0 z1 z2 z3 z4 hm hq
          have hap : ∀ (L : List Ch) (W : World), St w [] L W → 0 < x.keep.length → ∀ b o, x.a = some ⟨b, o, none⟩ → b ∉ feet L := fun L W hh h0 b o e => by
            obtain ⟨b', o', e', hc'⟩ := hm.sl 0 (by simpa using h0)
            rw [e] at e'
            cases e'
            exact hh.oldoff (World.block_lt_of_cell? w _ hc')
          have cD := fun (W : World) (hh : St w [] (plays g bd g2 sv wv rsv rwv d r ++ []) W) => does37_any bd g g2 sv wv rsv rwv d r size (10 * j) x.kind x.n x.s x.a x.keep x.kc x.c W (hh.preM (A := []) (B := plays g bd g2 sv wv rsv rwv d r) (R := [])) hr hfit (by omega) (by omega) hm.n hq.1 (hm.sl.old hh (by simp)) (fun z hz => (hm.keep z hz).2) (Nat.le_trans hm.le hm.cm) (fun h0 b o e => (feet_off (hap _ W hh h0 b o e)).1)
          clear hap hm hq hr hfit
          replace cD := Lib.hid cD
          unfold vb at cD z4
          have hlI : (j : Int) < m := by omega
          go_wp2_with (first
            | (go_at_call 50; (with_reducible refine (cD.out _ hS).mono ?_); rintro _ w8 ⟨rfl, g3, sv3, wv3, rsv3, rwv3, d3, r3, hr3, hfit3, hk8⟩; have hS1 := hS.callM (A := []) (B := plays g bd g2 sv wv rsv rwv d r) (R := []) hk8; clear hS hk8; have hS := hS1; clear hS1))
          clear z0 z1 z2 z3 z4 cD
          have cF := fun W hh => rgfree_any g3 bd r3 size W hh hr3 (by omega)
          have cf := fun W => rfree37_any r3 size W hr3 (by omega)
          have cT := fun W hh => rgtail_any g3 bd r3 W hh
          have cH := fun W hh => rghead_any g3 bd r3 W hh
          unfold plays rdp37 at hS
          simp only [List.cons_append, List.nil_append] at hS
          replace cF := Lib.hid cF
          replace cf := Lib.hid cf
          replace cT := Lib.hid cT
          replace cH := Lib.hid cH
          replace hr3 := Lib.hid hr3
          revert hS
          apply wp_cut0
          · intro hS
            have k0 := hS.kblk 0 rfl
            refine mixs_begin (by kernel_rfl) hS ?_
            clear hS
            intro w6 hS
            refine mixs_take 0 (v := ?_) rfl (by kernel_rfl) (fun _ _ _ h => h) (by kernel_rfl) (by assumption) (fun s => ?hy) ?_; case hy => (go_simp <;> with_reducible rfl)
            try simp only [List.getElem_toArray, List.getElem_cons_succ, List.getElem_cons_zero, Act.put, List.setIfInBounds_toArray, List.set_cons_zero, List.set_cons_succ]
            refine mixs_take 1 (v := ?_) rfl (by kernel_rfl) (fun _ _ _ h => h) (by kernel_rfl) (by assumption) (fun s => ?hy) ?_; case hy => (go_simp <;> with_reducible rfl)
            try simp only [List.getElem_toArray, List.getElem_cons_succ, List.getElem_cons_zero, Act.put, List.setIfInBounds_toArray, List.set_cons_zero, List.set_cons_succ]
            refine mixs_take 2 (v := ?_) rfl (by kernel_rfl) (fun _ _ _ h => h) (by kernel_rfl) (by assumption) (fun s => ?hy) ?_; case hy => (go_simp <;> with_reducible rfl)
            try simp only [List.getElem_toArray, List.getElem_cons_succ, List.getElem_cons_zero, Act.put, List.setIfInBounds_toArray, List.set_cons_zero, List.set_cons_succ]
            refine mixs_take 3 (v := ?_) rfl (by kernel_rfl) (fun _ _ _ h => h) (by kernel_rfl) (by assumption) (fun s => ?hy) ?_; case hy => (go_simp <;> with_reducible rfl)
            try simp only [List.getElem_toArray, List.getElem_cons_succ, List.getElem_cons_zero, Act.put, List.setIfInBounds_toArray, List.set_cons_zero, List.set_cons_succ]
            refine mixs_take 5 (v := ?_) rfl (by kernel_rfl) (fun _ _ _ h => h) (by kernel_rfl) (by assumption) (fun s => ?hy) ?_; case hy => (go_simp <;> with_reducible rfl)
            try simp only [List.getElem_toArray, List.getElem_cons_succ, List.getElem_cons_zero, Act.put, List.setIfInBounds_toArray, List.set_cons_zero, List.set_cons_succ]
            refine mixs_take 6 (v := ?_) rfl (by kernel_rfl) (fun _ _ _ h => h) (by kernel_rfl) (by assumption) (fun s => ?hy) ?_; case hy => (go_simp <;> with_reducible rfl)
            try simp only [List.getElem_toArray, List.getElem_cons_succ, List.getElem_cons_zero, Act.put, List.setIfInBounds_toArray, List.set_cons_zero, List.set_cons_succ]
            refine mixs_take 7 (v := ?_) rfl (by kernel_rfl) (fun _ _ _ h => h) (by kernel_rfl) (by assumption) (fun s => ?hy) ?_; case hy => (go_simp <;> with_reducible rfl)
            try simp only [List.getElem_toArray, List.getElem_cons_succ, List.getElem_cons_zero, Act.put, List.setIfInBounds_toArray, List.set_cons_zero, List.set_cons_succ]
            refine mixs_take 8 (v := ?_) rfl (by kernel_rfl) (fun _ _ _ h => h) (by kernel_rfl) (by assumption) (fun s => ?hy) ?_; case hy => (go_simp <;> with_reducible rfl)
            try simp only [List.getElem_toArray, List.getElem_cons_succ, List.getElem_cons_zero, Act.put, List.setIfInBounds_toArray, List.set_cons_zero, List.set_cons_succ]
            refine mixs_one 4 (by kernel_rfl) rfl (fun K hK => ?_)
            go_simp
            ( (first | (go_at_call 51; (with_reducible refine (cF.out _ (hS.preM (A := [_, _, _]) (B := [_]) (R := _))).mono ?_); rintro _ w9 ⟨rfl, hb9⟩; have hS1 := hS.keepB hb9; clear hb9 hS; have hS := hS1; clear hS1) | (go_at_call 52; (with_reducible refine (cf.out _).mono ?_); rintro _ w9 ⟨rfl, hb9⟩; have hS1 := hS.keepB hb9; clear hb9 hS; have hS := hS1; clear hS1) | (go_at_call 53; (with_reducible refine (cT.out _ (hS.preM (A := [_, _, _]) (B := [_]) (R := _))).mono ?_); rintro _ _ ⟨rfl, rfl⟩) | (go_at_call 54; (with_reducible refine (cH.out _ (hS.preM (A := [_, _, _]) (B := [_]) (R := _))).mono ?_); rintro _ _ ⟨rfl, rfl⟩)) )
            try clear hC
            refine hK.out _ _ _ (fun _ h => h) (by first | exact hS | exact hS.drop | exact hS.drop.drop | exact hS.drop.drop.drop | exact hS.drop.drop.drop.drop | exact hS.empty | exact hS.one 0 rfl | exact hS.one 1 rfl | exact hS.one 2 rfl | exact hS.one 3 rfl | exact hS.one 4 rfl | exact hS.one 5 rfl | exact hS.one 6 rfl | exact hS.one 7 rfl | exact hS.one 8 rfl | exact hS.one 9 rfl | exact hS.one 10 rfl | exact hS.one 11 rfl | exact hS.toPart (by simp)) (fun hC => ?_)
            clear hK K
            try simp only [List.getElem_toArray, List.getElem_cons_succ, List.getElem_cons_zero, Act.put, List.setIfInBounds_toArray, List.set_cons_zero, List.set_cons_succ]
            refine mixs_one 9 (by kernel_rfl) rfl (fun K hK => ?_)
            go_simp
            ( (first | (go_at_call 51; (with_reducible refine (cF.out _ (hS.preM (A := [_, _, _]) (B := [_]) (R := _))).mono ?_); rintro _ w9 ⟨rfl, hb9⟩; have hS1 := hS.keepB hb9; clear hb9 hS; have hS := hS1; clear hS1) | (go_at_call 52; (with_reducible refine (cf.out _).mono ?_); rintro _ w9 ⟨rfl, hb9⟩; have hS1 := hS.keepB hb9; clear hb9 hS; have hS := hS1; clear hS1) | (go_at_call 53; (with_reducible refine (cT.out _ (hS.preM (A := [_, _, _]) (B := [_]) (R := _))).mono ?_); rintro _ _ ⟨rfl, rfl⟩) | (go_at_call 54; (with_reducible refine (cH.out _ (hS.preM (A := [_, _, _]) (B := [_]) (R := _))).mono ?_); rintro _ _ ⟨rfl, rfl⟩)) )
            try clear hC
            refine hK.out _ _ _ (fun _ h => h) (by first | exact hS | exact hS.drop | exact hS.drop.drop | exact hS.drop.drop.drop | exact hS.drop.drop.drop.drop | exact hS.empty | exact hS.one 0 rfl | exact hS.one 1 rfl | exact hS.one 2 rfl | exact hS.one 3 rfl | exact hS.one 4 rfl | exact hS.one 5 rfl | exact hS.one 6 rfl | exact hS.one 7 rfl | exact hS.one 8 rfl | exact hS.one 9 rfl | exact hS.one 10 rfl | exact hS.one 11 rfl | exact hS.toPart (by simp)) (fun hC => ?_)
            clear hK K
            try simp only [List.getElem_toArray, List.getElem_cons_succ, List.getElem_cons_zero, Act.put, List.setIfInBounds_toArray, List.set_cons_zero, List.set_cons_succ]
            refine mixs_take 10 (v := ?_) rfl (by kernel_rfl) (fun _ _ _ h => h) (by kernel_rfl) (by assumption) (fun s => ?hy) ?_; case hy => (go_simp <;> with_reducible rfl)
            try simp only [List.getElem_toArray, List.getElem_cons_succ, List.getElem_cons_zero, Act.put, List.setIfInBounds_toArray, List.set_cons_zero, List.set_cons_succ]
            refine mixs_take 11 (v := ?_) rfl (by kernel_rfl) (fun _ _ _ h => h) (by kernel_rfl) (by assumption) (fun s => ?hy) ?_; case hy => (go_simp <;> with_reducible rfl)
            try simp only [List.getElem_toArray, List.getElem_cons_succ, List.getElem_cons_zero, Act.put, List.setIfInBounds_toArray, List.set_cons_zero, List.set_cons_succ]
            refine mixs_take 12 (v := ?_) rfl (by kernel_rfl) (fun _ _ _ h => h) (by kernel_rfl) (by assumption) (fun s => ?hy) ?_; case hy => (go_simp <;> with_reducible rfl)
            try simp only [List.getElem_toArray, List.getElem_cons_succ, List.getElem_cons_zero, Act.put, List.setIfInBounds_toArray, List.set_cons_zero, List.set_cons_succ]
            refine mixs_take 13 (v := ?_) rfl (by kernel_rfl) (fun _ _ _ h => h) (by kernel_rfl) (by assumption) (fun s => ?hy) ?_; case hy => (go_simp <;> with_reducible rfl)
            try simp only [List.getElem_toArray, List.getElem_cons_succ, List.getElem_cons_zero, Act.put, List.setIfInBounds_toArray, List.set_cons_zero, List.set_cons_succ]
            refine mixs_take 14 (v := ?_) rfl (by kernel_rfl) (fun _ _ _ h => h) (by kernel_rfl) (by assumption) (fun s => ?hy) ?_; case hy => (go_simp <;> with_reducible rfl)
            try simp only [List.getElem_toArray, List.getElem_cons_succ, List.getElem_cons_zero, Act.put, List.setIfInBounds_toArray, List.set_cons_zero, List.set_cons_succ]
            refine mixs_take 15 (v := ?_) rfl (by kernel_rfl) (fun _ _ _ h => h) (by kernel_rfl) (by assumption) (fun s => ?hy) ?_; case hy => (go_simp <;> with_reducible rfl)
            try simp only [List.getElem_toArray, List.getElem_cons_succ, List.getElem_cons_zero, Act.put, List.setIfInBounds_toArray, List.set_cons_zero, List.set_cons_succ]
            refine mixs_take 17 (v := ?_) rfl (by kernel_rfl) (fun _ _ _ h => h) (by kernel_rfl) (by assumption) (fun s => ?hy) ?_; case hy => (go_simp <;> with_reducible rfl)
            try simp only [List.getElem_toArray, List.getElem_cons_succ, List.getElem_cons_zero, Act.put, List.setIfInBounds_toArray, List.set_cons_zero, List.set_cons_succ]
            refine mixs_take 18 (v := ?_) rfl (by kernel_rfl) (fun _ _ _ h => h) (by kernel_rfl) (by assumption) (fun s => ?hy) ?_; case hy => (go_simp <;> with_reducible rfl)
            try simp only [List.getElem_toArray, List.getElem_cons_succ, List.getElem_cons_zero, Act.put, List.setIfInBounds_toArray, List.set_cons_zero, List.set_cons_succ]
            refine mixs_take 19 (v := ?_) rfl (by kernel_rfl) (fun _ _ _ h => h) (by kernel_rfl) (by assumption) (fun s => ?hy) ?_; case hy => (go_simp <;> with_reducible rfl)
            try simp only [List.getElem_toArray, List.getElem_cons_succ, List.getElem_cons_zero, Act.put, List.setIfInBounds_toArray, List.set_cons_zero, List.set_cons_succ]
            refine mixs_take 20 (v := ?_) rfl (by kernel_rfl) (fun _ _ _ h => h) (by kernel_rfl) (by assumption) (fun s => ?hy) ?_; case hy => (go_simp <;> with_reducible rfl)
            try simp only [List.getElem_toArray, List.getElem_cons_succ, List.getElem_cons_zero, Act.put, List.setIfInBounds_toArray, List.set_cons_zero, List.set_cons_succ]
            refine mixs_take 21 (v := ?_) rfl (by kernel_rfl) (fun _ _ _ h => h) (by kernel_rfl) (by assumption) (fun s => ?hy) ?_; case hy => (go_simp <;> with_reducible rfl)
            try simp only [List.getElem_toArray, List.getElem_cons_succ, List.getElem_cons_zero, Act.put, List.setIfInBounds_toArray, List.set_cons_zero, List.set_cons_succ]
            refine mixs_one 16 (by kernel_rfl) rfl (fun K hK => ?_)
            go_simp
            ( (first | (go_at_call 51; (with_reducible refine (cF.out _ (hS.preM (A := [_, _, _]) (B := [_]) (R := _))).mono ?_); rintro _ w9 ⟨rfl, hb9⟩; have hS1 := hS.keepB hb9; clear hb9 hS; have hS := hS1; clear hS1) | (go_at_call 52; (with_reducible refine (cf.out _).mono ?_); rintro _ w9 ⟨rfl, hb9⟩; have hS1 := hS.keepB hb9; clear hb9 hS; have hS := hS1; clear hS1) | (go_at_call 53; (with_reducible refine (cT.out _ (hS.preM (A := [_, _, _]) (B := [_]) (R := _))).mono ?_); rintro _ _ ⟨rfl, rfl⟩) | (go_at_call 54; (with_reducible refine (cH.out _ (hS.preM (A := [_, _, _]) (B := [_]) (R := _))).mono ?_); rintro _ _ ⟨rfl, rfl⟩)) )
            try clear hC
            refine hK.out _ _ _ (fun _ h => h) (by first | exact hS | exact hS.drop | exact hS.drop.drop | exact hS.drop.drop.drop | exact hS.drop.drop.drop.drop | exact hS.empty | exact hS.one 0 rfl | exact hS.one 1 rfl | exact hS.one 2 rfl | exact hS.one 3 rfl | exact hS.one 4 rfl | exact hS.one 5 rfl | exact hS.one 6 rfl | exact hS.one 7 rfl | exact hS.one 8 rfl | exact hS.one 9 rfl | exact hS.one 10 rfl | exact hS.one 11 rfl | exact hS.toPart (by simp)) (fun hC => ?_)
            clear hK K
            try simp only [List.getElem_toArray, List.getElem_cons_succ, List.getElem_cons_zero, Act.put, List.setIfInBounds_toArray, List.set_cons_zero, List.set_cons_succ]
            refine mixs_take 22 (v := ?_) rfl (by kernel_rfl) (fun _ _ _ h => h) (by kernel_rfl) (by assumption) (fun s => ?hy) ?_; case hy => (go_simp <;> with_reducible rfl)
            try simp only [List.getElem_toArray, List.getElem_cons_succ, List.getElem_cons_zero, Act.put, List.setIfInBounds_toArray, List.set_cons_zero, List.set_cons_succ]
            refine mixs_take 23 (v := ?_) rfl (by kernel_rfl) (fun _ _ _ h => h) (by kernel_rfl) (by assumption) (fun s => ?hy) ?_; case hy => (go_simp <;> with_reducible rfl)
            try simp only [List.getElem_toArray, List.getElem_cons_succ, List.getElem_cons_zero, Act.put, List.setIfInBounds_toArray, List.set_cons_zero, List.set_cons_succ]
            refine mixs_take 24 (v := ?_) rfl (by kernel_rfl) (fun _ _ _ h => h) (by kernel_rfl) (by assumption) (fun s => ?hy) ?_; case hy => (go_simp <;> with_reducible rfl)
            try simp only [List.getElem_toArray, List.getElem_cons_succ, List.getElem_cons_zero, Act.put, List.setIfInBounds_toArray, List.set_cons_zero, List.set_cons_succ]
            refine mixs_take 25 (v := ?_) rfl (by kernel_rfl) (fun _ _ _ h => h) (by kernel_rfl) (by assumption) (fun s => ?hy) ?_; case hy => (go_simp <;> with_reducible rfl)
            try simp only [List.getElem_toArray, List.getElem_cons_succ, List.getElem_cons_zero, Act.put, List.setIfInBounds_toArray, List.set_cons_zero, List.set_cons_succ]
            refine mixs_take 26 (v := ?_) rfl (by kernel_rfl) (fun _ _ _ h => h) (by kernel_rfl) (by assumption) (fun s => ?hy) ?_; case hy => (go_simp <;> with_reducible rfl)
            try simp only [List.getElem_toArray, List.getElem_cons_succ, List.getElem_cons_zero, Act.put, List.setIfInBounds_toArray, List.set_cons_zero, List.set_cons_succ]
            refine mixs_take 27 (v := ?_) rfl (by kernel_rfl) (fun _ _ _ h => h) (by kernel_rfl) (by assumption) (fun s => ?hy) ?_; case hy => (go_simp <;> with_reducible rfl)
            try simp only [List.getElem_toArray, List.getElem_cons_succ, List.getElem_cons_zero, Act.put, List.setIfInBounds_toArray, List.set_cons_zero, List.set_cons_succ]
            refine mixs_take 28 (v := ?_) rfl (by kernel_rfl) (fun _ _ _ h => h) (by kernel_rfl) (by assumption) (fun s => ?hy) ?_; case hy => (go_simp <;> with_reducible rfl)
            try simp only [List.getElem_toArray, List.getElem_cons_succ, List.getElem_cons_zero, Act.put, List.setIfInBounds_toArray, List.set_cons_zero, List.set_cons_succ]
            refine mixs_take 30 (v := ?_) rfl (by kernel_rfl) (fun _ _ _ h => h) (by kernel_rfl) (by assumption) (fun s => ?hy) ?_; case hy => (go_simp <;> with_reducible rfl)
            try simp only [List.getElem_toArray, List.getElem_cons_succ, List.getElem_cons_zero, Act.put, List.setIfInBounds_toArray, List.set_cons_zero, List.set_cons_succ]
            refine mixs_take 31 (v := ?_) rfl (by kernel_rfl) (fun _ _ _ h => h) (by kernel_rfl) (by assumption) (fun s => ?hy) ?_; case hy => (go_simp <;> with_reducible rfl)
            try simp only [List.getElem_toArray, List.getElem_cons_succ, List.getElem_cons_zero, Act.put, List.setIfInBounds_toArray, List.set_cons_zero, List.set_cons_succ]
            refine mixs_take 32 (v := ?_) rfl (by kernel_rfl) (fun _ _ _ h => h) (by kernel_rfl) (by assumption) (fun s => ?hy) ?_; case hy => (go_simp <;> with_reducible rfl)
            try simp only [List.getElem_toArray, List.getElem_cons_succ, List.getElem_cons_zero, Act.put, List.setIfInBounds_toArray, List.set_cons_zero, List.set_cons_succ]
            refine mixs_take 33 (v := ?_) rfl (by kernel_rfl) (fun _ _ _ h => h) (by kernel_rfl) (by assumption) (fun s => ?hy) ?_; case hy => (go_simp <;> with_reducible rfl)
            try simp only [List.getElem_toArray, List.getElem_cons_succ, List.getElem_cons_zero, Act.put, List.setIfInBounds_toArray, List.set_cons_zero, List.set_cons_succ]
            refine mixs_take 34 (v := ?_) rfl (by kernel_rfl) (fun _ _ _ h => h) (by kernel_rfl) (by assumption) (fun s => ?hy) ?_; case hy => (go_simp <;> with_reducible rfl)
            try simp only [List.getElem_toArray, List.getElem_cons_succ, List.getElem_cons_zero, Act.put, List.setIfInBounds_toArray, List.set_cons_zero, List.set_cons_succ]
            refine mixs_take 35 (v := ?_) rfl (by kernel_rfl) (fun _ _ _ h => h) (by kernel_rfl) (by assumption) (fun s => ?hy) ?_; case hy => (go_simp <;> with_reducible rfl)
            try simp only [List.getElem_toArray, List.getElem_cons_succ, List.getElem_cons_zero, Act.put, List.setIfInBounds_toArray, List.set_cons_zero, List.set_cons_succ]
            refine mixs_one 29 (by kernel_rfl) rfl (fun K hK => ?_)
            go_simp
            ( (first | (go_at_call 51; (with_reducible refine (cF.out _ (hS.preM (A := [_, _, _]) (B := [_]) (R := _))).mono ?_); rintro _ w9 ⟨rfl, hb9⟩; have hS1 := hS.keepB hb9; clear hb9 hS; have hS := hS1; clear hS1) | (go_at_call 52; (with_reducible refine (cf.out _).mono ?_); rintro _ w9 ⟨rfl, hb9⟩; have hS1 := hS.keepB hb9; clear hb9 hS; have hS := hS1; clear hS1) | (go_at_call 53; (with_reducible refine (cT.out _ (hS.preM (A := [_, _, _]) (B := [_]) (R := _))).mono ?_); rintro _ _ ⟨rfl, rfl⟩) | (go_at_call 54; (with_reducible refine (cH.out _ (hS.preM (A := [_, _, _]) (B := [_]) (R := _))).mono ?_); rintro _ _ ⟨rfl, rfl⟩)) )
            try clear hC
            refine hK.out _ _ _ (fun _ h => h) (by first | exact hS | exact hS.drop | exact hS.drop.drop | exact hS.drop.drop.drop | exact hS.drop.drop.drop.drop | exact hS.empty | exact hS.one 0 rfl | exact hS.one 1 rfl | exact hS.one 2 rfl | exact hS.one 3 rfl | exact hS.one 4 rfl | exact hS.one 5 rfl | exact hS.one 6 rfl | exact hS.one 7 rfl | exact hS.one 8 rfl | exact hS.one 9 rfl | exact hS.one 10 rfl | exact hS.one 11 rfl | exact hS.toPart (by simp)) (fun hC => ?_)
            clear hK K
            try simp only [List.getElem_toArray, List.getElem_cons_succ, List.getElem_cons_zero, Act.put, List.setIfInBounds_toArray, List.set_cons_zero, List.set_cons_succ]
            refine mixs_take 36 (v := ?_) rfl (by kernel_rfl) (fun _ _ _ h => h) (by kernel_rfl) (by assumption) (fun s => ?hy) ?_; case hy => (go_simp <;> with_reducible rfl)
            try simp only [List.getElem_toArray, List.getElem_cons_succ, List.getElem_cons_zero, Act.put, List.setIfInBounds_toArray, List.set_cons_zero, List.set_cons_succ]
            refine mixs_take 37 (v := ?_) rfl (by kernel_rfl) (fun _ _ _ h => h) (by kernel_rfl) (by assumption) (fun s => ?hy) ?_; case hy => (go_simp <;> with_reducible rfl)
            try simp only [List.getElem_toArray, List.getElem_cons_succ, List.getElem_cons_zero, Act.put, List.setIfInBounds_toArray, List.set_cons_zero, List.set_cons_succ]
            refine wpAnyH_done (by kernel_rfl) ?_ _
            exact ⟨rfl, hS⟩
          intro w9 hS
          go_wp2_with fail
          go_roundg (m - (j + 1))
          case measure => omega
          case rel => exact ⟨j + 1, g3, sv3, wv3, rsv3, rwv3, d3, r3, by omega, by go_num, hr3.out, by rw [show 10 * (j + 1) = 10 * j + 10 by omega]; exact hfit3, by simpa [plays, rdp37, dks] using hS⟩
        · have hge : (m : Int) ≤ j := by omega
          have c1 : ∀ W : World, Calls Try.prog 44 #[.pointer none, .string ⟨#[]⟩] W fun e w' => e = .returned (.int .i64 14) ∧ W = w' := fun W => rgadd_nil ⟨#[]⟩ W
          have c2 := fun W => rgmove_nil 0 W
          have c3 := fun W => rgraise_nil 1 W
          have c4 := fun W => rghead_nil W
          have c5 := fun W => rgtail_nil W
          have c6 := fun W => rgfree_nil W
          replace c1 := Lib.hid c1
          replace c2 := Lib.hid c2
          replace c3 := Lib.hid c3
          replace c4 := Lib.hid c4
          replace c5 := Lib.hid c5
          replace c6 := Lib.hid c6
          clear hr hfit hl hQ
          go_wp2_with (first
            | (go_at_call 44; (with_reducible refine (c1.out _).mono ?_); rintro _ _ ⟨rfl, rfl⟩)
            | (go_at_call 55; (with_reducible refine (c2.out _).mono ?_); rintro _ _ ⟨rfl, rfl⟩)
            | (go_at_call 56; (with_reducible refine (c3.out _).mono ?_); rintro _ _ ⟨rfl, rfl⟩)
            | (go_at_call 54; (with_reducible refine (c4.out _).mono ?_); rintro _ _ ⟨rfl, rfl⟩)
            | (go_at_call 53; (with_reducible refine (c5.out _).mono ?_); rintro _ _ ⟨rfl, rfl⟩)
            | (go_at_call 51; (with_reducible refine (c6.out _).mono ?_); rintro _ _ ⟨rfl, rfl⟩)
            | (go_at_call 41; (with_reducible refine (cA.out _).mono ?_); rintro _ w3 ⟨rfl, hb3⟩; have hS1 := hS.keepB hb3; clear hb3 hS; have hS := hS1; clear hS1))
          go_ret
          exact ⟨rfl, hS.below⟩
  · have cL : ∀ W, Below w.heap.size w W → Calls Try.prog 47 #[.slice a m c] W fun e w' => e = .returned (.bool true) ∧ W = w' := fun W hb => (long37_any a m c acts W (hl.below hb)).mono fun e w' hk => ⟨hk.1.no hQ, hk.2⟩
    replace cL := Lib.hid cL
    clear hl hQ
    go_enter Try.func8, Try.ntmps8
    go_wp2_with (first
      | (go_at_call 47; (with_reducible refine (cL.out _ hS.below).mono ?_); rintro _ _ ⟨rfl, rfl⟩)
      | (go_at_call 41; (with_reducible refine (cA.out _).mono ?_); rintro _ w3 ⟨rfl, hb3⟩; have hS1 := hS.keepB hb3; clear hb3 hS; have hS := hS1; clear hS1)
      | (with_reducible refine wpList_box_st hS rfl rfl rfl ?_; intro g1 w1 hS1; clear hS; replace hS := hS1; clear hS1) | (with_reducible refine wpList_box1_st hS rfl rfl rfl ?_; intro g1 w1 hS1; clear hS; replace hS := hS1; clear hS1) | (with_reducible refine wpList_alloc_st hS rfl rfl (by assumption) ?_; intro g1 w1 hS1; clear hS; replace hS := hS1; clear hS1) | (with_reducible refine wpList_alloc1_st hS rfl rfl (by assumption) rfl ?_; intro g1 w1 hS1; clear hS; replace hS := hS1; clear hS1) | ((with_reducible refine wpList_load_st 0 hS rfl rfl rfl rfl ?_ rfl ?_); focus (simp [scalarB, go_sem]; done)) | ((with_reducible refine wpList_loadall_st 0 hS rfl rfl rfl rfl ?_ (by kernel_rfl) ?_); focus (simp [rowB, go_sem]; done)) | ((with_reducible refine wpList_store_st 0 hS rfl rfl rfl rfl (by kernel_rfl) rfl rfl ?_); intro w1 hS1; clear hS; replace hS := hS1; clear hS1; try simp only [List.set_cons_zero, List.set_cons_succ, List.setIfInBounds_toArray, List.take_succ_cons, List.take_zero, List.drop_succ_cons, List.drop_zero, List.nil_append, List.cons_append, List.append_nil, List.drop_nil, List.take_nil, List.length_cons, List.length_nil, Nat.zero_add, Nat.add_zero, Nat.reduceAdd] at hS) | ((with_reducible refine wpList_storerow_st 0 hS rfl rfl rfl rfl (by kernel_rfl) rfl rfl rfl rfl ?_); intro w1 hS1; clear hS; replace hS := hS1; clear hS1; try simp only [List.set_cons_zero, List.set_cons_succ, List.setIfInBounds_toArray, List.take_succ_cons, List.take_zero, List.drop_succ_cons, List.drop_zero, List.nil_append, List.cons_append, List.append_nil, List.drop_nil, List.take_nil, List.length_cons, List.length_nil, Nat.zero_add, Nat.add_zero, Nat.reduceAdd] at hS))
    go_ret
    exact ⟨rfl, hS.below⟩
end Go.Proofs.Ytlhpibniecfofaa
end

section
/- Rings: where a ring stands, opened. -/
set_option linter.unusedSimpArgs false
set_option linter.unusedVariables false
namespace Go.Proofs.Ytlhpibniecfofaa
open Go.RowKit Go.Ofp Go.WideShapes
set_option linter.unusedVariables false
set_option maxRecDepth 100000
section
variable {H : Type} {enc : TypeId × Value → H}
theorem open_base {r : Reach} {b0 base : Nat} {spare : Nat → Bool} {held : Bool} {v : Value} {d : DataW H} {ms : List MemPlace} {w : World}
    (ho : Value.okWide Try.prog w r b0 87 v) (ht : DataW.Trod enc Try.prog w base spare held 87 v d ms) : ∃ f n h l : Int, v = .agg #[.int .i64 f, .int .i64 n, .int .i64 h, .int .i64 l] := by
  unfold Value.okWide at ho
  rw [Try.underlying87] at ho
  obtain ⟨cs, rfl, _⟩ := ho
  obtain ⟨fuel, hf0⟩ := ht
  obtain ⟨hl, hf⟩ := field_read Try.underlying87 hf0
  have hc : Try.prog.cellsOf 87 = 4 := by kernel_rfl
  rw [hc] at hl
  obtain ⟨n0, y0, h0⟩ := hf 0 _ rfl
  obtain ⟨n1, y1, h1⟩ := hf 1 _ rfl
  obtain ⟨n2, y2, h2⟩ := hf 2 _ rfl
  obtain ⟨n3, y3, h3⟩ := hf 3 _ rfl
  obtain ⟨z0, e0, w0⟩ := field_int Try.underlying3 (by kernel_rfl) (by rw [hl]; decide) h0
  obtain ⟨z1, e1, w1⟩ := field_int Try.underlying3 (by kernel_rfl) (by rw [hl]; decide) h1
  obtain ⟨z2, e2, w2⟩ := field_int Try.underlying3 (by kernel_rfl) (by rw [hl]; decide) h2
  obtain ⟨z3, e3, w3⟩ := field_int Try.underlying3 (by kernel_rfl) (by rw [hl]; decide) h3
  refine ⟨z0, z1, z2, z3, ?_⟩
  congr 1
  apply Array.ext'
  simp only [Value.cells] at e0 e1 e2 e3 hl ⊢
  match hcs : cs.toList, hl with
  | [c0, c1, c2, c3], _ =>
    rw [hcs] at e0 e1 e2 e3
    simp at e0 e1 e2 e3
    simp [e0, e1, e2, e3]
end
end Go.Proofs.Ytlhpibniecfofaa
end
