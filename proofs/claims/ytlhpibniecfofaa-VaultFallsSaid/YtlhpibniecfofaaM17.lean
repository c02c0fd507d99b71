/- Texts laid together: VaultFalls VaultFallsE. -/
import Derived.Deep.CutRange
import Derived.Deep.CutBlock
import Derived.Test.YtlhpibniecfofaaM16
import Derived.Test.YtlhpibniecfofaaM4
section
/- The law VaultFalls. -/
set_option linter.unusedSimpArgs false
set_option linter.unusedVariables false
namespace Go.Proofs.Ytlhpibniecfofaa
open Go.RowKit Go.Ofp
set_option linter.unusedVariables false
set_option maxRecDepth 100000
set_option maxHeartbeats 8000000
theorem wpList_rangerow39 {P : Program} {w : World} {ops : Array Oper} {rest : List Oper} {o : Oper} {a : Act} {Q : Exit → Act → World → Prop} {g j n : Nat} {vs : List Value} (hc : w.rangeAt g j vs) (hgd : o.guard = none) {t : TypeId} {x : Operand} (ho : o.op = .load t x) (hx : a.eval x = .pointer (some ⟨g, j, none⟩))
    (hu : rowB P t = true) (hsz : sizeB P t n = true) (hl : vs.length = n) (h : wpList P ops Q rest (a.put o.dst (.agg vs.toArray)) w) : wpList P ops Q (o :: rest) a w := by
  refine wpList_plain hgd fun K hK => ?_
  have hr := run_loadrow (P := P) hu hsz hl hc
  unfold Oper.wp execOp
  simp only [ho, hx, Sem.run_bind, hr, Result.andThen_ok, Sem.run_pure]
  exact hK _ _ h
theorem range_old39 {w0 w : World} {L : List Ch} (hS : St w0 [] L w) {g j : Nat} {vs : List Value} (h : w0.rangeAt g j vs) : w.rangeAt g j vs := fun i v hv => hS.old (h i v hv) (by simp)
theorem elem_ga39 : Elem Try.prog 113 (.agg #[.int .i64 0, .int .i64 0, .string ⟨#[]⟩, .slice none 0 0, .int .u8 0]) 5 64 := Elem.mk (by kernel_rfl) (by rfl) (by decide)
section
variable {P : Program} {w w0 : World} {F : List Nat} {L : List Ch} {ops : Array Oper} {o : Oper} {a : Act} {Q : Exit → Act → World → Prop} {K : Act → World → Prop}
theorem op_build0s39 (hw : Region.wanted o (yielded ops a.tmps) = true) (hS : St w0 F L w) {t : TypeId} (ho : o.op = .buildSlice t 0 #[]) {e : TypeId} (ht : P.underlying t = some (.slice e)) {z : Value} {size bytes : Nat} (he : Elem P e z size bytes)
    (h : ∀ g w', St w0 F (Ch.row e size (.slice (some ⟨g, 0, none⟩) 0 0) 0 [] :: L) w' → K (a.put o.dst (.slice (some ⟨g, 0, none⟩) 0 0)) w') : if Region.wanted o (yielded ops a.tmps) = true then Oper.wp P o a w K Q else K (a.put o.dst undef) w := by
  rw [if_pos hw]
  have hr := run_build0 (P := P) w t e ht he
  unfold Oper.wp execOp
  simp only [ho, List.map_toArray, List.map_nil, Sem.run_bind, hr, Result.andThen_ok, Sem.run_pure]
  exact h _ _ (hS.build0 e size)
end
theorem texts_one39 (l : List ByteArray) : ∀ u ∈ l.map vs, u.oneCell' = true := by
  intro u hu
  obtain ⟨s, -, rfl⟩ := List.mem_map.1 hu
  simp [vs, Value.oneCell']
theorem sl_in {w W : World} {F : List Nat} {A R B : List Ch} (h : St w F (A ++ (R ++ B)) W) (i : Nat) {e : TypeId} {size n c m : Nat} {a : Option Addr} {xs : List Value} (hi : R[i]? = some (Ch.row e size (.slice a n c) m xs)) : Sl W a xs :=
  h.rowsl (A.length + i) (by rw [List.getElem?_append_right (by omega), Nat.add_sub_cancel_left, List.getElem?_append_left (List.getElem?_eq_some_iff.1 hi).1]; exact hi)

theorem St.regroup39 {w0 w : World} {F : List Nat} {A B : List Ch} {c : Ch} (h : St w0 F (A ++ ((c :: B) ++ [])) w) : St w0 F ((A ++ [c]) ++ (B ++ [])) w := by
  rw [List.append_assoc]
  exact h
theorem sl_at39 {w0 w : World} {F : List Nat} {A B : List Ch} {e size n c m : Nat} {a : Option Addr} {xs : List Value} (h : St w0 F ((A ++ [Ch.row e size (.slice a n c) m xs]) ++ B) w) : Sl w a xs :=
  h.rowsl A.length (by rw [List.append_assoc, List.getElem?_append_right (Nat.le_refl _), Nat.sub_self]; rfl)
theorem St.drops {w0 w : World} {F : List Nat} {A B : List Ch} (h : St w0 F (A ++ B) w) : St w0 F B w := by
  induction A with
  | nil => exact h
  | cons a A ih => exact ih h.drop

theorem falls39_main (a : Option Addr) (n c : Nat) (l : List Ga) (w : World) (hG : Gas w a n c l) (hQ : ShortQ39 n l) :
    Calls Try.prog 10 #[.slice a n c] w fun e w' => e = .returned (.bool true) ∧ Below w.heap.size w w' := by
  have hS := St.start w
  have ex := elem_tx
  have ea := elem_ga39
  have cA0 := fun W : World => awake39_any W
  have cG : Calls Try.prog 65 #[.slice a n c] w fun e w' => e = .returned (.bool false) ∧ w = w' := (long39_any a n c l w hG).mono fun e w' ⟨h1, h2⟩ => ⟨h1.yes hQ, h2⟩
  have cN : ∀ W : World, Calls Try.prog 11 #[.int .i64 30] W fun e w' => ∃ bd sv wv, e = .returned (.pointer (some ⟨bd, 0, none⟩)) ∧ St W [] (dks bd sv wv (Dk.new 30)) w' := fun W => new_any 30 W (by decide) (by decide)
  have cF : ∀ (bd : Nat) (sv wv : Value) (W : World), St W (feet (dks bd sv wv (Dk.new 30))) (dks bd sv wv (Dk.new 30)) W → Calls Try.prog 58 #[.pointer (some ⟨bd, 0, none⟩), .string ⟨#[98, 101, 103, 105, 110]⟩] W fun e w' => e = .returned (.int .i64 0) ∧ ∃ wv' d, Hid (Founds d 30 ⟨1, 1, 0⟩ [wholeB ⟨#[98, 101, 103, 105, 110]⟩] 1 ∧ d.Fit 30 0) ∧ St W (feet (dks bd sv wv (Dk.new 30))) (dks bd sv wv' d) w' :=
    fun bd sv wv W hh => (vformat_new bd sv wv 30 _ W hh (by decide) (by decide) (by decide) (by decide)).mono fun e w' ⟨h1, wv', d, h2, h3, h4⟩ => ⟨h1, wv', d, Lib.hid ⟨h2, h3⟩, h4⟩
  have cO : ∀ (bd : Nat) (sv wv : Value) (d : Dk) (W : World), Hid (Founds d 30 ⟨1, 1, 0⟩ [wholeB ⟨#[98, 101, 103, 105, 110]⟩] 1 ∧ d.Fit 30 0) → St W (feet (dks bd sv wv d)) (dks bd sv wv d) W → Calls Try.prog 59 #[.pointer (some ⟨bd, 0, none⟩)] W fun e w' => ∃ g gr av cv wv' d', e = .returned (.tuple #[.pointer (some ⟨g, 0, none⟩), .string ⟨#[98, 101, 103, 105, 110]⟩, .slice av 0 cv, .int .i64 0]) ∧ Hid (FallI 0 d' ⟨2, 2, 0⟩ ⟨2, 28, 0, 1, 2⟩ ⟨#[98, 101, 103, 105, 110]⟩ []) ∧ St W (feet (dks bd sv wv d)) (Ch.row 9 1 (.slice av 0 cv) 0 [] :: vts g gr bd sv wv' d' ⟨2, 28, 0, 1, 2⟩ ⟨2, 2, 0⟩ false) w' := by
    intro bd sv wv d W hh hk
    refine (vopen_founds bd sv wv d 30 _ _ _ _ _ hh.out.1 (split_one _) hh.out.2 (by decide) (by decide) (by decide) W hk).mono ?_
    rintro e w' ⟨g, gr, v, wv', d', rfl, h2, h3, _, h4⟩
    obtain ⟨av, cv, rfl, -⟩ := h4.row 0 rfl
    exact ⟨g, gr, av, cv, wv', d', rfl, Lib.hid ⟨_, h2, split_one _, h3, by decide, by decide, by decide⟩, h4⟩
  replace cA0 := Lib.hid cA0
  replace cG := Lib.hid cG
  replace cN := Lib.hid cN
  replace cF := Lib.hid cF
  replace cO := Lib.hid cO
  have hn40 := hQ.1
  replace hG := Lib.hid hG
  replace hQ := Lib.hid hQ
  generalize Dk.new 30 = d0 at *
  go_enter Try.func10, Try.ntmps10
  go_wp2_with (first
    | (go_at_call 65; (with_reducible refine cG.out.mono ?_); rintro _ _ ⟨rfl, rfl⟩)
    | (go_at_call 11; (with_reducible refine (cN.out _).mono ?_); rintro _ w2 ⟨bd, sv, wv, rfl, hk⟩; have hS1 := hS.made hk; clear hS hk; have hS : St w [] ([] ++ (dks bd sv wv d0 ++ [])) w2 := hS1; clear hS1)
    | (go_at_call 58; (with_reducible refine (cF.out _ _ _ _ hS.preM).mono ?_); rintro _ w3 ⟨rfl, wv3, d3', hF3, hk⟩; have hS1 := hS.callM hk; clear hS hk; have hS := hS1; clear hS1)
    | (go_at_call 59; (with_reducible refine (cO.out _ _ _ _ _ hF3 hS.preM).mono ?_); rintro _ w4 ⟨g, gr, av4, cv4, wv4, d4, rfl, hF4, hk⟩; have hS1 := hS.callM hk; clear hS hk; have hS : St w [] (Ch.row 9 1 (.slice av4 0 cv4) 0 [] :: vlt g gr bd ⟨2, 2, 0⟩ false :: rng gr bd ⟨2, 28, 0, 1, 2⟩ :: (dks bd sv wv4 d4 ++ [])) w4 := hS1; clear hS1))
  clear cN cF cO hF3 cG
  go_loopg [4, 5, 6, 7, 8] n (fun gk vv vt vr ve vi wr => ∃ (i g gr : Nat) (sv wv : Value) (d : Dk) (x : Rt) (r : Rg) (text : ByteArray) (recs : List ByteArray) (av : Option Addr) (cv : Nat), i + gk = n ∧ vi = .int .i64 i ∧ vv = .pointer (some ⟨g, 0, none⟩) ∧ vt = .string text ∧ vr = .slice av recs.length cv ∧ ve = .int .i64 0 ∧ Hid (FallI i d x r text recs) ∧ St w [] (Ch.row 9 1 (.slice av recs.length cv) recs.length (recs.map vs) :: vlt g gr bd x false :: rng gr bd r :: (dks bd sv wv d ++ [])) wr)
  case atStart => exact ⟨0, g, gr, _, _, _, _, _, _, [], _, _, Nat.zero_add _, rfl, rfl, rfl, rfl, rfl, hF4, hS⟩
  case round =>
    clear hS hF4
    obtain ⟨i, g, gr, sv, wv, d, x, r, text, recs, av, cv, hin, rfl, rfl, rfl, rfl, rfl, hF, hS⟩ := hrel
    by_cases hlt : i < n
    · have hil : i < l.length := by rw [hG.out.len]; exact hlt
      obtain ⟨b9, o9, e9, hc9⟩ := hG.out.get i hil
      subst e9
      have hrg : w.rangeAt b9 (o9 + i * 5) (gaRow l[i]) := fun j v hv => by rw [Nat.add_assoc]; exact hc9 j v hv
      have hm := hG.out.mem _ (List.getElem_mem hil)
      have hq := hQ.out.2 _ (List.getElem_mem hil)
      clear hc9
      generalize l[i] = ac at *
      obtain ⟨kd, nn, s, ka, kc, keep, cc⟩ := ac
      have hq1 : s.size ≤ 500 := hq.1
      have hq2 : keep.length ≤ 60 := hq.2
      simp only [gaRow] at hrg
      have hrl : [Value.int .i64 kd, .int .i64 nn, .string s, .slice ka keep.length kc, vb cc].length = 5 := rfl
      have hro : [Value.int .i64 kd, .int .i64 nn, .string s, .slice ka keep.length kc, vb cc].all Value.oneCell' = true := rfl
      have cFu := Lib.hid (fun (z : Int) (W : World) hh => fuse_any bd sv wv d z W hh)
      obtain ⟨fz, hfz⟩ : ∃ fz : Int, fz = if nn < -1 then -1 else nn.tmod 40 := ⟨_, rfl⟩
      have hfb : -9223372036854775808 ≤ fz ∧ fz ≤ 9223372036854775807 := by
        have := hm.n
        simp only at this
        rw [hfz]
        split
        · decide
        · have h1 := Int.emod_nonneg nn (show (40 : Int) ≠ 0 by decide)
          have h2 := Int.emod_lt_of_pos nn (show (0 : Int) < 40 by decide)
          have h3 := Int.tmod_eq_emod_of_nonneg (a := nn) (b := 40)
          rcases Int.lt_or_le nn 0 with h | h
          · obtain rfl : nn = -1 := by omega
            decide
          · rw [h3 h]; omega
      have cFz : ∀ (W : World), St W (feet (dks bd sv wv d)) (dks bd sv wv d) W → Calls Try.prog 20 #[.pointer (some ⟨bd, 0, none⟩), .int .i64 fz] W fun e w' => e = .returned (.tuple #[]) ∧ St W (feet (dks bd sv wv d)) (dks bd sv wv (d.fz fz)) w' := fun W hh => fuse_any bd sv wv d fz W hh
      replace cFz := Lib.hid cFz
      replace hfb := Lib.hid hfb
      clear cFu
      have hcase : (nn < -1 ∧ fz = -1) ∨ (¬ nn < -1 ∧ fz = nn.tmod 40) := by
        by_cases h : nn < -1
        · exact .inl ⟨h, by rw [hfz, if_pos h]⟩
        · exact .inr ⟨h, by rw [hfz, if_neg h]⟩
      clear hfz
      go_upto_region 13 with (first | (with_reducible refine wpList_rangerow39 (n := 5) (range_old39 hS hrg) rfl rfl rfl (by kernel_rfl) (by kernel_rfl) hrl ?_) | ((with_reducible refine wpList_alloc_st hS rfl rfl ea ?_); intro gA w1 hS1; clear hS; have hS := hS1; clear hS1) | ((with_reducible refine wpList_storerow_st (n := 5) (vs := [.int .i64 kd, .int .i64 nn, .string s, .slice ka keep.length kc, vb cc]) 0 hS rfl rfl rfl rfl (by kernel_rfl) rfl hrl hro (by kernel_rfl) ?_); intro w1 hS1; clear hS; have hS : St w [] (Ch.blk gA 113 #[.int .i64 kd, .int .i64 nn, .string s, .slice ka keep.length kc, vb cc] :: Ch.row 9 1 (.slice av recs.length cv) recs.length (recs.map vs) :: vlt g gr bd x false :: rng gr bd r :: (dks bd sv wv d ++ [])) w1 := hS1; clear hS1) | (go_at_call 20; (with_reducible refine (cFz.out _ (hS.preM (A := [_, _, _, _]) (B := dks bd sv wv d) (R := []))).mono ?_); rintro _ w5 ⟨rfl, hk⟩; have hS1 := hS.callM (A := [_, _, _, _]) (B := dks bd sv wv d) (R := []) hk; clear hS hk; have hS : St w [] (Ch.blk gA 113 #[.int .i64 kd, .int .i64 nn, .string s, .slice ka keep.length kc, vb cc] :: Ch.row 9 1 (.slice av recs.length cv) recs.length (recs.map vs) :: vlt g gr bd x false :: rng gr bd r :: (dks bd sv wv (d.fz _) ++ [])) w5 := hS1; clear hS1) | (with_reducible refine wpList_box_st hS rfl rfl rfl ?_; intro g1 w1 hS1; clear hS; replace hS := hS1; clear hS1) | (with_reducible refine wpList_box1_st hS rfl rfl rfl ?_; intro g1 w1 hS1; clear hS; replace hS := hS1; clear hS1) | (with_reducible refine wpList_alloc_st hS rfl rfl (by assumption) ?_; intro g1 w1 hS1; clear hS; replace hS := hS1; clear hS1) | (with_reducible refine wpList_alloc1_st hS rfl rfl (by assumption) rfl ?_; intro g1 w1 hS1; clear hS; replace hS := hS1; clear hS1) | ((with_reducible refine wpList_load_st 0 hS rfl rfl rfl rfl ?_ rfl ?_); focus (simp [scalarB, go_sem]; done)) | ((with_reducible refine wpList_loadall_st 0 hS rfl rfl rfl rfl ?_ (by kernel_rfl) ?_); focus (simp [rowB, go_sem]; done)) | ((with_reducible refine wpList_store_st 0 hS rfl rfl rfl rfl (by kernel_rfl) rfl rfl ?_); intro w1 hS1; clear hS; replace hS := hS1; clear hS1; try simp only [List.set_cons_zero, List.set_cons_succ, List.setIfInBounds_toArray, List.take_succ_cons, List.take_zero, List.drop_succ_cons, List.drop_zero, List.nil_append, List.cons_append, List.append_nil, List.drop_nil, List.take_nil, List.length_cons, List.length_nil, Nat.zero_add, Nat.add_zero, Nat.reduceAdd] at hS) | ((with_reducible refine wpList_storerow_st 0 hS rfl rfl rfl rfl (by kernel_rfl) rfl rfl rfl rfl ?_); intro w1 hS1; clear hS; replace hS := hS1; clear hS1; try simp only [List.set_cons_zero, List.set_cons_succ, List.setIfInBounds_toArray, List.take_succ_cons, List.take_zero, List.drop_succ_cons, List.drop_zero, List.nil_append, List.cons_append, List.append_nil, List.drop_nil, List.take_nil, List.length_cons, List.length_nil, Nat.zero_add, Nat.add_zero, Nat.reduceAdd] at hS))
      go_cut [] from 32 to 161 (fun wc => St w [] (Ch.blk gA 113 #[.int .i64 kd, .int .i64 nn, .string s, .slice ka keep.length kc, vb cc] :: Ch.row 9 1 (.slice av recs.length cv) recs.length (recs.map vs) :: vlt g gr bd x false :: rng gr bd r :: (dks bd sv wv (d.fz fz) ++ [])) wc)
      case first =>
        rcases hcase with ⟨hn1, hf1⟩ | ⟨hn1, hf1⟩
        · subst hf1
          go_wp2_with (first | (with_reducible refine wpList_rangerow39 (n := 5) (range_old39 hS hrg) rfl rfl rfl (by kernel_rfl) (by kernel_rfl) hrl ?_) | ((with_reducible refine wpList_alloc_st hS rfl rfl ea ?_); intro gA w1 hS1; clear hS; have hS := hS1; clear hS1) | ((with_reducible refine wpList_storerow_st (n := 5) (vs := [.int .i64 kd, .int .i64 nn, .string s, .slice ka keep.length kc, vb cc]) 0 hS rfl rfl rfl rfl (by kernel_rfl) rfl hrl hro (by kernel_rfl) ?_); intro w1 hS1; clear hS; have hS : St w [] (Ch.blk gA 113 #[.int .i64 kd, .int .i64 nn, .string s, .slice ka keep.length kc, vb cc] :: Ch.row 9 1 (.slice av recs.length cv) recs.length (recs.map vs) :: vlt g gr bd x false :: rng gr bd r :: (dks bd sv wv d ++ [])) w1 := hS1; clear hS1) | (go_at_call 20; (with_reducible refine (cFz.out _ (hS.preM (A := [_, _, _, _]) (B := dks bd sv wv d) (R := []))).mono ?_); rintro _ w5 ⟨rfl, hk⟩; have hS1 := hS.callM (A := [_, _, _, _]) (B := dks bd sv wv d) (R := []) hk; clear hS hk; have hS : St w [] (Ch.blk gA 113 #[.int .i64 kd, .int .i64 nn, .string s, .slice ka keep.length kc, vb cc] :: Ch.row 9 1 (.slice av recs.length cv) recs.length (recs.map vs) :: vlt g gr bd x false :: rng gr bd r :: (dks bd sv wv (d.fz _) ++ [])) w5 := hS1; clear hS1) | (with_reducible refine wpList_box_st hS rfl rfl rfl ?_; intro g1 w1 hS1; clear hS; replace hS := hS1; clear hS1) | (with_reducible refine wpList_box1_st hS rfl rfl rfl ?_; intro g1 w1 hS1; clear hS; replace hS := hS1; clear hS1) | (with_reducible refine wpList_alloc_st hS rfl rfl (by assumption) ?_; intro g1 w1 hS1; clear hS; replace hS := hS1; clear hS1) | (with_reducible refine wpList_alloc1_st hS rfl rfl (by assumption) rfl ?_; intro g1 w1 hS1; clear hS; replace hS := hS1; clear hS1) | ((with_reducible refine wpList_load_st 0 hS rfl rfl rfl rfl ?_ rfl ?_); focus (simp [scalarB, go_sem]; done)) | ((with_reducible refine wpList_loadall_st 0 hS rfl rfl rfl rfl ?_ (by kernel_rfl) ?_); focus (simp [rowB, go_sem]; done)) | ((with_reducible refine wpList_store_st 0 hS rfl rfl rfl rfl (by kernel_rfl) rfl rfl ?_); intro w1 hS1; clear hS; replace hS := hS1; clear hS1; try simp only [List.set_cons_zero, List.set_cons_succ, List.setIfInBounds_toArray, List.take_succ_cons, List.take_zero, List.drop_succ_cons, List.drop_zero, List.nil_append, List.cons_append, List.append_nil, List.drop_nil, List.take_nil, List.length_cons, List.length_nil, Nat.zero_add, Nat.add_zero, Nat.reduceAdd] at hS) | ((with_reducible refine wpList_storerow_st 0 hS rfl rfl rfl rfl (by kernel_rfl) rfl rfl rfl rfl ?_); intro w1 hS1; clear hS; replace hS := hS1; clear hS1; try simp only [List.set_cons_zero, List.set_cons_succ, List.setIfInBounds_toArray, List.take_succ_cons, List.take_zero, List.drop_succ_cons, List.drop_zero, List.nil_append, List.cons_append, List.append_nil, List.drop_nil, List.take_nil, List.length_cons, List.length_nil, Nat.zero_add, Nat.add_zero, Nat.reduceAdd] at hS))
          go_meet
          exact hS
        · subst hf1
          go_wp2_with (first | (with_reducible refine wpList_rangerow39 (n := 5) (range_old39 hS hrg) rfl rfl rfl (by kernel_rfl) (by kernel_rfl) hrl ?_) | ((with_reducible refine wpList_alloc_st hS rfl rfl ea ?_); intro gA w1 hS1; clear hS; have hS := hS1; clear hS1) | ((with_reducible refine wpList_storerow_st (n := 5) (vs := [.int .i64 kd, .int .i64 nn, .string s, .slice ka keep.length kc, vb cc]) 0 hS rfl rfl rfl rfl (by kernel_rfl) rfl hrl hro (by kernel_rfl) ?_); intro w1 hS1; clear hS; have hS : St w [] (Ch.blk gA 113 #[.int .i64 kd, .int .i64 nn, .string s, .slice ka keep.length kc, vb cc] :: Ch.row 9 1 (.slice av recs.length cv) recs.length (recs.map vs) :: vlt g gr bd x false :: rng gr bd r :: (dks bd sv wv d ++ [])) w1 := hS1; clear hS1) | (go_at_call 20; (with_reducible refine (cFz.out _ (hS.preM (A := [_, _, _, _]) (B := dks bd sv wv d) (R := []))).mono ?_); rintro _ w5 ⟨rfl, hk⟩; have hS1 := hS.callM (A := [_, _, _, _]) (B := dks bd sv wv d) (R := []) hk; clear hS hk; have hS : St w [] (Ch.blk gA 113 #[.int .i64 kd, .int .i64 nn, .string s, .slice ka keep.length kc, vb cc] :: Ch.row 9 1 (.slice av recs.length cv) recs.length (recs.map vs) :: vlt g gr bd x false :: rng gr bd r :: (dks bd sv wv (d.fz _) ++ [])) w5 := hS1; clear hS1) | (with_reducible refine wpList_box_st hS rfl rfl rfl ?_; intro g1 w1 hS1; clear hS; replace hS := hS1; clear hS1) | (with_reducible refine wpList_box1_st hS rfl rfl rfl ?_; intro g1 w1 hS1; clear hS; replace hS := hS1; clear hS1) | (with_reducible refine wpList_alloc_st hS rfl rfl (by assumption) ?_; intro g1 w1 hS1; clear hS; replace hS := hS1; clear hS1) | (with_reducible refine wpList_alloc1_st hS rfl rfl (by assumption) rfl ?_; intro g1 w1 hS1; clear hS; replace hS := hS1; clear hS1) | ((with_reducible refine wpList_load_st 0 hS rfl rfl rfl rfl ?_ rfl ?_); focus (simp [scalarB, go_sem]; done)) | ((with_reducible refine wpList_loadall_st 0 hS rfl rfl rfl rfl ?_ (by kernel_rfl) ?_); focus (simp [rowB, go_sem]; done)) | ((with_reducible refine wpList_store_st 0 hS rfl rfl rfl rfl (by kernel_rfl) rfl rfl ?_); intro w1 hS1; clear hS; replace hS := hS1; clear hS1; try simp only [List.set_cons_zero, List.set_cons_succ, List.setIfInBounds_toArray, List.take_succ_cons, List.take_zero, List.drop_succ_cons, List.drop_zero, List.nil_append, List.cons_append, List.append_nil, List.drop_nil, List.take_nil, List.length_cons, List.length_nil, Nat.zero_add, Nat.add_zero, Nat.reduceAdd] at hS) | ((with_reducible refine wpList_storerow_st 0 hS rfl rfl rfl rfl (by kernel_rfl) rfl rfl rfl rfl ?_); intro w1 hS1; clear hS; replace hS := hS1; clear hS1; try simp only [List.set_cons_zero, List.set_cons_succ, List.setIfInBounds_toArray, List.take_succ_cons, List.take_zero, List.drop_succ_cons, List.drop_zero, List.nil_append, List.cons_append, List.append_nil, List.drop_nil, List.take_nil, List.length_cons, List.length_nil, Nat.zero_add, Nat.add_zero, Nat.reduceAdd] at hS))
          go_meet
          exact hS
      case rest =>
        clear hS cFz hcase
        have hS := hcut
        clear hcut
        go_upto_block 2 with (first | (with_reducible refine wpList_box_st hS rfl rfl rfl ?_; intro g1 w1 hS1; clear hS; replace hS := hS1; clear hS1) | (with_reducible refine wpList_box1_st hS rfl rfl rfl ?_; intro g1 w1 hS1; clear hS; replace hS := hS1; clear hS1) | (with_reducible refine wpList_alloc_st hS rfl rfl (by assumption) ?_; intro g1 w1 hS1; clear hS; replace hS := hS1; clear hS1) | (with_reducible refine wpList_alloc1_st hS rfl rfl (by assumption) rfl ?_; intro g1 w1 hS1; clear hS; replace hS := hS1; clear hS1) | ((with_reducible refine wpList_load_st 0 hS rfl rfl rfl rfl ?_ rfl ?_); focus (simp [scalarB, go_sem]; done)) | ((with_reducible refine wpList_loadall_st 0 hS rfl rfl rfl rfl ?_ (by kernel_rfl) ?_); focus (simp [rowB, go_sem]; done)) | ((with_reducible refine wpList_store_st 0 hS rfl rfl rfl rfl (by kernel_rfl) rfl rfl ?_); intro w1 hS1; clear hS; replace hS := hS1; clear hS1; try simp only [List.set_cons_zero, List.set_cons_succ, List.setIfInBounds_toArray, List.take_succ_cons, List.take_zero, List.drop_succ_cons, List.drop_zero, List.nil_append, List.cons_append, List.append_nil, List.drop_nil, List.take_nil, List.length_cons, List.length_nil, Nat.zero_add, Nat.add_zero, Nat.reduceAdd] at hS) | ((with_reducible refine wpList_storerow_st 0 hS rfl rfl rfl rfl (by kernel_rfl) rfl rfl rfl rfl ?_); intro w1 hS1; clear hS; replace hS := hS1; clear hS1; try simp only [List.set_cons_zero, List.set_cons_succ, List.setIfInBounds_toArray, List.take_succ_cons, List.take_zero, List.drop_succ_cons, List.drop_zero, List.nil_append, List.cons_append, List.append_nil, List.drop_nil, List.take_nil, List.length_cons, List.length_nil, Nat.zero_add, Nat.add_zero, Nat.reduceAdd] at hS))
        go_simp
        go_cut [10, 11, 12] from 32 to 161 (fun v10 v11 v12 wc => ∃ (nt : ByteArray) (na : Option Addr) (nrecs : List ByteArray) (nc : Nat) (er : Int) (sv' wv' : Value) (d' : Dk) (R : List Ch), v10 = .string nt ∧ v11 = .slice na nrecs.length nc ∧ v12 = .int .i64 er ∧ Hid (∀ A B W, St w [] (A ++ (R ++ B)) W → Sl W na (nrecs.map vs) ∧ Sl W av (recs.map vs)) ∧ Hid (Falls39 i keep d' er text recs nt nrecs) ∧ St w [] (Ch.blk gA 113 #[.int .i64 kd, .int .i64 nn, .string s, .slice ka keep.length kc, vb cc] :: (R ++ (dks bd sv' wv' d' ++ []))) wc)
        case first =>
          by_cases h0 : kd = 0
          · subst h0
            go_upto_region 19 with fail
            go_cut [11] from 32 to 161 (fun v11 wx => ∃ (a1 : Option Addr) (c1 : Nat), v11 = .slice a1 (recs ++ [s]).length c1 ∧ St w [] (Ch.blk gA 113 #[.int .i64 0, .int .i64 nn, .string s, .slice ka keep.length kc, vb cc] :: Ch.row 9 1 (.slice a1 (recs ++ [s]).length c1) (recs ++ [s]).length ((recs ++ [s]).map vs) :: Ch.row 9 1 (.slice av recs.length cv) recs.length (recs.map vs) :: vlt g gr bd x false :: rng gr bd r :: (dks bd sv wv (d.fz fz) ++ [])) wx)
            case first =>
              as_aux_lemma =>
                have hrl30 : recs.length ≤ 30 := by obtain ⟨L, -, -, -, -, -, k⟩ := hF.out; exact k
                refine mixs_beginC 0 (by kernel_rfl) hS rfl ?_
                clear hS
                intro w2 hS hC
                have kC := hC.kblk 0 rfl
                refine mixs_take 1 (v := ?_) rfl (by kernel_rfl) (fun _ _ _ h => h) (by kernel_rfl) (by assumption) (fun s => ?hy) ?_; case hy => (go_simp <;> with_reducible rfl)
                try simp only [List.getElem_toArray, List.getElem_cons_succ, List.getElem_cons_zero, Act.put, List.setIfInBounds_toArray, List.set_cons_zero, List.set_cons_succ]
                refine mixs_take 3 (v := ?_) rfl (by kernel_rfl) (fun _ _ _ h => h) (by kernel_rfl) (by assumption) (fun s => ?hy) ?_; case hy => (go_simp <;> with_reducible rfl)
                try simp only [List.getElem_toArray, List.getElem_cons_succ, List.getElem_cons_zero, Act.put, List.setIfInBounds_toArray, List.set_cons_zero, List.set_cons_succ]
                refine mixs_take 4 (v := ?_) rfl (by kernel_rfl) (fun _ _ _ h => h) (by kernel_rfl) (by assumption) (fun s => ?hy) ?_; case hy => (go_simp <;> with_reducible rfl)
                try simp only [List.getElem_toArray, List.getElem_cons_succ, List.getElem_cons_zero, Act.put, List.setIfInBounds_toArray, List.set_cons_zero, List.set_cons_succ]
                refine mixs_two 0 5 (by kernel_rfl) rfl rfl (fun K hK => ?_) (fun K hK => ?_)
                ·
                  ( first | (refine op_build0s39 (by kernel_rfl) hS rfl Try.underlying26 ex ?_; intro g30 w30 hS1; clear hS; have hS := hS1; clear hS1) | (refine op_build1c_st (by kernel_rfl) hS rfl Try.underlying26 ex rfl ?_; intro g31 w31 hS1; clear hS; have hS := hS1; clear hS1) | (refine op_app_st (by kernel_rfl) 0 hS rfl rfl Try.underlying26 ex rfl (Src.slice Try.underlying26 (hS.rowsl 2 rfl) (by simp)) rfl (texts_one39 recs) (by omega) (by unfold maxLen; omega) ?_; intro v32 w32 hS1; clear hS; simp only [List.set_cons_zero, List.set_cons_succ, Nat.zero_add, List.nil_append] at hS1; obtain ⟨a32, c32, rfl, -⟩ := hS1.row 0 rfl; have hS := hS1; clear hS1) | (refine op_app_st (by kernel_rfl) 1 hS rfl rfl Try.underlying26 ex rfl (Src.slice Try.underlying26 (hS.rowsl 3 rfl) (by simp)) rfl (texts_one39 recs) (by omega) (by unfold maxLen; omega) ?_; intro v32 w32 hS1; clear hS; simp only [List.set_cons_zero, List.set_cons_succ, Nat.zero_add, List.nil_append] at hS1; obtain ⟨a32, c32, rfl, -⟩ := hS1.row 1 rfl; have hS := hS1; clear hS1) | (refine op_app_st (by kernel_rfl) 0 hS rfl rfl Try.underlying26 ex rfl (Src.slice Try.underlying26 (hS.rowsl 3 rfl) (by simp)) rfl (texts_one39 recs) (by omega) (by unfold maxLen; omega) ?_; intro v32 w32 hS1; clear hS; simp only [List.set_cons_zero, List.set_cons_succ, Nat.zero_add, List.nil_append] at hS1; obtain ⟨a32, c32, rfl, -⟩ := hS1.row 0 rfl; have hS := hS1; clear hS1) | (refine op_app_st (by kernel_rfl) 1 (news := [.string s]) hS rfl rfl Try.underlying26 ex rfl (Src.slice Try.underlying26 (hS.blksl2 0 rfl) rfl) rfl (by simp [Value.oneCell']) (by omega) (by unfold maxLen; omega) ?_; intro v33 w33 hS1; clear hS; simp only [List.set_cons_zero, List.set_cons_succ] at hS1; obtain ⟨a33, c33, rfl, -⟩ := hS1.row 1 rfl; have hS := hS1.drop; clear hS1) | (refine op_app_st (by kernel_rfl) 0 (news := [.string s]) hS rfl rfl Try.underlying26 ex rfl (Src.slice Try.underlying26 (hS.blksl2 1 rfl) rfl) rfl (by simp [Value.oneCell']) (by omega) (by unfold maxLen; omega) ?_; intro v33 w33 hS1; clear hS; simp only [List.set_cons_zero, List.set_cons_succ] at hS1; obtain ⟨a33, c33, rfl, -⟩ := hS1.row 0 rfl; have hS := hS1.drop1; clear hS1) )
                  try clear hC
                  refine hK.out _ _ _ (fun _ h => h) (by first | exact hS | exact hS.drop | exact hS.drop.drop | exact hS.drop.drop.drop | exact hS.drop.drop.drop.drop | exact hS.empty | exact hS.one 0 rfl | exact hS.one 1 rfl | exact hS.one 2 rfl | exact hS.one 3 rfl | exact hS.one 4 rfl | exact hS.one 5 rfl | exact hS.one 6 rfl | exact hS.one 7 rfl | exact hS.one 8 rfl | exact hS.one 9 rfl | exact hS.one 10 rfl | exact hS.one 11 rfl) (fun hC => ?_)
                  clear hK K
                  try simp only [List.getElem_toArray, List.getElem_cons_succ, List.getElem_cons_zero, Act.put, List.setIfInBounds_toArray, List.set_cons_zero, List.set_cons_succ]
                  refine mixs_two 2 5 (by kernel_rfl) rfl rfl (fun K hK => ?_) (fun K hK => ?_)
                  ·
                    ( first | (refine op_build0s39 (by kernel_rfl) hS rfl Try.underlying26 ex ?_; intro g30 w30 hS1; clear hS; have hS := hS1; clear hS1) | (refine op_build1c_st (by kernel_rfl) hS rfl Try.underlying26 ex rfl ?_; intro g31 w31 hS1; clear hS; have hS := hS1; clear hS1) | (refine op_app_st (by kernel_rfl) 0 hS rfl rfl Try.underlying26 ex rfl (Src.slice Try.underlying26 (hS.rowsl 2 rfl) (by simp)) rfl (texts_one39 recs) (by omega) (by unfold maxLen; omega) ?_; intro v32 w32 hS1; clear hS; simp only [List.set_cons_zero, List.set_cons_succ, Nat.zero_add, List.nil_append] at hS1; obtain ⟨a32, c32, rfl, -⟩ := hS1.row 0 rfl; have hS := hS1; clear hS1) | (refine op_app_st (by kernel_rfl) 1 hS rfl rfl Try.underlying26 ex rfl (Src.slice Try.underlying26 (hS.rowsl 3 rfl) (by simp)) rfl (texts_one39 recs) (by omega) (by unfold maxLen; omega) ?_; intro v32 w32 hS1; clear hS; simp only [List.set_cons_zero, List.set_cons_succ, Nat.zero_add, List.nil_append] at hS1; obtain ⟨a32, c32, rfl, -⟩ := hS1.row 1 rfl; have hS := hS1; clear hS1) | (refine op_app_st (by kernel_rfl) 0 hS rfl rfl Try.underlying26 ex rfl (Src.slice Try.underlying26 (hS.rowsl 3 rfl) (by simp)) rfl (texts_one39 recs) (by omega) (by unfold maxLen; omega) ?_; intro v32 w32 hS1; clear hS; simp only [List.set_cons_zero, List.set_cons_succ, Nat.zero_add, List.nil_append] at hS1; obtain ⟨a32, c32, rfl, -⟩ := hS1.row 0 rfl; have hS := hS1; clear hS1) | (refine op_app_st (by kernel_rfl) 1 (news := [.string s]) hS rfl rfl Try.underlying26 ex rfl (Src.slice Try.underlying26 (hS.blksl2 0 rfl) rfl) rfl (by simp [Value.oneCell']) (by omega) (by unfold maxLen; omega) ?_; intro v33 w33 hS1; clear hS; simp only [List.set_cons_zero, List.set_cons_succ] at hS1; obtain ⟨a33, c33, rfl, -⟩ := hS1.row 1 rfl; have hS := hS1.drop; clear hS1) | (refine op_app_st (by kernel_rfl) 0 (news := [.string s]) hS rfl rfl Try.underlying26 ex rfl (Src.slice Try.underlying26 (hS.blksl2 1 rfl) rfl) rfl (by simp [Value.oneCell']) (by omega) (by unfold maxLen; omega) ?_; intro v33 w33 hS1; clear hS; simp only [List.set_cons_zero, List.set_cons_succ] at hS1; obtain ⟨a33, c33, rfl, -⟩ := hS1.row 0 rfl; have hS := hS1.drop1; clear hS1) )
                    try clear hC
                    refine hK.out _ _ _ (fun _ h => h) (by first | exact hS | exact hS.drop | exact hS.drop.drop | exact hS.drop.drop.drop | exact hS.drop.drop.drop.drop | exact hS.empty | exact hS.one 0 rfl | exact hS.one 1 rfl | exact hS.one 2 rfl | exact hS.one 3 rfl | exact hS.one 4 rfl | exact hS.one 5 rfl | exact hS.one 6 rfl | exact hS.one 7 rfl | exact hS.one 8 rfl | exact hS.one 9 rfl | exact hS.one 10 rfl | exact hS.one 11 rfl) (fun hC => ?_)
                    clear hK K
                    try simp only [List.getElem_toArray, List.getElem_cons_succ, List.getElem_cons_zero, Act.put, List.setIfInBounds_toArray, List.set_cons_zero, List.set_cons_succ]
                    refine mixs_one 5 (by kernel_rfl) rfl (fun K hK => ?_)
                    ( first | (refine op_build0s39 (by kernel_rfl) hS rfl Try.underlying26 ex ?_; intro g30 w30 hS1; clear hS; have hS := hS1; clear hS1) | (refine op_build1c_st (by kernel_rfl) hS rfl Try.underlying26 ex rfl ?_; intro g31 w31 hS1; clear hS; have hS := hS1; clear hS1) | (refine op_app_st (by kernel_rfl) 0 hS rfl rfl Try.underlying26 ex rfl (Src.slice Try.underlying26 (hS.rowsl 2 rfl) (by simp)) rfl (texts_one39 recs) (by omega) (by unfold maxLen; omega) ?_; intro v32 w32 hS1; clear hS; simp only [List.set_cons_zero, List.set_cons_succ, Nat.zero_add, List.nil_append] at hS1; obtain ⟨a32, c32, rfl, -⟩ := hS1.row 0 rfl; have hS := hS1; clear hS1) | (refine op_app_st (by kernel_rfl) 1 hS rfl rfl Try.underlying26 ex rfl (Src.slice Try.underlying26 (hS.rowsl 3 rfl) (by simp)) rfl (texts_one39 recs) (by omega) (by unfold maxLen; omega) ?_; intro v32 w32 hS1; clear hS; simp only [List.set_cons_zero, List.set_cons_succ, Nat.zero_add, List.nil_append] at hS1; obtain ⟨a32, c32, rfl, -⟩ := hS1.row 1 rfl; have hS := hS1; clear hS1) | (refine op_app_st (by kernel_rfl) 0 hS rfl rfl Try.underlying26 ex rfl (Src.slice Try.underlying26 (hS.rowsl 3 rfl) (by simp)) rfl (texts_one39 recs) (by omega) (by unfold maxLen; omega) ?_; intro v32 w32 hS1; clear hS; simp only [List.set_cons_zero, List.set_cons_succ, Nat.zero_add, List.nil_append] at hS1; obtain ⟨a32, c32, rfl, -⟩ := hS1.row 0 rfl; have hS := hS1; clear hS1) | (refine op_app_st (by kernel_rfl) 1 (news := [.string s]) hS rfl rfl Try.underlying26 ex rfl (Src.slice Try.underlying26 (hS.blksl2 0 rfl) rfl) rfl (by simp [Value.oneCell']) (by omega) (by unfold maxLen; omega) ?_; intro v33 w33 hS1; clear hS; simp only [List.set_cons_zero, List.set_cons_succ] at hS1; obtain ⟨a33, c33, rfl, -⟩ := hS1.row 1 rfl; have hS := hS1.drop; clear hS1) | (refine op_app_st (by kernel_rfl) 0 (news := [.string s]) hS rfl rfl Try.underlying26 ex rfl (Src.slice Try.underlying26 (hS.blksl2 1 rfl) rfl) rfl (by simp [Value.oneCell']) (by omega) (by unfold maxLen; omega) ?_; intro v33 w33 hS1; clear hS; simp only [List.set_cons_zero, List.set_cons_succ] at hS1; obtain ⟨a33, c33, rfl, -⟩ := hS1.row 0 rfl; have hS := hS1.drop1; clear hS1) )
                    try clear hC
                    refine hK.out _ _ _ (fun _ h => h) (by first | exact hS | exact hS.drop | exact hS.drop.drop | exact hS.drop.drop.drop | exact hS.drop.drop.drop.drop | exact hS.empty | exact hS.one 0 rfl | exact hS.one 1 rfl | exact hS.one 2 rfl | exact hS.one 3 rfl | exact hS.one 4 rfl | exact hS.one 5 rfl | exact hS.one 6 rfl | exact hS.one 7 rfl | exact hS.one 8 rfl | exact hS.one 9 rfl | exact hS.one 10 rfl | exact hS.one 11 rfl) (fun hC => ?_)
                    clear hK K
                    try simp only [List.getElem_toArray, List.getElem_cons_succ, List.getElem_cons_zero, Act.put, List.setIfInBounds_toArray, List.set_cons_zero, List.set_cons_succ]
                    refine mixs_one 6 (by kernel_rfl) rfl (fun K hK => ?_)
                    ( first | (refine op_build0s39 (by kernel_rfl) hS rfl Try.underlying26 ex ?_; intro g30 w30 hS1; clear hS; have hS := hS1; clear hS1) | (refine op_build1c_st (by kernel_rfl) hS rfl Try.underlying26 ex rfl ?_; intro g31 w31 hS1; clear hS; have hS := hS1; clear hS1) | (refine op_app_st (by kernel_rfl) 0 hS rfl rfl Try.underlying26 ex rfl (Src.slice Try.underlying26 (hS.rowsl 2 rfl) (by simp)) rfl (texts_one39 recs) (by omega) (by unfold maxLen; omega) ?_; intro v32 w32 hS1; clear hS; simp only [List.set_cons_zero, List.set_cons_succ, Nat.zero_add, List.nil_append] at hS1; obtain ⟨a32, c32, rfl, -⟩ := hS1.row 0 rfl; have hS := hS1; clear hS1) | (refine op_app_st (by kernel_rfl) 1 hS rfl rfl Try.underlying26 ex rfl (Src.slice Try.underlying26 (hS.rowsl 3 rfl) (by simp)) rfl (texts_one39 recs) (by omega) (by unfold maxLen; omega) ?_; intro v32 w32 hS1; clear hS; simp only [List.set_cons_zero, List.set_cons_succ, Nat.zero_add, List.nil_append] at hS1; obtain ⟨a32, c32, rfl, -⟩ := hS1.row 1 rfl; have hS := hS1; clear hS1) | (refine op_app_st (by kernel_rfl) 0 hS rfl rfl Try.underlying26 ex rfl (Src.slice Try.underlying26 (hS.rowsl 3 rfl) (by simp)) rfl (texts_one39 recs) (by omega) (by unfold maxLen; omega) ?_; intro v32 w32 hS1; clear hS; simp only [List.set_cons_zero, List.set_cons_succ, Nat.zero_add, List.nil_append] at hS1; obtain ⟨a32, c32, rfl, -⟩ := hS1.row 0 rfl; have hS := hS1; clear hS1) | (refine op_app_st (by kernel_rfl) 1 (news := [.string s]) hS rfl rfl Try.underlying26 ex rfl (Src.slice Try.underlying26 (hS.blksl2 0 rfl) rfl) rfl (by simp [Value.oneCell']) (by omega) (by unfold maxLen; omega) ?_; intro v33 w33 hS1; clear hS; simp only [List.set_cons_zero, List.set_cons_succ] at hS1; obtain ⟨a33, c33, rfl, -⟩ := hS1.row 1 rfl; have hS := hS1.drop; clear hS1) | (refine op_app_st (by kernel_rfl) 0 (news := [.string s]) hS rfl rfl Try.underlying26 ex rfl (Src.slice Try.underlying26 (hS.blksl2 1 rfl) rfl) rfl (by simp [Value.oneCell']) (by omega) (by unfold maxLen; omega) ?_; intro v33 w33 hS1; clear hS; simp only [List.set_cons_zero, List.set_cons_succ] at hS1; obtain ⟨a33, c33, rfl, -⟩ := hS1.row 0 rfl; have hS := hS1.drop1; clear hS1) )
                    try clear hC
                    refine hK.out _ _ _ (fun _ h => h) (by first | exact hS | exact hS.drop | exact hS.drop.drop | exact hS.drop.drop.drop | exact hS.drop.drop.drop.drop | exact hS.empty | exact hS.one 0 rfl | exact hS.one 1 rfl | exact hS.one 2 rfl | exact hS.one 3 rfl | exact hS.one 4 rfl | exact hS.one 5 rfl | exact hS.one 6 rfl | exact hS.one 7 rfl | exact hS.one 8 rfl | exact hS.one 9 rfl | exact hS.one 10 rfl | exact hS.one 11 rfl) (fun hC => ?_)
                    clear hK K
                    try simp only [List.getElem_toArray, List.getElem_cons_succ, List.getElem_cons_zero, Act.put, List.setIfInBounds_toArray, List.set_cons_zero, List.set_cons_succ]
                    refine mixs_take 7 (v := ?_) rfl (by kernel_rfl) (fun _ _ _ h => h) (by kernel_rfl) (by assumption) (fun s => ?hy) ?_; case hy => (go_simp <;> with_reducible rfl)
                    try simp only [List.getElem_toArray, List.getElem_cons_succ, List.getElem_cons_zero, Act.put, List.setIfInBounds_toArray, List.set_cons_zero, List.set_cons_succ]
                    refine wpAnyH_done (by kernel_rfl) ?_ _
                    try clear hC
                    go_wp2_with fail
                    go_meet
                    have e1 : (recs ++ [s]).length = recs.length + 1 := by simp
                    have e2 : (recs ++ [s]).map vs = recs.map vs ++ [.string s] := by simp [vs]
                    rw [e1, e2]
                    exact ⟨_, _, rfl, hS.swap⟩
                  ·
                    ( first | (refine op_build0s39 (by kernel_rfl) hS rfl Try.underlying26 ex ?_; intro g30 w30 hS1; clear hS; have hS := hS1; clear hS1) | (refine op_build1c_st (by kernel_rfl) hS rfl Try.underlying26 ex rfl ?_; intro g31 w31 hS1; clear hS; have hS := hS1; clear hS1) | (refine op_app_st (by kernel_rfl) 0 hS rfl rfl Try.underlying26 ex rfl (Src.slice Try.underlying26 (hS.rowsl 2 rfl) (by simp)) rfl (texts_one39 recs) (by omega) (by unfold maxLen; omega) ?_; intro v32 w32 hS1; clear hS; simp only [List.set_cons_zero, List.set_cons_succ, Nat.zero_add, List.nil_append] at hS1; obtain ⟨a32, c32, rfl, -⟩ := hS1.row 0 rfl; have hS := hS1; clear hS1) | (refine op_app_st (by kernel_rfl) 1 hS rfl rfl Try.underlying26 ex rfl (Src.slice Try.underlying26 (hS.rowsl 3 rfl) (by simp)) rfl (texts_one39 recs) (by omega) (by unfold maxLen; omega) ?_; intro v32 w32 hS1; clear hS; simp only [List.set_cons_zero, List.set_cons_succ, Nat.zero_add, List.nil_append] at hS1; obtain ⟨a32, c32, rfl, -⟩ := hS1.row 1 rfl; have hS := hS1; clear hS1) | (refine op_app_st (by kernel_rfl) 0 hS rfl rfl Try.underlying26 ex rfl (Src.slice Try.underlying26 (hS.rowsl 3 rfl) (by simp)) rfl (texts_one39 recs) (by omega) (by unfold maxLen; omega) ?_; intro v32 w32 hS1; clear hS; simp only [List.set_cons_zero, List.set_cons_succ, Nat.zero_add, List.nil_append] at hS1; obtain ⟨a32, c32, rfl, -⟩ := hS1.row 0 rfl; have hS := hS1; clear hS1) | (refine op_app_st (by kernel_rfl) 1 (news := [.string s]) hS rfl rfl Try.underlying26 ex rfl (Src.slice Try.underlying26 (hS.blksl2 0 rfl) rfl) rfl (by simp [Value.oneCell']) (by omega) (by unfold maxLen; omega) ?_; intro v33 w33 hS1; clear hS; simp only [List.set_cons_zero, List.set_cons_succ] at hS1; obtain ⟨a33, c33, rfl, -⟩ := hS1.row 1 rfl; have hS := hS1.drop; clear hS1) | (refine op_app_st (by kernel_rfl) 0 (news := [.string s]) hS rfl rfl Try.underlying26 ex rfl (Src.slice Try.underlying26 (hS.blksl2 1 rfl) rfl) rfl (by simp [Value.oneCell']) (by omega) (by unfold maxLen; omega) ?_; intro v33 w33 hS1; clear hS; simp only [List.set_cons_zero, List.set_cons_succ] at hS1; obtain ⟨a33, c33, rfl, -⟩ := hS1.row 0 rfl; have hS := hS1.drop1; clear hS1) )
                    try clear hC
                    refine hK.out _ _ _ (fun _ h => h) (by first | exact hS | exact hS.drop | exact hS.drop.drop | exact hS.drop.drop.drop | exact hS.drop.drop.drop.drop | exact hS.empty | exact hS.one 0 rfl | exact hS.one 1 rfl | exact hS.one 2 rfl | exact hS.one 3 rfl | exact hS.one 4 rfl | exact hS.one 5 rfl | exact hS.one 6 rfl | exact hS.one 7 rfl | exact hS.one 8 rfl | exact hS.one 9 rfl | exact hS.one 10 rfl | exact hS.one 11 rfl) (fun hC => ?_)
                    clear hK K
                    try simp only [List.getElem_toArray, List.getElem_cons_succ, List.getElem_cons_zero, Act.put, List.setIfInBounds_toArray, List.set_cons_zero, List.set_cons_succ]
                    refine mixs_one 2 (by kernel_rfl) rfl (fun K hK => ?_)
                    ( first | (refine op_build0s39 (by kernel_rfl) hS rfl Try.underlying26 ex ?_; intro g30 w30 hS1; clear hS; have hS := hS1; clear hS1) | (refine op_build1c_st (by kernel_rfl) hS rfl Try.underlying26 ex rfl ?_; intro g31 w31 hS1; clear hS; have hS := hS1; clear hS1) | (refine op_app_st (by kernel_rfl) 0 hS rfl rfl Try.underlying26 ex rfl (Src.slice Try.underlying26 (hS.rowsl 2 rfl) (by simp)) rfl (texts_one39 recs) (by omega) (by unfold maxLen; omega) ?_; intro v32 w32 hS1; clear hS; simp only [List.set_cons_zero, List.set_cons_succ, Nat.zero_add, List.nil_append] at hS1; obtain ⟨a32, c32, rfl, -⟩ := hS1.row 0 rfl; have hS := hS1; clear hS1) | (refine op_app_st (by kernel_rfl) 1 hS rfl rfl Try.underlying26 ex rfl (Src.slice Try.underlying26 (hS.rowsl 3 rfl) (by simp)) rfl (texts_one39 recs) (by omega) (by unfold maxLen; omega) ?_; intro v32 w32 hS1; clear hS; simp only [List.set_cons_zero, List.set_cons_succ, Nat.zero_add, List.nil_append] at hS1; obtain ⟨a32, c32, rfl, -⟩ := hS1.row 1 rfl; have hS := hS1; clear hS1) | (refine op_app_st (by kernel_rfl) 0 hS rfl rfl Try.underlying26 ex rfl (Src.slice Try.underlying26 (hS.rowsl 3 rfl) (by simp)) rfl (texts_one39 recs) (by omega) (by unfold maxLen; omega) ?_; intro v32 w32 hS1; clear hS; simp only [List.set_cons_zero, List.set_cons_succ, Nat.zero_add, List.nil_append] at hS1; obtain ⟨a32, c32, rfl, -⟩ := hS1.row 0 rfl; have hS := hS1; clear hS1) | (refine op_app_st (by kernel_rfl) 1 (news := [.string s]) hS rfl rfl Try.underlying26 ex rfl (Src.slice Try.underlying26 (hS.blksl2 0 rfl) rfl) rfl (by simp [Value.oneCell']) (by omega) (by unfold maxLen; omega) ?_; intro v33 w33 hS1; clear hS; simp only [List.set_cons_zero, List.set_cons_succ] at hS1; obtain ⟨a33, c33, rfl, -⟩ := hS1.row 1 rfl; have hS := hS1.drop; clear hS1) | (refine op_app_st (by kernel_rfl) 0 (news := [.string s]) hS rfl rfl Try.underlying26 ex rfl (Src.slice Try.underlying26 (hS.blksl2 1 rfl) rfl) rfl (by simp [Value.oneCell']) (by omega) (by unfold maxLen; omega) ?_; intro v33 w33 hS1; clear hS; simp only [List.set_cons_zero, List.set_cons_succ] at hS1; obtain ⟨a33, c33, rfl, -⟩ := hS1.row 0 rfl; have hS := hS1.drop1; clear hS1) )
                    try clear hC
                    refine hK.out _ _ _ (fun _ h => h) (by first | exact hS | exact hS.drop | exact hS.drop.drop | exact hS.drop.drop.drop | exact hS.drop.drop.drop.drop | exact hS.empty | exact hS.one 0 rfl | exact hS.one 1 rfl | exact hS.one 2 rfl | exact hS.one 3 rfl | exact hS.one 4 rfl | exact hS.one 5 rfl | exact hS.one 6 rfl | exact hS.one 7 rfl | exact hS.one 8 rfl | exact hS.one 9 rfl | exact hS.one 10 rfl | exact hS.one 11 rfl) (fun hC => ?_)
                    clear hK K
                    try simp only [List.getElem_toArray, List.getElem_cons_succ, List.getElem_cons_zero, Act.put, List.setIfInBounds_toArray, List.set_cons_zero, List.set_cons_succ]
                    refine mixs_one 6 (by kernel_rfl) rfl (fun K hK => ?_)
                    ( first | (refine op_build0s39 (by kernel_rfl) hS rfl Try.underlying26 ex ?_; intro g30 w30 hS1; clear hS; have hS := hS1; clear hS1) | (refine op_build1c_st (by kernel_rfl) hS rfl Try.underlying26 ex rfl ?_; intro g31 w31 hS1; clear hS; have hS := hS1; clear hS1) | (refine op_app_st (by kernel_rfl) 0 hS rfl rfl Try.underlying26 ex rfl (Src.slice Try.underlying26 (hS.rowsl 2 rfl) (by simp)) rfl (texts_one39 recs) (by omega) (by unfold maxLen; omega) ?_; intro v32 w32 hS1; clear hS; simp only [List.set_cons_zero, List.set_cons_succ, Nat.zero_add, List.nil_append] at hS1; obtain ⟨a32, c32, rfl, -⟩ := hS1.row 0 rfl; have hS := hS1; clear hS1) | (refine op_app_st (by kernel_rfl) 1 hS rfl rfl Try.underlying26 ex rfl (Src.slice Try.underlying26 (hS.rowsl 3 rfl) (by simp)) rfl (texts_one39 recs) (by omega) (by unfold maxLen; omega) ?_; intro v32 w32 hS1; clear hS; simp only [List.set_cons_zero, List.set_cons_succ, Nat.zero_add, List.nil_append] at hS1; obtain ⟨a32, c32, rfl, -⟩ := hS1.row 1 rfl; have hS := hS1; clear hS1) | (refine op_app_st (by kernel_rfl) 0 hS rfl rfl Try.underlying26 ex rfl (Src.slice Try.underlying26 (hS.rowsl 3 rfl) (by simp)) rfl (texts_one39 recs) (by omega) (by unfold maxLen; omega) ?_; intro v32 w32 hS1; clear hS; simp only [List.set_cons_zero, List.set_cons_succ, Nat.zero_add, List.nil_append] at hS1; obtain ⟨a32, c32, rfl, -⟩ := hS1.row 0 rfl; have hS := hS1; clear hS1) | (refine op_app_st (by kernel_rfl) 1 (news := [.string s]) hS rfl rfl Try.underlying26 ex rfl (Src.slice Try.underlying26 (hS.blksl2 0 rfl) rfl) rfl (by simp [Value.oneCell']) (by omega) (by unfold maxLen; omega) ?_; intro v33 w33 hS1; clear hS; simp only [List.set_cons_zero, List.set_cons_succ] at hS1; obtain ⟨a33, c33, rfl, -⟩ := hS1.row 1 rfl; have hS := hS1.drop; clear hS1) | (refine op_app_st (by kernel_rfl) 0 (news := [.string s]) hS rfl rfl Try.underlying26 ex rfl (Src.slice Try.underlying26 (hS.blksl2 1 rfl) rfl) rfl (by simp [Value.oneCell']) (by omega) (by unfold maxLen; omega) ?_; intro v33 w33 hS1; clear hS; simp only [List.set_cons_zero, List.set_cons_succ] at hS1; obtain ⟨a33, c33, rfl, -⟩ := hS1.row 0 rfl; have hS := hS1.drop1; clear hS1) )
                    try clear hC
                    refine hK.out _ _ _ (fun _ h => h) (by first | exact hS | exact hS.drop | exact hS.drop.drop | exact hS.drop.drop.drop | exact hS.drop.drop.drop.drop | exact hS.empty | exact hS.one 0 rfl | exact hS.one 1 rfl | exact hS.one 2 rfl | exact hS.one 3 rfl | exact hS.one 4 rfl | exact hS.one 5 rfl | exact hS.one 6 rfl | exact hS.one 7 rfl | exact hS.one 8 rfl | exact hS.one 9 rfl | exact hS.one 10 rfl | exact hS.one 11 rfl) (fun hC => ?_)
                    clear hK K
                    try simp only [List.getElem_toArray, List.getElem_cons_succ, List.getElem_cons_zero, Act.put, List.setIfInBounds_toArray, List.set_cons_zero, List.set_cons_succ]
                    refine mixs_take 7 (v := ?_) rfl (by kernel_rfl) (fun _ _ _ h => h) (by kernel_rfl) (by assumption) (fun s => ?hy) ?_; case hy => (go_simp <;> with_reducible rfl)
                    try simp only [List.getElem_toArray, List.getElem_cons_succ, List.getElem_cons_zero, Act.put, List.setIfInBounds_toArray, List.set_cons_zero, List.set_cons_succ]
                    refine wpAnyH_done (by kernel_rfl) ?_ _
                    try clear hC
                    go_wp2_with fail
                    go_meet
                    have e1 : (recs ++ [s]).length = recs.length + 1 := by simp
                    have e2 : (recs ++ [s]).map vs = recs.map vs ++ [.string s] := by simp [vs]
                    rw [e1, e2]
                    exact ⟨_, _, rfl, hS.swap⟩
                ·
                  ( first | (refine op_build0s39 (by kernel_rfl) hS rfl Try.underlying26 ex ?_; intro g30 w30 hS1; clear hS; have hS := hS1; clear hS1) | (refine op_build1c_st (by kernel_rfl) hS rfl Try.underlying26 ex rfl ?_; intro g31 w31 hS1; clear hS; have hS := hS1; clear hS1) | (refine op_app_st (by kernel_rfl) 0 hS rfl rfl Try.underlying26 ex rfl (Src.slice Try.underlying26 (hS.rowsl 2 rfl) (by simp)) rfl (texts_one39 recs) (by omega) (by unfold maxLen; omega) ?_; intro v32 w32 hS1; clear hS; simp only [List.set_cons_zero, List.set_cons_succ, Nat.zero_add, List.nil_append] at hS1; obtain ⟨a32, c32, rfl, -⟩ := hS1.row 0 rfl; have hS := hS1; clear hS1) | (refine op_app_st (by kernel_rfl) 1 hS rfl rfl Try.underlying26 ex rfl (Src.slice Try.underlying26 (hS.rowsl 3 rfl) (by simp)) rfl (texts_one39 recs) (by omega) (by unfold maxLen; omega) ?_; intro v32 w32 hS1; clear hS; simp only [List.set_cons_zero, List.set_cons_succ, Nat.zero_add, List.nil_append] at hS1; obtain ⟨a32, c32, rfl, -⟩ := hS1.row 1 rfl; have hS := hS1; clear hS1) | (refine op_app_st (by kernel_rfl) 0 hS rfl rfl Try.underlying26 ex rfl (Src.slice Try.underlying26 (hS.rowsl 3 rfl) (by simp)) rfl (texts_one39 recs) (by omega) (by unfold maxLen; omega) ?_; intro v32 w32 hS1; clear hS; simp only [List.set_cons_zero, List.set_cons_succ, Nat.zero_add, List.nil_append] at hS1; obtain ⟨a32, c32, rfl, -⟩ := hS1.row 0 rfl; have hS := hS1; clear hS1) | (refine op_app_st (by kernel_rfl) 1 (news := [.string s]) hS rfl rfl Try.underlying26 ex rfl (Src.slice Try.underlying26 (hS.blksl2 0 rfl) rfl) rfl (by simp [Value.oneCell']) (by omega) (by unfold maxLen; omega) ?_; intro v33 w33 hS1; clear hS; simp only [List.set_cons_zero, List.set_cons_succ] at hS1; obtain ⟨a33, c33, rfl, -⟩ := hS1.row 1 rfl; have hS := hS1.drop; clear hS1) | (refine op_app_st (by kernel_rfl) 0 (news := [.string s]) hS rfl rfl Try.underlying26 ex rfl (Src.slice Try.underlying26 (hS.blksl2 1 rfl) rfl) rfl (by simp [Value.oneCell']) (by omega) (by unfold maxLen; omega) ?_; intro v33 w33 hS1; clear hS; simp only [List.set_cons_zero, List.set_cons_succ] at hS1; obtain ⟨a33, c33, rfl, -⟩ := hS1.row 0 rfl; have hS := hS1.drop1; clear hS1) )
                  try clear hC
                  refine hK.out _ _ _ (fun _ h => h) (by first | exact hS | exact hS.drop | exact hS.drop.drop | exact hS.drop.drop.drop | exact hS.drop.drop.drop.drop | exact hS.empty | exact hS.one 0 rfl | exact hS.one 1 rfl | exact hS.one 2 rfl | exact hS.one 3 rfl | exact hS.one 4 rfl | exact hS.one 5 rfl | exact hS.one 6 rfl | exact hS.one 7 rfl | exact hS.one 8 rfl | exact hS.one 9 rfl | exact hS.one 10 rfl | exact hS.one 11 rfl) (fun hC => ?_)
                  clear hK K
                  try simp only [List.getElem_toArray, List.getElem_cons_succ, List.getElem_cons_zero, Act.put, List.setIfInBounds_toArray, List.set_cons_zero, List.set_cons_succ]
                  refine mixs_one 0 (by kernel_rfl) rfl (fun K hK => ?_)
                  ( first | (refine op_build0s39 (by kernel_rfl) hS rfl Try.underlying26 ex ?_; intro g30 w30 hS1; clear hS; have hS := hS1; clear hS1) | (refine op_build1c_st (by kernel_rfl) hS rfl Try.underlying26 ex rfl ?_; intro g31 w31 hS1; clear hS; have hS := hS1; clear hS1) | (refine op_app_st (by kernel_rfl) 0 hS rfl rfl Try.underlying26 ex rfl (Src.slice Try.underlying26 (hS.rowsl 2 rfl) (by simp)) rfl (texts_one39 recs) (by omega) (by unfold maxLen; omega) ?_; intro v32 w32 hS1; clear hS; simp only [List.set_cons_zero, List.set_cons_succ, Nat.zero_add, List.nil_append] at hS1; obtain ⟨a32, c32, rfl, -⟩ := hS1.row 0 rfl; have hS := hS1; clear hS1) | (refine op_app_st (by kernel_rfl) 1 hS rfl rfl Try.underlying26 ex rfl (Src.slice Try.underlying26 (hS.rowsl 3 rfl) (by simp)) rfl (texts_one39 recs) (by omega) (by unfold maxLen; omega) ?_; intro v32 w32 hS1; clear hS; simp only [List.set_cons_zero, List.set_cons_succ, Nat.zero_add, List.nil_append] at hS1; obtain ⟨a32, c32, rfl, -⟩ := hS1.row 1 rfl; have hS := hS1; clear hS1) | (refine op_app_st (by kernel_rfl) 0 hS rfl rfl Try.underlying26 ex rfl (Src.slice Try.underlying26 (hS.rowsl 3 rfl) (by simp)) rfl (texts_one39 recs) (by omega) (by unfold maxLen; omega) ?_; intro v32 w32 hS1; clear hS; simp only [List.set_cons_zero, List.set_cons_succ, Nat.zero_add, List.nil_append] at hS1; obtain ⟨a32, c32, rfl, -⟩ := hS1.row 0 rfl; have hS := hS1; clear hS1) | (refine op_app_st (by kernel_rfl) 1 (news := [.string s]) hS rfl rfl Try.underlying26 ex rfl (Src.slice Try.underlying26 (hS.blksl2 0 rfl) rfl) rfl (by simp [Value.oneCell']) (by omega) (by unfold maxLen; omega) ?_; intro v33 w33 hS1; clear hS; simp only [List.set_cons_zero, List.set_cons_succ] at hS1; obtain ⟨a33, c33, rfl, -⟩ := hS1.row 1 rfl; have hS := hS1.drop; clear hS1) | (refine op_app_st (by kernel_rfl) 0 (news := [.string s]) hS rfl rfl Try.underlying26 ex rfl (Src.slice Try.underlying26 (hS.blksl2 1 rfl) rfl) rfl (by simp [Value.oneCell']) (by omega) (by unfold maxLen; omega) ?_; intro v33 w33 hS1; clear hS; simp only [List.set_cons_zero, List.set_cons_succ] at hS1; obtain ⟨a33, c33, rfl, -⟩ := hS1.row 0 rfl; have hS := hS1.drop1; clear hS1) )
                  try clear hC
                  refine hK.out _ _ _ (fun _ h => h) (by first | exact hS | exact hS.drop | exact hS.drop.drop | exact hS.drop.drop.drop | exact hS.drop.drop.drop.drop | exact hS.empty | exact hS.one 0 rfl | exact hS.one 1 rfl | exact hS.one 2 rfl | exact hS.one 3 rfl | exact hS.one 4 rfl | exact hS.one 5 rfl | exact hS.one 6 rfl | exact hS.one 7 rfl | exact hS.one 8 rfl | exact hS.one 9 rfl | exact hS.one 10 rfl | exact hS.one 11 rfl) (fun hC => ?_)
                  clear hK K
                  try simp only [List.getElem_toArray, List.getElem_cons_succ, List.getElem_cons_zero, Act.put, List.setIfInBounds_toArray, List.set_cons_zero, List.set_cons_succ]
                  refine mixs_one 2 (by kernel_rfl) rfl (fun K hK => ?_)
                  ( first | (refine op_build0s39 (by kernel_rfl) hS rfl Try.underlying26 ex ?_; intro g30 w30 hS1; clear hS; have hS := hS1; clear hS1) | (refine op_build1c_st (by kernel_rfl) hS rfl Try.underlying26 ex rfl ?_; intro g31 w31 hS1; clear hS; have hS := hS1; clear hS1) | (refine op_app_st (by kernel_rfl) 0 hS rfl rfl Try.underlying26 ex rfl (Src.slice Try.underlying26 (hS.rowsl 2 rfl) (by simp)) rfl (texts_one39 recs) (by omega) (by unfold maxLen; omega) ?_; intro v32 w32 hS1; clear hS; simp only [List.set_cons_zero, List.set_cons_succ, Nat.zero_add, List.nil_append] at hS1; obtain ⟨a32, c32, rfl, -⟩ := hS1.row 0 rfl; have hS := hS1; clear hS1) | (refine op_app_st (by kernel_rfl) 1 hS rfl rfl Try.underlying26 ex rfl (Src.slice Try.underlying26 (hS.rowsl 3 rfl) (by simp)) rfl (texts_one39 recs) (by omega) (by unfold maxLen; omega) ?_; intro v32 w32 hS1; clear hS; simp only [List.set_cons_zero, List.set_cons_succ, Nat.zero_add, List.nil_append] at hS1; obtain ⟨a32, c32, rfl, -⟩ := hS1.row 1 rfl; have hS := hS1; clear hS1) | (refine op_app_st (by kernel_rfl) 0 hS rfl rfl Try.underlying26 ex rfl (Src.slice Try.underlying26 (hS.rowsl 3 rfl) (by simp)) rfl (texts_one39 recs) (by omega) (by unfold maxLen; omega) ?_; intro v32 w32 hS1; clear hS; simp only [List.set_cons_zero, List.set_cons_succ, Nat.zero_add, List.nil_append] at hS1; obtain ⟨a32, c32, rfl, -⟩ := hS1.row 0 rfl; have hS := hS1; clear hS1) | (refine op_app_st (by kernel_rfl) 1 (news := [.string s]) hS rfl rfl Try.underlying26 ex rfl (Src.slice Try.underlying26 (hS.blksl2 0 rfl) rfl) rfl (by simp [Value.oneCell']) (by omega) (by unfold maxLen; omega) ?_; intro v33 w33 hS1; clear hS; simp only [List.set_cons_zero, List.set_cons_succ] at hS1; obtain ⟨a33, c33, rfl, -⟩ := hS1.row 1 rfl; have hS := hS1.drop; clear hS1) | (refine op_app_st (by kernel_rfl) 0 (news := [.string s]) hS rfl rfl Try.underlying26 ex rfl (Src.slice Try.underlying26 (hS.blksl2 1 rfl) rfl) rfl (by simp [Value.oneCell']) (by omega) (by unfold maxLen; omega) ?_; intro v33 w33 hS1; clear hS; simp only [List.set_cons_zero, List.set_cons_succ] at hS1; obtain ⟨a33, c33, rfl, -⟩ := hS1.row 0 rfl; have hS := hS1.drop1; clear hS1) )
                  try clear hC
                  refine hK.out _ _ _ (fun _ h => h) (by first | exact hS | exact hS.drop | exact hS.drop.drop | exact hS.drop.drop.drop | exact hS.drop.drop.drop.drop | exact hS.empty | exact hS.one 0 rfl | exact hS.one 1 rfl | exact hS.one 2 rfl | exact hS.one 3 rfl | exact hS.one 4 rfl | exact hS.one 5 rfl | exact hS.one 6 rfl | exact hS.one 7 rfl | exact hS.one 8 rfl | exact hS.one 9 rfl | exact hS.one 10 rfl | exact hS.one 11 rfl) (fun hC => ?_)
                  clear hK K
                  try simp only [List.getElem_toArray, List.getElem_cons_succ, List.getElem_cons_zero, Act.put, List.setIfInBounds_toArray, List.set_cons_zero, List.set_cons_succ]
                  refine mixs_one 6 (by kernel_rfl) rfl (fun K hK => ?_)
                  ( first | (refine op_build0s39 (by kernel_rfl) hS rfl Try.underlying26 ex ?_; intro g30 w30 hS1; clear hS; have hS := hS1; clear hS1) | (refine op_build1c_st (by kernel_rfl) hS rfl Try.underlying26 ex rfl ?_; intro g31 w31 hS1; clear hS; have hS := hS1; clear hS1) | (refine op_app_st (by kernel_rfl) 0 hS rfl rfl Try.underlying26 ex rfl (Src.slice Try.underlying26 (hS.rowsl 2 rfl) (by simp)) rfl (texts_one39 recs) (by omega) (by unfold maxLen; omega) ?_; intro v32 w32 hS1; clear hS; simp only [List.set_cons_zero, List.set_cons_succ, Nat.zero_add, List.nil_append] at hS1; obtain ⟨a32, c32, rfl, -⟩ := hS1.row 0 rfl; have hS := hS1; clear hS1) | (refine op_app_st (by kernel_rfl) 1 hS rfl rfl Try.underlying26 ex rfl (Src.slice Try.underlying26 (hS.rowsl 3 rfl) (by simp)) rfl (texts_one39 recs) (by omega) (by unfold maxLen; omega) ?_; intro v32 w32 hS1; clear hS; simp only [List.set_cons_zero, List.set_cons_succ, Nat.zero_add, List.nil_append] at hS1; obtain ⟨a32, c32, rfl, -⟩ := hS1.row 1 rfl; have hS := hS1; clear hS1) | (refine op_app_st (by kernel_rfl) 0 hS rfl rfl Try.underlying26 ex rfl (Src.slice Try.underlying26 (hS.rowsl 3 rfl) (by simp)) rfl (texts_one39 recs) (by omega) (by unfold maxLen; omega) ?_; intro v32 w32 hS1; clear hS; simp only [List.set_cons_zero, List.set_cons_succ, Nat.zero_add, List.nil_append] at hS1; obtain ⟨a32, c32, rfl, -⟩ := hS1.row 0 rfl; have hS := hS1; clear hS1) | (refine op_app_st (by kernel_rfl) 1 (news := [.string s]) hS rfl rfl Try.underlying26 ex rfl (Src.slice Try.underlying26 (hS.blksl2 0 rfl) rfl) rfl (by simp [Value.oneCell']) (by omega) (by unfold maxLen; omega) ?_; intro v33 w33 hS1; clear hS; simp only [List.set_cons_zero, List.set_cons_succ] at hS1; obtain ⟨a33, c33, rfl, -⟩ := hS1.row 1 rfl; have hS := hS1.drop; clear hS1) | (refine op_app_st (by kernel_rfl) 0 (news := [.string s]) hS rfl rfl Try.underlying26 ex rfl (Src.slice Try.underlying26 (hS.blksl2 1 rfl) rfl) rfl (by simp [Value.oneCell']) (by omega) (by unfold maxLen; omega) ?_; intro v33 w33 hS1; clear hS; simp only [List.set_cons_zero, List.set_cons_succ] at hS1; obtain ⟨a33, c33, rfl, -⟩ := hS1.row 0 rfl; have hS := hS1.drop1; clear hS1) )
                  try clear hC
                  refine hK.out _ _ _ (fun _ h => h) (by first | exact hS | exact hS.drop | exact hS.drop.drop | exact hS.drop.drop.drop | exact hS.drop.drop.drop.drop | exact hS.empty | exact hS.one 0 rfl | exact hS.one 1 rfl | exact hS.one 2 rfl | exact hS.one 3 rfl | exact hS.one 4 rfl | exact hS.one 5 rfl | exact hS.one 6 rfl | exact hS.one 7 rfl | exact hS.one 8 rfl | exact hS.one 9 rfl | exact hS.one 10 rfl | exact hS.one 11 rfl) (fun hC => ?_)
                  clear hK K
                  try simp only [List.getElem_toArray, List.getElem_cons_succ, List.getElem_cons_zero, Act.put, List.setIfInBounds_toArray, List.set_cons_zero, List.set_cons_succ]
                  refine mixs_take 7 (v := ?_) rfl (by kernel_rfl) (fun _ _ _ h => h) (by kernel_rfl) (by assumption) (fun s => ?hy) ?_; case hy => (go_simp <;> with_reducible rfl)
                  try simp only [List.getElem_toArray, List.getElem_cons_succ, List.getElem_cons_zero, Act.put, List.setIfInBounds_toArray, List.set_cons_zero, List.set_cons_succ]
                  refine wpAnyH_done (by kernel_rfl) ?_ _
                  try clear hC
                  go_wp2_with fail
                  go_meet
                  have e1 : (recs ++ [s]).length = recs.length + 1 := by simp
                  have e2 : (recs ++ [s]).map vs = recs.map vs ++ [.string s] := by simp [vs]
                  rw [e1, e2]
                  exact ⟨_, _, rfl, hS.swap⟩
            case rest =>
              clear hS
              obtain ⟨a1, c1, rfl, hS⟩ := hcut
              have cR : ∀ (W : World), St W (feet (vts g gr bd sv wv (d.fz fz) r x false)) (vts g gr bd sv wv (d.fz fz) r x false) W → Calls Try.prog 60 #[.pointer (some ⟨g, 0, none⟩), .string s] W fun e w' => ∃ er wv' d2 r2 gn, e = .returned (.int .i64 er) ∧ Hid (Falls39 i keep d2 er text recs text (recs ++ [s])) ∧ St W (feet (vts g gr bd sv wv (d.fz fz) r x false)) (vts g gr bd sv wv' d2 r2 x gn) w' := by
                intro W hh
                obtain ⟨L, hL, hsp, hfit, k1, k2, k3⟩ := id hF.out
                refine (vlmore_any g gr bd sv wv (d.fz fz) r x false 30 0 s W hh hL.stands.ring (hfit.fused fz hfb.out) (by omega) (by have := many_500v (n := s.size + 1) (by omega); omega) (by omega)).mono ?_
                rintro e w' ⟨rfl, wv', hk⟩
                exact ⟨_, _, _, _, _, rfl, Lib.hid (add39 hF.out (by omega) hfb.out keep hq.1), hk⟩
              replace cR := Lib.hid cR
              go_wp2_with (first | (go_at_call 60; (with_reducible refine (cR.out _ (hS.preM (A := [_, _, _]) (B := vts g gr bd sv wv (d.fz fz) r x false) (R := []))).mono ?_); rintro _ w5 ⟨er, wv5, d5, r5, gn5, rfl, hO, hk⟩; have hS1 := hS.callM (A := [_, _, _]) (B := vts g gr bd sv wv (d.fz fz) r x false) (R := []) hk; clear hS hk; have hS : St w [] (Ch.blk gA 113 #[.int .i64 0, .int .i64 nn, .string s, .slice ka keep.length kc, vb cc] :: Ch.row 9 1 (.slice a1 (recs ++ [s]).length c1) (recs ++ [s]).length ((recs ++ [s]).map vs) :: Ch.row 9 1 (.slice av recs.length cv) recs.length (recs.map vs) :: vlt g gr bd x gn5 :: rng gr bd r5 :: (dks bd sv wv5 d5 ++ [])) w5 := hS1; clear hS1) | (with_reducible refine wpList_box_st hS rfl rfl rfl ?_; intro g1 w1 hS1; clear hS; replace hS := hS1; clear hS1) | (with_reducible refine wpList_box1_st hS rfl rfl rfl ?_; intro g1 w1 hS1; clear hS; replace hS := hS1; clear hS1) | (with_reducible refine wpList_alloc_st hS rfl rfl (by assumption) ?_; intro g1 w1 hS1; clear hS; replace hS := hS1; clear hS1) | (with_reducible refine wpList_alloc1_st hS rfl rfl (by assumption) rfl ?_; intro g1 w1 hS1; clear hS; replace hS := hS1; clear hS1) | ((with_reducible refine wpList_load_st 0 hS rfl rfl rfl rfl ?_ rfl ?_); focus (simp [scalarB, go_sem]; done)) | ((with_reducible refine wpList_loadall_st 0 hS rfl rfl rfl rfl ?_ (by kernel_rfl) ?_); focus (simp [rowB, go_sem]; done)) | ((with_reducible refine wpList_store_st 0 hS rfl rfl rfl rfl (by kernel_rfl) rfl rfl ?_); intro w1 hS1; clear hS; replace hS := hS1; clear hS1; try simp only [List.set_cons_zero, List.set_cons_succ, List.setIfInBounds_toArray, List.take_succ_cons, List.take_zero, List.drop_succ_cons, List.drop_zero, List.nil_append, List.cons_append, List.append_nil, List.drop_nil, List.take_nil, List.length_cons, List.length_nil, Nat.zero_add, Nat.add_zero, Nat.reduceAdd] at hS) | ((with_reducible refine wpList_storerow_st 0 hS rfl rfl rfl rfl (by kernel_rfl) rfl rfl rfl rfl ?_); intro w1 hS1; clear hS; replace hS := hS1; clear hS1; try simp only [List.set_cons_zero, List.set_cons_succ, List.setIfInBounds_toArray, List.take_succ_cons, List.take_zero, List.drop_succ_cons, List.drop_zero, List.nil_append, List.cons_append, List.append_nil, List.drop_nil, List.take_nil, List.length_cons, List.length_nil, Nat.zero_add, Nat.add_zero, Nat.reduceAdd] at hS))
              go_meet
              exact ⟨text, a1, recs ++ [s], c1, er, sv, wv5, d5, [Ch.row 9 1 (.slice a1 (recs ++ [s]).length c1) (recs ++ [s]).length ((recs ++ [s]).map vs), Ch.row 9 1 (.slice av recs.length cv) recs.length (recs.map vs), vlt g gr bd x gn5, rng gr bd r5], rfl, by simp, rfl, Lib.hid (fun A B W h => ⟨sl_in h 0 rfl, sl_in h 1 rfl⟩), hO, hS⟩
          · by_cases h1 : kd = 1
            · subst h1
              clear h0
              have cR : ∀ (W : World), St W (feet (vts g gr bd sv wv (d.fz fz) r x false)) (vts g gr bd sv wv (d.fz fz) r x false) W → Calls Try.prog 62 #[.pointer (some ⟨g, 0, none⟩), .string s] W fun e w' => ∃ er wv' d2 r2 x2 gn, e = .returned (.int .i64 er) ∧ Hid (Falls39 i keep d2 er text recs s []) ∧ St W (feet (vts g gr bd sv wv (d.fz fz) r x false)) (vts g gr bd sv wv' d2 r2 x2 gn) w' := by
                intro W hh
                obtain ⟨L, hL, hsp, hfit, k1, k2, k3⟩ := id hF.out
                have hx := (Rt.ok_iff x).1 hL.root.1
                refine (vlrenew_any g gr bd sv wv (d.fz fz) r x false 30 0 s W hh hL.stands.ring (hfit.fused fz hfb.out) (by omega) (by have := many_500v (n := s.size + 1) (by omega); omega) (by omega) (by omega)).mono ?_
                rintro e w' ⟨rfl, wv', hk⟩
                exact ⟨_, _, _, _, _, _, rfl, Lib.hid (renew39 hF.out (by omega) hfb.out keep hq.1), hk⟩
              replace cR := Lib.hid cR
              go_wp2_with (first | (go_at_call 62; (with_reducible refine (cR.out _ (hS.preM (A := [_, _]) (B := vts g gr bd sv wv (d.fz fz) r x false) (R := []))).mono ?_); rintro _ w5 ⟨er, wv5, d5, r5, x5, gn5, rfl, hO, hk⟩; have hS1 := hS.callM (A := [_, _]) (B := vts g gr bd sv wv (d.fz fz) r x false) (R := []) hk; clear hS hk; have hS : St w [] (Ch.blk gA 113 #[.int .i64 1, .int .i64 nn, .string s, .slice ka keep.length kc, vb cc] :: Ch.row 9 1 (.slice av recs.length cv) recs.length (recs.map vs) :: vlt g gr bd x5 gn5 :: rng gr bd r5 :: (dks bd sv wv5 d5 ++ [])) w5 := hS1; clear hS1) | (with_reducible refine wpList_box_st hS rfl rfl rfl ?_; intro g1 w1 hS1; clear hS; replace hS := hS1; clear hS1) | (with_reducible refine wpList_box1_st hS rfl rfl rfl ?_; intro g1 w1 hS1; clear hS; replace hS := hS1; clear hS1) | (with_reducible refine wpList_alloc_st hS rfl rfl (by assumption) ?_; intro g1 w1 hS1; clear hS; replace hS := hS1; clear hS1) | (with_reducible refine wpList_alloc1_st hS rfl rfl (by assumption) rfl ?_; intro g1 w1 hS1; clear hS; replace hS := hS1; clear hS1) | ((with_reducible refine wpList_load_st 0 hS rfl rfl rfl rfl ?_ rfl ?_); focus (simp [scalarB, go_sem]; done)) | ((with_reducible refine wpList_loadall_st 0 hS rfl rfl rfl rfl ?_ (by kernel_rfl) ?_); focus (simp [rowB, go_sem]; done)) | ((with_reducible refine wpList_store_st 0 hS rfl rfl rfl rfl (by kernel_rfl) rfl rfl ?_); intro w1 hS1; clear hS; replace hS := hS1; clear hS1; try simp only [List.set_cons_zero, List.set_cons_succ, List.setIfInBounds_toArray, List.take_succ_cons, List.take_zero, List.drop_succ_cons, List.drop_zero, List.nil_append, List.cons_append, List.append_nil, List.drop_nil, List.take_nil, List.length_cons, List.length_nil, Nat.zero_add, Nat.add_zero, Nat.reduceAdd] at hS) | ((with_reducible refine wpList_storerow_st 0 hS rfl rfl rfl rfl (by kernel_rfl) rfl rfl rfl rfl ?_); intro w1 hS1; clear hS; replace hS := hS1; clear hS1; try simp only [List.set_cons_zero, List.set_cons_succ, List.setIfInBounds_toArray, List.take_succ_cons, List.take_zero, List.drop_succ_cons, List.drop_zero, List.nil_append, List.cons_append, List.append_nil, List.drop_nil, List.take_nil, List.length_cons, List.length_nil, Nat.zero_add, Nat.add_zero, Nat.reduceAdd] at hS))
              go_meet
              exact ⟨s, none, [], 0, er, sv, wv5, d5, [Ch.row 9 1 (.slice av recs.length cv) recs.length (recs.map vs), vlt g gr bd x5 gn5, rng gr bd r5], rfl, rfl, rfl, Lib.hid (fun A B W h => ⟨Sl.nil _ _, sl_in h 0 rfl⟩), hO, hS⟩
            · have hb0 : (kd == 0) = false := by simpa using h0
              have hb1 : (kd == 1) = false := by simpa using h1
              have cO : ∀ (W : World), St W (feet (dks bd sv wv (d.fz fz))) (dks bd sv wv (d.fz fz)) W → Calls Try.prog 59 #[.pointer (some ⟨bd, 0, none⟩)] W fun e w' => ∃ er wv' d2 R v1 v2 v3, e = .returned (.tuple #[v1, v2, v3, .int .i64 er]) ∧ Hid (Falls39 i keep d2 er text recs text recs) ∧ St W (feet (dks bd sv wv (d.fz fz))) (R ++ dks bd sv wv' d2) w' := by
                intro W hh
                have hO := open39 hF.out (by omega) hfb.out keep
                obtain ⟨hL, hx⟩ := looks_fz hF.out (by omega) fz
                obtain ⟨L, -, -, hfit, -, -, -⟩ := id hF.out
                refine (vlopen_main bd sv wv (d.fz fz) 30 0 text recs 0 x r.tail hL hx W hh (hfit.fused fz hfb.out) (by omega) (by omega)).mono ?_
                rintro e w' (⟨-, rfl, wv', hk⟩ | ⟨k1, wv', g2, gr2, v, rfl, hk⟩)
                · exact ⟨_, wv', _, [], _, _, _, rfl, Lib.hid hO, hk⟩
                · rw [k1] at hO
                  exact ⟨_, wv', _, [_, _, _], _, _, _, rfl, Lib.hid hO, hk⟩
              replace cO := Lib.hid cO
              go_wp2_with (first | (go_at_call 59; (with_reducible refine (cO.out _ (hS.preM (A := [_, _, _, _]) (B := dks bd sv wv (d.fz fz)) (R := []))).mono ?_); rintro _ w5 ⟨er, wv5, d5, R5, v1, v2, v3, rfl, hO, hk⟩; have hS1 := hS.callM (A := [_, _, _, _]) (B := dks bd sv wv (d.fz fz)) (R := []) hk; clear hS hk; rw [List.append_assoc] at hS1; have hS : St w [] (Ch.blk gA 113 #[.int .i64 kd, .int .i64 nn, .string s, .slice ka keep.length kc, vb cc] :: ([Ch.row 9 1 (.slice av recs.length cv) recs.length (recs.map vs), vlt g gr bd x false, rng gr bd r] ++ (R5 ++ (dks bd sv wv5 d5 ++ [])))) w5 := hS1; clear hS1) | (with_reducible refine wpList_box_st hS rfl rfl rfl ?_; intro g1 w1 hS1; clear hS; replace hS := hS1; clear hS1) | (with_reducible refine wpList_box1_st hS rfl rfl rfl ?_; intro g1 w1 hS1; clear hS; replace hS := hS1; clear hS1) | (with_reducible refine wpList_alloc_st hS rfl rfl (by assumption) ?_; intro g1 w1 hS1; clear hS; replace hS := hS1; clear hS1) | (with_reducible refine wpList_alloc1_st hS rfl rfl (by assumption) rfl ?_; intro g1 w1 hS1; clear hS; replace hS := hS1; clear hS1) | ((with_reducible refine wpList_load_st 0 hS rfl rfl rfl rfl ?_ rfl ?_); focus (simp [scalarB, go_sem]; done)) | ((with_reducible refine wpList_loadall_st 0 hS rfl rfl rfl rfl ?_ (by kernel_rfl) ?_); focus (simp [rowB, go_sem]; done)) | ((with_reducible refine wpList_store_st 0 hS rfl rfl rfl rfl (by kernel_rfl) rfl rfl ?_); intro w1 hS1; clear hS; replace hS := hS1; clear hS1; try simp only [List.set_cons_zero, List.set_cons_succ, List.setIfInBounds_toArray, List.take_succ_cons, List.take_zero, List.drop_succ_cons, List.drop_zero, List.nil_append, List.cons_append, List.append_nil, List.drop_nil, List.take_nil, List.length_cons, List.length_nil, Nat.zero_add, Nat.add_zero, Nat.reduceAdd] at hS) | ((with_reducible refine wpList_storerow_st 0 hS rfl rfl rfl rfl (by kernel_rfl) rfl rfl rfl rfl ?_); intro w1 hS1; clear hS; replace hS := hS1; clear hS1; try simp only [List.set_cons_zero, List.set_cons_succ, List.setIfInBounds_toArray, List.take_succ_cons, List.take_zero, List.drop_succ_cons, List.drop_zero, List.nil_append, List.cons_append, List.append_nil, List.drop_nil, List.take_nil, List.length_cons, List.length_nil, Nat.zero_add, Nat.add_zero, Nat.reduceAdd] at hS))
              go_meet
              rw [← List.append_assoc] at hS
              exact ⟨text, av, recs, cv, er, sv, wv5, d5, _, rfl, rfl, rfl, Lib.hid (fun A B W h => ⟨sl_in h 0 rfl, sl_in h 0 rfl⟩), hO, hS⟩
        case rest =>
          have hrl30 : recs.length ≤ 30 := by obtain ⟨L, -, -, -, -, -, k⟩ := hF.out; exact k
          clear hS hF
          obtain ⟨nt, na, nrecs, nc, er, sv', wv', d', R, rfl, rfl, rfl, hsl, hO, hS⟩ := hcut
          obtain ⟨hfit, hn31, her, x', l', t', text', m', hFd, hsp, hfit2, k1, k2, k3, hor⟩ := hO.out
          clear hO
          have m7 : Sl w ka (keep.map vi) := hm.sl
          have m8 : keep.length ≤ maxLen := Nat.le_trans hm.le hm.cm
          have m9 := hm.keep
          have cC : ∀ W, St w [] ((Ch.blk gA 113 #[.int .i64 kd, .int .i64 nn, .string s, .slice ka keep.length kc, vb cc] :: R) ++ (dks bd sv' wv' d' ++ [])) W → Calls Try.prog 21 #[.pointer (some ⟨bd, 0, none⟩), .slice ka keep.length kc] W fun e w' => e = .returned (.tuple #[]) ∧ ∃ wv2, St W (feet (dks bd sv' wv' d')) (dks bd sv' wv2 (d'.crash keep)) w' := fun W hh =>
            crash_any bd sv' wv' d' ka keep keep.length kc W (hh.preM (A := Ch.blk gA 113 #[.int .i64 kd, .int .i64 nn, .string s, .slice ka keep.length kc, vb cc] :: R) (B := dks bd sv' wv' d') (R := [])) hfit.ok hfit.wait (m7.old hh (by simp)) (fun z hz => (m9 z hz).2) rfl m8 (fun h0 b o e => by
              obtain ⟨b', o', e', hc'⟩ := m7 0 (by simpa using h0)
              rw [e] at e'
              cases e'
              have := hh.oldoff (World.block_lt_of_cell? w _ hc')
              have := (feet_off (A := Ch.blk gA 113 #[.int .i64 kd, .int .i64 nn, .string s, .slice ka keep.length kc, vb cc] :: R) (B := dks bd sv' wv' d' ++ []) this).2
              exact (feet_off this).1)
          have cL : ∀ wv2 W, St W (feet (dks bd sv' wv2 (d'.crash keep))) (dks bd sv' wv2 (d'.crash keep)) W → Calls Try.prog 63 #[.pointer (some ⟨bd, 0, none⟩)] W fun e w' => ∃ av6 cv6, e = .returned (.tuple #[.string text', .slice av6 m'.length cv6, .int .i64 0]) ∧ St W (feet (dks bd sv' wv2 (d'.crash keep))) (Ch.row 9 1 (.slice av6 m'.length cv6) m'.length (m'.map vs) :: dks bd sv' wv2 (d'.crash keep)) w' := fun wv2 W hh =>
            (vlook_founds bd sv' wv2 _ 30 x' l' m' t' text' hFd hsp hfit2 (by omega) W hh).mono fun e w' ⟨v, h1, h2⟩ => by
              obtain ⟨av6, cv6, rfl, -⟩ := h2.row 0 rfl
              exact ⟨av6, cv6, h1, h2⟩
          have cP : ∀ wv2 W, St W (feet (dks bd sv' wv2 (d'.crash keep))) (dks bd sv' wv2 (d'.crash keep)) W → Calls Try.prog 59 #[.pointer (some ⟨bd, 0, none⟩)] W fun e w' => ∃ g8 gr8 av8 cv8 wv8 d8 x8 r8, e = .returned (.tuple #[.pointer (some ⟨g8, 0, none⟩), .string text', .slice av8 m'.length cv8, .int .i64 0]) ∧ Hid (FallI (i + 1) d8 x8 r8 text' m') ∧ St W (feet (dks bd sv' wv2 (d'.crash keep))) (Ch.row 9 1 (.slice av8 m'.length cv8) m'.length (m'.map vs) :: vts g8 gr8 bd sv' wv8 d8 r8 x8 false) w' := by
            intro wv2 W hh
            refine (vopen_founds bd sv' wv2 (d'.crash keep) 30 x' l' m' t' text' hFd hsp hfit2 (by omega) (by omega) (by omega) W hh).mono ?_
            rintro e w' ⟨g8, gr8, v, wv8, d8, rfl, h2, h3, h4, h5⟩
            obtain ⟨av8, cv8, rfl, -⟩ := h5.row 0 rfl
            exact ⟨g8, gr8, av8, cv8, wv8, d8, _, _, rfl, Lib.hid (next39 h2 hsp h3 rfl k1 k2 k3), h5⟩
          replace cC := Lib.hid cC
          replace cL := Lib.hid cL
          replace cP := Lib.hid cP
          replace hor := Lib.hid hor
          replace hrl30 := Lib.hid hrl30
          have hm30 := Lib.hid k3
          clear hFd hsp hfit hfit2 m7 m8 m9 k1 k2 k3
          go_upto_if 83 with (first | (with_reducible refine wpList_box_st hS rfl rfl rfl ?_; intro g1 w1 hS1; clear hS; replace hS := hS1; clear hS1) | (with_reducible refine wpList_box1_st hS rfl rfl rfl ?_; intro g1 w1 hS1; clear hS; replace hS := hS1; clear hS1) | (with_reducible refine wpList_alloc_st hS rfl rfl (by assumption) ?_; intro g1 w1 hS1; clear hS; replace hS := hS1; clear hS1) | (with_reducible refine wpList_alloc1_st hS rfl rfl (by assumption) rfl ?_; intro g1 w1 hS1; clear hS; replace hS := hS1; clear hS1) | ((with_reducible refine wpList_load_st 0 hS rfl rfl rfl rfl ?_ rfl ?_); focus (simp [scalarB, go_sem]; done)) | ((with_reducible refine wpList_loadall_st 0 hS rfl rfl rfl rfl ?_ (by kernel_rfl) ?_); focus (simp [rowB, go_sem]; done)) | ((with_reducible refine wpList_store_st 0 hS rfl rfl rfl rfl (by kernel_rfl) rfl rfl ?_); intro w1 hS1; clear hS; replace hS := hS1; clear hS1; try simp only [List.set_cons_zero, List.set_cons_succ, List.setIfInBounds_toArray, List.take_succ_cons, List.take_zero, List.drop_succ_cons, List.drop_zero, List.nil_append, List.cons_append, List.append_nil, List.drop_nil, List.take_nil, List.length_cons, List.length_nil, Nat.zero_add, Nat.add_zero, Nat.reduceAdd] at hS) | ((with_reducible refine wpList_storerow_st 0 hS rfl rfl rfl rfl (by kernel_rfl) rfl rfl rfl rfl ?_); intro w1 hS1; clear hS; replace hS := hS1; clear hS1; try simp only [List.set_cons_zero, List.set_cons_succ, List.setIfInBounds_toArray, List.take_succ_cons, List.take_zero, List.drop_succ_cons, List.drop_zero, List.nil_append, List.cons_append, List.append_nil, List.drop_nil, List.take_nil, List.length_cons, List.length_nil, Nat.zero_add, Nat.add_zero, Nat.reduceAdd] at hS))
          go_cut [10, 11] from 32 to 161 (fun v10 v11 wx => ∃ (nt2 : ByteArray) (na2 : Option Addr) (nrecs2 : List ByteArray) (nc2 : Nat), v10 = .string nt2 ∧ v11 = .slice na2 nrecs2.length nc2 ∧ Hid (∀ A B W, St w [] (A ++ (R ++ B)) W → Sl W na2 (nrecs2.map vs) ∧ Sl W av (recs.map vs)) ∧ Hid (nrecs2.length ≤ 31 ∧ ((text' = text ∧ m' = recs ∧ er ≠ 0) ∨ (text' = nt2 ∧ m' = nrecs2))) ∧ wx = wc)
          case first =>
            by_cases h8 : er = 8
            · have hh := Lib.hid (show recs.length ≤ 31 ∧ ((text' = text ∧ m' = recs ∧ er ≠ 0) ∨ (text' = text ∧ m' = recs)) from ⟨by have := hrl30.out; omega, .inr (by rcases hor.out with h | h; exact ⟨h.1, h.2.1⟩; exact absurd h8 h.2.2)⟩)
              have hb8 : (er == 8) = true := by simpa using h8
              clear h8
              go_wp2_with fail
              go_meet
              exact ⟨text, av, recs, cv, rfl, rfl, Lib.hid (fun A B W h => ⟨(hsl.out A B W h).2, (hsl.out A B W h).2⟩), hh, rfl⟩
            · have hh := Lib.hid (show nrecs.length ≤ 31 ∧ ((text' = text ∧ m' = recs ∧ er ≠ 0) ∨ (text' = nt ∧ m' = nrecs)) from ⟨hn31, hor.out.imp id fun h => ⟨h.1, h.2.1⟩⟩)
              have hb8 : (er == 8) = false := by simpa using h8
              go_wp2_with fail
              go_meet
              exact ⟨nt, na, nrecs, nc, rfl, rfl, hsl, hh, rfl⟩
          case rest =>
            clear hsl hor hn31
            obtain ⟨nt2, na2, nrecs2, nc2, rfl, rfl, hsl, hor, rfl⟩ := hcut
            clear nt na nrecs nc
            have hS1 : St w [] ((Ch.blk gA 113 #[.int .i64 kd, .int .i64 nn, .string s, .slice ka keep.length kc, vb cc] :: R) ++ (dks bd sv' wv' d' ++ [])) _ := hS
            clear hS
            have hS := hS1
            clear hS1
            go_upto_region 28 with (first
              | (go_at_call 21; (with_reducible refine (cC.out _ hS).mono ?_); rintro _ w6 ⟨rfl, wv6, hk⟩; have hS1 := hS.callM (A := Ch.blk gA 113 #[.int .i64 kd, .int .i64 nn, .string s, .slice ka keep.length kc, vb cc] :: R) (B := dks bd sv' wv' d') (R := []) hk; clear hS hk; have hS := hS1; clear hS1)
              | (go_at_call 63; (with_reducible refine (cL.out _ _ (hS.preM (A := Ch.blk gA 113 #[.int .i64 kd, .int .i64 nn, .string s, .slice ka keep.length kc, vb cc] :: R) (B := dks bd sv' _ (d'.crash keep)) (R := []))).mono ?_); rintro _ w7 ⟨av6, cv6, rfl, hk⟩; have hS1 := hS.callM (A := Ch.blk gA 113 #[.int .i64 kd, .int .i64 nn, .string s, .slice ka keep.length kc, vb cc] :: R) (B := dks bd sv' _ (d'.crash keep)) (R := []) hk; clear hS hk; have hS := hS1; clear hS1)
              | (with_reducible refine wpList_box_st hS rfl rfl rfl ?_; intro g1 w1 hS1; clear hS; replace hS := hS1; clear hS1) | (with_reducible refine wpList_box1_st hS rfl rfl rfl ?_; intro g1 w1 hS1; clear hS; replace hS := hS1; clear hS1) | (with_reducible refine wpList_alloc_st hS rfl rfl (by assumption) ?_; intro g1 w1 hS1; clear hS; replace hS := hS1; clear hS1) | (with_reducible refine wpList_alloc1_st hS rfl rfl (by assumption) rfl ?_; intro g1 w1 hS1; clear hS; replace hS := hS1; clear hS1) | ((with_reducible refine wpList_load_st 0 hS rfl rfl rfl rfl ?_ rfl ?_); focus (simp [scalarB, go_sem]; done)) | ((with_reducible refine wpList_loadall_st 0 hS rfl rfl rfl rfl ?_ (by kernel_rfl) ?_); focus (simp [rowB, go_sem]; done)) | ((with_reducible refine wpList_store_st 0 hS rfl rfl rfl rfl (by kernel_rfl) rfl rfl ?_); intro w1 hS1; clear hS; replace hS := hS1; clear hS1; try simp only [List.set_cons_zero, List.set_cons_succ, List.setIfInBounds_toArray, List.take_succ_cons, List.take_zero, List.drop_succ_cons, List.drop_zero, List.nil_append, List.cons_append, List.append_nil, List.drop_nil, List.take_nil, List.length_cons, List.length_nil, Nat.zero_add, Nat.add_zero, Nat.reduceAdd] at hS) | ((with_reducible refine wpList_storerow_st 0 hS rfl rfl rfl rfl (by kernel_rfl) rfl rfl rfl rfl ?_); intro w1 hS1; clear hS; replace hS := hS1; clear hS1; try simp only [List.set_cons_zero, List.set_cons_succ, List.setIfInBounds_toArray, List.take_succ_cons, List.take_zero, List.drop_succ_cons, List.drop_zero, List.nil_append, List.cons_append, List.append_nil, List.drop_nil, List.take_nil, List.length_cons, List.length_nil, Nat.zero_add, Nat.add_zero, Nat.reduceAdd] at hS))
            have hS1 : St w [] ((Ch.blk gA 113 #[.int .i64 kd, .int .i64 nn, .string s, .slice ka keep.length kc, vb cc] :: R) ++ ((Ch.row 9 1 (.slice av6 m'.length cv6) m'.length (m'.map vs) :: dks bd sv' wv6 (d'.crash keep)) ++ [])) _ := hS
            clear hS
            have hS := hS1
            clear hS1 cC cL
            have cT : ∀ (a1 a2 : Option Addr) (l1 l2 : List ByteArray) (c1 c2 : Nat) (W : World), Sl W a1 (l1.map vs) → Sl W a2 (l2.map vs) → l1.length ≤ 31 → l2.length ≤ 31 → Calls Try.prog 46 #[.slice a1 l1.length c1, .slice a2 l2.length c2] W fun e w' => e = .returned (.bool (decide (l1 = l2))) ∧ Below W.heap.size W w' := fun a1 a2 l1 l2 c1 c2 W h1 h2 h3 h4 => texts_any a1 a2 l1 l2 _ _ c1 c2 W h1 h2 rfl rfl (by omega) (by omega)
            replace cT := Lib.hid cT
            have hm31 := Lib.hid (show m'.length ≤ 31 by have := hm30.out; omega)
            obtain ⟨bw, hbw⟩ : ∃ bw, decide (text' = text ∧ m' = recs) = bw := ⟨_, rfl⟩
            obtain ⟨bi, hbi⟩ : ∃ bi, decide (text' = nt2 ∧ m' = nrecs2) = bi := ⟨_, rfl⟩
            replace hbw := Lib.hid hbw
            replace hbi := Lib.hid hbi
            go_cut [16] from 32 to 161 (fun v16 wx => v16 = .bool bw ∧ St w [] ((Ch.blk gA 113 #[.int .i64 kd, .int .i64 nn, .string s, .slice ka keep.length kc, vb cc] :: R) ++ ((Ch.row 9 1 (.slice av6 m'.length cv6) m'.length (m'.map vs) :: dks bd sv' wv6 (d'.crash keep)) ++ [])) wx)
            case first =>
              have hr31 := Lib.hid (show recs.length ≤ 31 by have := hrl30.out; omega)
              by_cases ht : text' = text
              · have hb1 : (text'.toList == text.toList) = true := by rw [ht]; simp
                have hd : bw = decide (m' = recs) := by rw [← hbw.out]; simp [ht]
                replace hd := Lib.hid hd
                clear ht
                go_wp2_with (first
                  | (go_at_call 46; (with_reducible refine (cT.out _ _ _ _ _ _ _ (sl_in (R := Ch.row 9 1 (.slice av6 m'.length cv6) m'.length (m'.map vs) :: dks bd sv' wv6 (d'.crash keep)) hS 0 rfl) (hsl.out [_] _ _ hS).2 hm31.out hr31.out).mono ?_); rintro _ w8 ⟨rfl, hk8⟩; have hS1 := hS.keepB hk8; clear hk8 hS; have hS := hS1; clear hS1))
                go_meet
                exact ⟨by rw [hd.out], hS⟩
              · have hb1 : (text'.toList == text.toList) = false := by
                  rw [beq_eq_false_iff_ne]
                  intro e
                  exact ht (ba_ext (by rw [ByteArray.toList_eq, ByteArray.toList_eq] at e; exact e))
                have hd : bw = false := by rw [← hbw.out]; simp [ht]
                replace hd := Lib.hid hd
                clear ht
                go_wp2_with fail
                go_meet
                exact ⟨by rw [hd.out], hS⟩
            case rest =>
              clear hS
              obtain ⟨rfl, hS⟩ := hcut
              go_upto_region 29 with fail
              go_cut [17] from 32 to 161 (fun v17 wx => v17 = .bool bi ∧ St w [] ((Ch.blk gA 113 #[.int .i64 kd, .int .i64 nn, .string s, .slice ka keep.length kc, vb cc] :: R) ++ ((Ch.row 9 1 (.slice av6 m'.length cv6) m'.length (m'.map vs) :: dks bd sv' wv6 (d'.crash keep)) ++ [])) wx)
              case first =>
                have hr31 := Lib.hid hor.out.1
                by_cases ht : text' = nt2
                · have hb1 : (text'.toList == nt2.toList) = true := by rw [ht]; simp
                  have hd : bi = decide (m' = nrecs2) := by rw [← hbi.out]; simp [ht]
                  replace hd := Lib.hid hd
                  clear ht
                  go_wp2_with (first
                    | (go_at_call 46; (with_reducible refine (cT.out _ _ _ _ _ _ _ (sl_in (R := Ch.row 9 1 (.slice av6 m'.length cv6) m'.length (m'.map vs) :: dks bd sv' wv6 (d'.crash keep)) hS 0 rfl) (hsl.out [_] _ _ hS).1 hm31.out hr31.out).mono ?_); rintro _ w8 ⟨rfl, hk8⟩; have hS1 := hS.keepB hk8; clear hk8 hS; have hS := hS1; clear hS1))
                  go_meet
                  exact ⟨by rw [hd.out], hS⟩
                · have hb1 : (text'.toList == nt2.toList) = false := by
                    rw [beq_eq_false_iff_ne]
                    intro e
                    exact ht (ba_ext (by rw [ByteArray.toList_eq, ByteArray.toList_eq] at e; exact e))
                  have hd : bi = false := by rw [← hbi.out]; simp [ht]
                  replace hd := Lib.hid hd
                  clear ht
                  go_wp2_with fail
                  go_meet
                  exact ⟨by rw [hd.out], hS⟩
              case rest =>
                clear hS hsl cT
                obtain ⟨rfl, hS⟩ := hcut
                have hcc : bi = true ∨ (bw = true ∧ er ≠ 0) := by
                  rw [← hbw.out, ← hbi.out]
                  rcases hor.out.2 with ⟨h1, h2, h3⟩ | ⟨h1, h2⟩
                  · exact .inr ⟨by simp [h1, h2], h3⟩
                  · exact .inl (by simp [h1, h2])
                clear hbw hbi hor
                go_upto_region 30 with fail
                go_cut [141] from 32 to 161 (fun v wx => v = .bool false ∧ St w [] ((Ch.blk gA 113 #[.int .i64 kd, .int .i64 nn, .string s, .slice ka keep.length kc, vb cc] :: R) ++ ((Ch.row 9 1 (.slice av6 m'.length cv6) m'.length (m'.map vs) :: dks bd sv' wv6 (d'.crash keep)) ++ [])) wx)
                case first =>
                  rcases her with rfl | rfl | rfl
                  · have hbi : bi = true := by rcases hcc with h | ⟨-, h⟩; exact h; exact absurd rfl h
                    subst hbi
                    clear hcc
                    cases bw
                    · go_wp2_with fail
                      go_meet
                      exact ⟨rfl, hS⟩
                    · go_wp2_with fail
                      go_meet
                      exact ⟨rfl, hS⟩
                  · have hcc : bw = true ∨ bi = true := by rcases hcc with h | ⟨h, -⟩; exact .inr h; exact .inl h
                    cases bw
                    · obtain rfl : bi = true := by simpa using hcc
                      go_wp2_with fail
                      go_meet
                      exact ⟨rfl, hS⟩
                    · clear hcc
                      cases bi
                      · go_wp2_with fail
                        go_meet
                        exact ⟨rfl, hS⟩
                      · go_wp2_with fail
                        go_meet
                        exact ⟨rfl, hS⟩
                  · have hcc : bw = true ∨ bi = true := by rcases hcc with h | ⟨h, -⟩; exact .inr h; exact .inl h
                    cases bw
                    · obtain rfl : bi = true := by simpa using hcc
                      go_wp2_with fail
                      go_meet
                      exact ⟨rfl, hS⟩
                    · clear hcc
                      cases bi
                      · go_wp2_with fail
                        go_meet
                        exact ⟨rfl, hS⟩
                      · go_wp2_with fail
                        go_meet
                        exact ⟨rfl, hS⟩
                case rest =>
                  clear hS her hcc
                  obtain ⟨rfl, hS1⟩ := hcut
                  have hS : St w [] (((Ch.blk gA 113 #[.int .i64 kd, .int .i64 nn, .string s, .slice ka keep.length kc, vb cc] :: R) ++ [Ch.row 9 1 (.slice av6 m'.length cv6) m'.length (m'.map vs)]) ++ (dks bd sv' wv6 (d'.crash keep) ++ [])) _ := St.regroup39 (A := Ch.blk gA 113 #[.int .i64 kd, .int .i64 nn, .string s, .slice ka keep.length kc, vb cc] :: R) (B := dks bd sv' wv6 (d'.crash keep)) hS1
                  clear hS1
                  have cT : ∀ (a1 a2 : Option Addr) (c1 c2 : Nat) (W : World), Sl W a1 (m'.map vs) → Sl W a2 (m'.map vs) → Calls Try.prog 46 #[.slice a1 m'.length c1, .slice a2 m'.length c2] W fun e w' => e = .returned (.bool true) ∧ Below W.heap.size W w' := fun a1 a2 c1 c2 W h1 h2 => (texts_any a1 a2 m' m' _ _ c1 c2 W h1 h2 rfl rfl (by have := hm31.out; omega) (by have := hm31.out; omega)).mono fun e w' ⟨h1, h2⟩ => ⟨by rw [h1]; simp, h2⟩
                  replace cT := Lib.hid cT
                  go_wp2_with (first
                    | (go_at_call 59; (with_reducible refine (cP.out _ _ (hS.preM (A := (Ch.blk gA 113 #[.int .i64 kd, .int .i64 nn, .string s, .slice ka keep.length kc, vb cc] :: R) ++ [Ch.row 9 1 (.slice av6 m'.length cv6) m'.length (m'.map vs)]) (B := dks bd sv' _ (d'.crash keep)) (R := []))).mono ?_); rintro _ w9 ⟨g8, gr8, av8, cv8, wv8, d8, x8, r8, rfl, hF8, hk⟩; have hS1 := hS.callM (A := (Ch.blk gA 113 #[.int .i64 kd, .int .i64 nn, .string s, .slice ka keep.length kc, vb cc] :: R) ++ [Ch.row 9 1 (.slice av6 m'.length cv6) m'.length (m'.map vs)]) (B := dks bd sv' _ (d'.crash keep)) (R := []) hk; clear hS hk; have hS := hS1; clear hS1)
                    | (go_at_call 46; (with_reducible refine (cT.out _ _ _ _ _ (sl_in hS 0 rfl) (sl_at39 hS)).mono ?_); rintro _ w10 ⟨rfl, hk10⟩; have hS1 := hS.keepB hk10; clear hk10 hS; have hS := hS1; clear hS1))
                  go_roundg (n - (i + 1))
                  case measure => omega
                  case rel => exact ⟨i + 1, g8, gr8, _, _, _, _, _, _, _, _, _, by omega, by go_num, rfl, rfl, rfl, rfl, hF8, St.drops (A := _) hS⟩
    · have hil : i = n := by omega
      go_wp2_with (go_at_call 57; (with_reducible refine (cA0.out _).mono ?_); rintro _ w7 ⟨rfl, hk7⟩; have hS1 := hS.keepB hk7; clear hk7 hS; have hS := hS1; clear hS1)
      go_ret
      exact ⟨rfl, hS.below⟩
end Go.Proofs.Ytlhpibniecfofaa
end

section
/- The law VaultFalls, for any acts. -/
set_option linter.unusedSimpArgs false
set_option linter.unusedVariables false
namespace Go.Proofs.Ytlhpibniecfofaa
open Go.RowKit Go.Ofp
set_option linter.unusedVariables false
set_option maxRecDepth 100000
set_option maxHeartbeats 4000000
theorem falls39_any (a : Option Addr) (n c : Nat) (l : List Ga) (w : World) (hG : Gas w a n c l) :
    Calls Try.prog 10 #[.slice a n c] w fun e w' => e = .returned (.bool true) ∧ Below w.heap.size w w' := by
  by_cases hQ : ShortQ39 n l
  · exact falls39_main a n c l w hG hQ
  · have hS := St.start w
    have cA0 := Lib.hid fun W : World => awake39_any W
    have cG : Calls Try.prog 65 #[.slice a n c] w fun e w' => e = .returned (.bool true) ∧ w = w' := (long39_any a n c l w hG).mono fun e w' ⟨h1, h2⟩ => ⟨h1.no hQ, h2⟩
    replace cG := Lib.hid cG
    clear hQ hG
    go_enter Try.func10, Try.ntmps10
    go_wp2_with (first
      | (go_at_call 65; (with_reducible refine cG.out.mono ?_); rintro _ _ ⟨rfl, rfl⟩)
      | (go_at_call 57; (with_reducible refine (cA0.out _).mono ?_); rintro _ w7 ⟨rfl, hk7⟩; have hS1 := hS.keepB hk7; clear hk7 hS; have hS := hS1; clear hS1))
    go_ret
    exact ⟨rfl, hS.below⟩
end Go.Proofs.Ytlhpibniecfofaa
end
