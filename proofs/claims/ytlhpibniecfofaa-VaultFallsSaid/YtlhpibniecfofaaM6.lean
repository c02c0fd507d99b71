/- Texts laid together: Ring1 Ring2 PieceEq Piece2 Sl St10. -/
import Derived.Laws.StructEq
import Derived.Test.YtlhpibniecfofaaM1
import Derived.Test.YtlhpibniecfofaaM2
import Derived.Test.YtlhpibniecfofaaM3
import Derived.Test.YtlhpibniecfofaaM4
import Derived.Test.YtlhpibniecfofaaM5
section
/- Rings: New, sector, read, and what is told. -/
set_option linter.unusedSimpArgs false
set_option linter.unusedVariables false
namespace Go.Ofp.Dk
theorem sees_len {d : Dk} (h : d.Ok) (i : Int) : (d.read i).1.length ≤ 64 := by
  unfold Dk.read
  split
  · rename_i hr
    obtain ⟨-, h0, h1⟩ := ready_zero hr
    split
    · simp
    · have hs : (d.see i).b.length = 64 := by
        have e : d.see i = d.wait.foldl (over i) (d.sec.getD i.toNat ⟨[], true⟩) := rfl
        rw [e]
        refine over_len i d.wait (fun w hw => (h.wait w hw).2.2) _ ?_
        have hl : i.toNat < d.sec.length := by omega
        rw [List.getD_eq_getElem?_getD, List.getElem?_eq_getElem hl]
        exact h.sec _ (List.getElem_mem hl)
      exact Nat.le_of_eq hs
  · simp
end Go.Ofp.Dk
namespace Go.Proofs.Ytlhpibniecfofaa
open Go.RowKit Go.Ofp
set_option linter.unusedVariables false
set_option maxRecDepth 100000
set_option maxHeartbeats 4000000

/-- A ring in memory. -/
@[reducible] def rng (g bd : Nat) (r : Rg) : Ch := Ch.blk g 144 #[.pointer (some ⟨bd, 0, none⟩), .int .i64 r.src, .int .i64 r.n, .int .i64 r.head, .int .i64 r.tail, .int .i64 r.life]

theorem rgnew_any (bd : Nat) (sv wv : Value) (d : Dk) (f n h l : Int) (w : World) (hD : St w (feet (dks bd sv wv d)) (dks bd sv wv d) w) (hs : d.sec.length ≤ 100000) :
    Calls Try.prog 42 #[.pointer (some ⟨bd, 0, none⟩), .int .i64 f, .int .i64 n, .int .i64 h, .int .i64 l] w fun e w' =>
      (ringOk d.sec.length f n h l = false → e = .returned (.pointer none) ∧ w = w') ∧
      (ringOk d.sec.length f n h l = true → ∃ g, e = .returned (.pointer (some ⟨g, 0, none⟩)) ∧ St w [] [rng g bd ⟨f.toNat, n.toNat, h.toNat, h.toNat, l.toNat⟩] w') := by
  have hok := ringOk_iff d.sec.length f n h l
  generalize ringOk d.sec.length f n h l = b at hok ⊢
  have cZ := size_any bd sv wv d w hD
  generalize d.sec.length = size at *
  have hS := St.start w
  replace hok := Lib.hid hok
  replace cZ := Lib.hid cZ
  clear hD
  by_cases h0 : f < 0
  · go_enter Try.func42, Try.ntmps42
    go_wp2_with fail
    go_ret
    refine ⟨fun _ => ⟨rfl, rfl⟩, fun hb => ?_⟩
    have := hok.out.1 hb
    omega
  · have h1 : 0 ≤ f := by omega
    by_cases h2 : (size : Int) ≤ f
    · go_enter Try.func42, Try.ntmps42
      go_wp2_with (first
        | (go_at_call 23; (with_reducible refine cZ.out.mono ?_); rintro _ _ ⟨rfl, rfl⟩))
      all_goals
        go_ret
        refine ⟨fun _ => ⟨rfl, rfl⟩, fun hb => ?_⟩
        have := hok.out.1 hb
        omega
    · have h3 : f < size := by omega
      clear h2 h0
      by_cases hl : 1 ≤ l ∧ l < 4294967296
      · have hsl : (l / 4294967296 != 0) = false := by rw [bne_eq_false_iff_eq]; omega
        have hsd : decide (l < 1) = false := decide_eq_false (by omega)
        go_enter Try.func42, Try.ntmps42
        go_wp2_with (first
          | (go_at_call 23; (with_reducible refine cZ.out.mono ?_); rintro _ _ ⟨rfl, rfl⟩)
          | (with_reducible refine wpList_box_st hS rfl rfl rfl ?_; intro g1 w1 hS1; clear hS; replace hS := hS1; clear hS1) | (with_reducible refine wpList_box1_st hS rfl rfl rfl ?_; intro g1 w1 hS1; clear hS; replace hS := hS1; clear hS1) | (with_reducible refine wpList_alloc_st hS rfl rfl (by assumption) ?_; intro g1 w1 hS1; clear hS; replace hS := hS1; clear hS1) | (with_reducible refine wpList_alloc1_st hS rfl rfl (by assumption) rfl ?_; intro g1 w1 hS1; clear hS; replace hS := hS1; clear hS1))
        all_goals
          go_ret
          first
          | (refine ⟨fun _ => ⟨rfl, rfl⟩, fun hb => ?_⟩; (have := hok.out.1 hb; omega))
          | (refine ⟨fun hb => ?_, fun hb => ?_⟩
             · exfalso
               have : b = true := hok.out.2 (by omega)
               rw [hb] at this
               cases this
             · have := hok.out.1 hb
               refine ⟨_, rfl, ?_⟩
               unfold rng
               simp only
               rw [Int.toNat_of_nonneg (by omega), Int.toNat_of_nonneg (by omega), Int.toNat_of_nonneg (by omega), Int.toNat_of_nonneg (by omega)]
               exact hS)
      · have hsl : (decide (l < 1) || (l / 4294967296 != 0)) = true := by simp; omega
        have hb : b = false := by rw [← Bool.not_eq_true]; intro e; have := hok.out.1 e; omega
        subst hb
        clear hok hS
        by_cases hl1 : l < 1
        · go_enter Try.func42, Try.ntmps42
          go_wp2_with (first
            | (go_at_call 23; (with_reducible refine cZ.out.mono ?_); rintro _ _ ⟨rfl, rfl⟩))
          all_goals
            go_ret
            first | exact ⟨rfl, rfl⟩ | exact ⟨fun _ => ⟨rfl, rfl⟩, fun hb => by cases hb⟩
        · have hsl : (l / 4294967296 != 0) = true := by rw [bne_iff_ne]; omega
          have hsd : decide (l < 1) = false := decide_eq_false hl1
          go_enter Try.func42, Try.ntmps42
          go_wp2_with (first
            | (go_at_call 23; (with_reducible refine cZ.out.mono ?_); rintro _ _ ⟨rfl, rfl⟩))
          all_goals
            go_ret
            first | exact ⟨rfl, rfl⟩ | exact ⟨fun _ => ⟨rfl, rfl⟩, fun hb => by cases hb⟩

theorem rgsector_any (g bd : Nat) (r : Rg) (size : Nat) (place : Int) (w : World) (h : St w (feet [rng g bd r]) [rng g bd r] w) (hr : r.Ok size) (hs : size ≤ 100000) (hp : 0 ≤ place ∧ place ≤ 2199023255552) :
    Calls Try.prog 85 #[.pointer (some ⟨g, 0, none⟩), .int .i64 place] w fun e w' => e = .returned (.int .i64 (r.src + place % r.n)) ∧ St w (feet [rng g bd r]) [rng g bd r] w' := by
  have hS := h
  have h1 := hr.pos
  have h2 := hr.fit
  have hm : place.tmod r.n = place % r.n := Int.tmod_eq_emod_of_nonneg hp.1
  have hb1 : 0 ≤ place % r.n := Int.emod_nonneg _ (by omega)
  have hb2 : place % r.n < r.n := Int.emod_lt_of_pos _ (by omega)
  have hz : ¬ r.n = 0 := by omega
  have hw : IntKind.i64.wrap ((r.src : Int) + place % r.n) = r.src + place % r.n := IntWalk.i64_in _ (by omega)
  unfold rng at hS ⊢
  generalize feet _ = F at hS ⊢
  clear h hr
  go_enter Try.func85, Try.ntmps85
  go_wp2_with (first | (with_reducible refine wpList_box_st hS rfl rfl rfl ?_; intro g1 w1 hS1; clear hS; replace hS := hS1; clear hS1) | (with_reducible refine wpList_box1_st hS rfl rfl rfl ?_; intro g1 w1 hS1; clear hS; replace hS := hS1; clear hS1) | (with_reducible refine wpList_alloc_st hS rfl rfl (by assumption) ?_; intro g1 w1 hS1; clear hS; replace hS := hS1; clear hS1) | (with_reducible refine wpList_alloc1_st hS rfl rfl (by assumption) rfl ?_; intro g1 w1 hS1; clear hS; replace hS := hS1; clear hS1) | ((with_reducible refine wpList_load_st 0 hS rfl rfl rfl rfl ?_ rfl ?_); focus (simp [scalarB, go_sem]; done)) | ((with_reducible refine wpList_loadall_st 0 hS rfl rfl rfl rfl ?_ (by kernel_rfl) ?_); focus (simp [rowB, go_sem]; done)) | ((with_reducible refine wpList_store_st 0 hS rfl rfl rfl rfl (by kernel_rfl) rfl rfl ?_); intro w1 hS1; clear hS; replace hS := hS1; clear hS1; try simp only [List.set_cons_zero, List.set_cons_succ, List.setIfInBounds_toArray, List.take_succ_cons, List.take_zero, List.drop_succ_cons, List.drop_zero, List.nil_append, List.cons_append, List.append_nil, List.drop_nil, List.take_nil, List.length_cons, List.length_nil, Nat.zero_add, Nat.add_zero, Nat.reduceAdd] at hS) | ((with_reducible refine wpList_storerow_st 0 hS rfl rfl rfl rfl (by kernel_rfl) rfl rfl rfl rfl ?_); intro w1 hS1; clear hS; replace hS := hS1; clear hS1; try simp only [List.set_cons_zero, List.set_cons_succ, List.setIfInBounds_toArray, List.take_succ_cons, List.take_zero, List.drop_succ_cons, List.drop_zero, List.nil_append, List.cons_append, List.append_nil, List.drop_nil, List.take_nil, List.length_cons, List.length_nil, Nat.zero_add, Nat.add_zero, Nat.reduceAdd] at hS))
  have k0 := hS.kblk 0 rfl
  refine mixs_begin (by kernel_rfl) hS ?_
  clear hS
  intro w6 hS
  refine mixs_take 0 (v := ?_) rfl (by kernel_rfl) (fun _ _ _ h => h) (by kernel_rfl) (by assumption) (fun s => ?hy) ?_; case hy => (go_simp <;> with_reducible rfl)
  try simp only [List.getElem_toArray, List.getElem_cons_succ, List.getElem_cons_zero, Act.put, List.setIfInBounds_toArray, List.set_cons_zero, List.set_cons_succ]
  refine mixs_take 1 (v := ?_) rfl (by kernel_rfl) (fun _ _ _ h => h) (by kernel_rfl) (by assumption) (fun s => ?hy) ?_; case hy => (go_simp <;> with_reducible rfl)
  try simp only [List.getElem_toArray, List.getElem_cons_succ, List.getElem_cons_zero, Act.put, List.setIfInBounds_toArray, List.set_cons_zero, List.set_cons_succ]
  refine mixs_take 2 (v := ?_) rfl (by kernel_rfl) (fun _ _ _ h => h) (by kernel_rfl) (by assumption) (fun s => ?hy) ?_; case hy => (go_simp <;> with_reducible rfl)
  try simp only [List.getElem_toArray, List.getElem_cons_succ, List.getElem_cons_zero, Act.put, List.setIfInBounds_toArray, List.set_cons_zero, List.set_cons_succ]
  refine mixs_take 3 (v := ?_) rfl (by kernel_rfl) (fun _ _ _ h => h) (by kernel_rfl) (by assumption) (fun s => ?hy) ?_; case hy => (go_simp <;> with_reducible rfl)
  try simp only [List.getElem_toArray, List.getElem_cons_succ, List.getElem_cons_zero, Act.put, List.setIfInBounds_toArray, List.set_cons_zero, List.set_cons_succ]
  refine mixs_take 4 (v := ?_) rfl (by kernel_rfl) (fun _ _ _ h => h) (by kernel_rfl) (by assumption) (fun s => ?hy) ?_; case hy => (go_simp <;> with_reducible rfl)
  try simp only [List.getElem_toArray, List.getElem_cons_succ, List.getElem_cons_zero, Act.put, List.setIfInBounds_toArray, List.set_cons_zero, List.set_cons_succ]
  refine mixs_take 5 (v := ?_) rfl (by kernel_rfl) (fun _ _ _ h => h) (by kernel_rfl) (by assumption) (fun s => ?hy) ?_; case hy => (go_simp <;> with_reducible rfl)
  try simp only [List.getElem_toArray, List.getElem_cons_succ, List.getElem_cons_zero, Act.put, List.setIfInBounds_toArray, List.set_cons_zero, List.set_cons_succ]
  refine mixs_take 6 (v := ?_) rfl (by kernel_rfl) (fun _ _ _ h => h) (by kernel_rfl) (by assumption) (fun s => ?hy) ?_; case hy => (go_simp <;> with_reducible rfl)
  try simp only [List.getElem_toArray, List.getElem_cons_succ, List.getElem_cons_zero, Act.put, List.setIfInBounds_toArray, List.set_cons_zero, List.set_cons_succ]
  refine mixs_take 7 (v := ?_) rfl (by kernel_rfl) (fun _ _ _ h => h) (by kernel_rfl) (by assumption) (fun s => ?hy) ?_; case hy => (go_simp <;> with_reducible rfl)
  try simp only [List.getElem_toArray, List.getElem_cons_succ, List.getElem_cons_zero, Act.put, List.setIfInBounds_toArray, List.set_cons_zero, List.set_cons_succ]
  refine mixs_take 8 (v := ?_) rfl (by kernel_rfl) (fun _ _ _ h => h) (by kernel_rfl) (by assumption) (fun s => ?hy) ?_; case hy => (go_simp <;> with_reducible rfl)
  try simp only [List.getElem_toArray, List.getElem_cons_succ, List.getElem_cons_zero, Act.put, List.setIfInBounds_toArray, List.set_cons_zero, List.set_cons_succ]
  refine mixs_take 9 (v := ?_) rfl (by kernel_rfl) (fun _ _ _ h => h) (by kernel_rfl) (by assumption) (fun s => ?hy) ?_; case hy => (go_simp <;> with_reducible rfl)
  try simp only [List.getElem_toArray, List.getElem_cons_succ, List.getElem_cons_zero, Act.put, List.setIfInBounds_toArray, List.set_cons_zero, List.set_cons_succ]
  refine mixs_take 10 (v := ?_) rfl (by kernel_rfl) (fun _ _ _ h => h) (by kernel_rfl) (by assumption) (fun s => ?hy) ?_; case hy => (go_simp <;> with_reducible rfl)
  try simp only [List.getElem_toArray, List.getElem_cons_succ, List.getElem_cons_zero, Act.put, List.setIfInBounds_toArray, List.set_cons_zero, List.set_cons_succ]
  refine mixs_take 11 (v := ?_) rfl (by kernel_rfl) (fun _ _ _ h => h) (by kernel_rfl) (by assumption) (fun s => ?hy) ?_; case hy => (go_simp <;> with_reducible rfl)
  try simp only [List.getElem_toArray, List.getElem_cons_succ, List.getElem_cons_zero, Act.put, List.setIfInBounds_toArray, List.set_cons_zero, List.set_cons_succ]
  refine wpAnyH_done (by kernel_rfl) ?_ _
  go_wp2_with fail
  go_ret
  exact ⟨rfl, hS⟩

theorem rgread_any (g bd : Nat) (sv wv : Value) (d : Dk) (r : Rg) (size k : Nat) (place : Int) (w : World) (h : St w (feet (rng g bd r :: dks bd sv wv d)) (rng g bd r :: dks bd sv wv d) w) (hr : r.Ok size) (hfit : d.Fit size k) (hs : size ≤ 100000) (hk : k ≤ 100000) (hp : 0 ≤ place ∧ place ≤ 2199023255552) :
    Calls Try.prog 87 #[.pointer (some ⟨g, 0, none⟩), .int .i64 place] w fun e w' => e = .returned (.tuple #[.agg #[.int .i64 (d.pc r.src r.n place).1.life, .int .i64 (d.pc r.src r.n place).1.place, .bool (d.pc r.src r.n place).1.first, .bool (d.pc r.src r.n place).1.last, .string (d.pc r.src r.n place).1.body], .bool (d.pc r.src r.n place).2]) ∧ St w (feet (rng g bd r :: dks bd sv wv d)) (rng g bd r :: dks bd sv wv d) w' := by
  have hS : St w (feet (rng g bd r :: dks bd sv wv d)) (rng g bd r :: (dks bd sv wv d ++ [])) w := by rw [List.append_nil]; exact h
  have cS := fun W hh => rgsector_any g bd r size place W hh hr hs hp
  have cR := fun W hh => read_any bd sv wv d (r.src + place % r.n) W hh hfit.ok (by have := hfit.wait; omega)
  have hpc : d.pc r.src r.n place = if (d.read (r.src + place % r.n)).2 = 0 then ((getB (str (d.read (r.src + place % r.n)).1)).1, (getB (str (d.read (r.src + place % r.n)).1)).2 && (getB (str (d.read (r.src + place % r.n)).1)).1.place == place) else (noPc, false) := rfl
  have hlen : (d.read (r.src + place % r.n)).1.length ≤ 64 := Dk.sees_len hfit.ok _
  obtain ⟨s, e, hse⟩ : ∃ s e, d.read (r.src + place % r.n) = (s, e) := ⟨_, _, rfl⟩
  rw [hse] at hpc hlen cR
  simp only at hpc hlen cR
  have cG := fun W => get_any (str s) W (by rw [str_size]; unfold maxLen; omega)
  obtain ⟨p, ok, hg⟩ : ∃ p ok, getB (str s) = (p, ok) := ⟨_, _, rfl⟩
  rw [hg] at hpc cG
  simp only [Pc.val, Pc.row] at hpc cG
  have ez := elem_pc
  generalize feet _ = F at hS ⊢
  generalize d.pc r.src r.n place = gg at hpc ⊢
  clear h hse hg hfit hr hlen
  replace cS := Lib.hid cS
  replace cR := Lib.hid cR
  replace cG := Lib.hid cG
  have hb : (place == place) = true := by simp
  by_cases he : e = 0
  · subst he
    rw [if_pos rfl] at hpc
    subst hpc
    cases ok with
    | false =>
      simp only [Bool.false_and]
      go_enter Try.func87, Try.ntmps87
      go_wp2_with (first
        | ((with_reducible refine wpList_alloc_st hS rfl rfl ez ?_); intro g4 w1 hS1; clear hS; have hS := hS1; clear hS1))
      revert hS
      apply wp_cut0
      · intro hS
        refine mixs_beginC 1 (by kernel_rfl) hS rfl ?_
        clear hS
        intro w6 hS hC
        have kC := hC.kblk 0 rfl
        refine mixs_take 0 (v := ?_) rfl (by kernel_rfl) (fun _ _ _ h => h) (by kernel_rfl) (by assumption) (fun s => ?hy) ?_; case hy => (go_simp <;> with_reducible rfl)
        try simp only [List.getElem_toArray, List.getElem_cons_succ, List.getElem_cons_zero, Act.put, List.setIfInBounds_toArray, List.set_cons_zero, List.set_cons_succ]
        refine mixs_take 1 (v := ?_) rfl (by kernel_rfl) (fun _ _ _ h => h) (by kernel_rfl) (by assumption) (fun s => ?hy) ?_; case hy => (go_simp <;> with_reducible rfl)
        try simp only [List.getElem_toArray, List.getElem_cons_succ, List.getElem_cons_zero, Act.put, List.setIfInBounds_toArray, List.set_cons_zero, List.set_cons_succ]
        refine mixs_take 2 (v := ?_) rfl (by kernel_rfl) (fun _ _ _ h => h) (by kernel_rfl) (by assumption) (fun s => ?hy) ?_; case hy => (go_simp <;> with_reducible rfl)
        try simp only [List.getElem_toArray, List.getElem_cons_succ, List.getElem_cons_zero, Act.put, List.setIfInBounds_toArray, List.set_cons_zero, List.set_cons_succ]
        refine mixs_take 3 (v := ?_) rfl (by kernel_rfl) (fun _ _ _ h => h) (by kernel_rfl) (by assumption) (fun s => ?hy) ?_; case hy => (go_simp <;> with_reducible rfl)
        try simp only [List.getElem_toArray, List.getElem_cons_succ, List.getElem_cons_zero, Act.put, List.setIfInBounds_toArray, List.set_cons_zero, List.set_cons_succ]
        refine mixs_take 4 (v := ?_) rfl (by kernel_rfl) (fun _ _ _ h => h) (by kernel_rfl) (by assumption) (fun s => ?hy) ?_; case hy => (go_simp <;> with_reducible rfl)
        try simp only [List.getElem_toArray, List.getElem_cons_succ, List.getElem_cons_zero, Act.put, List.setIfInBounds_toArray, List.set_cons_zero, List.set_cons_succ]
        refine mixs_take 5 (v := ?_) rfl (by kernel_rfl) (fun _ _ _ h => h) (by kernel_rfl) (by assumption) (fun s => ?hy) ?_; case hy => (go_simp <;> with_reducible rfl)
        try simp only [List.getElem_toArray, List.getElem_cons_succ, List.getElem_cons_zero, Act.put, List.setIfInBounds_toArray, List.set_cons_zero, List.set_cons_succ]
        refine mixs_one 6 (by kernel_rfl) rfl (fun K hK => ?_)
        go_simp
        ( first | (go_at_call 85; (with_reducible refine (cS.out _ (hS.preM (A := [_]) (B := [rng g bd r]) (R := dks bd sv wv d ++ []))).mono ?_); rintro _ w3 ⟨rfl, hk⟩; have hS1 := hS.callM (A := [_]) (R := dks bd sv wv d ++ []) hk; clear hS hk; have hS := hS1; clear hS1) | (go_at_call 22; (with_reducible refine (cR.out _ (hS.preM (A := [_, _]) (B := dks bd sv wv d) (R := []))).mono ?_); rintro _ w4 ⟨rfl, hk⟩; have hS1 := hS.callM (A := [_, _]) (R := []) hk; clear hS hk; have hS := hS1; clear hS1) )
        try clear hC
        refine hK.out _ _ _ (fun _ h => h) (by first | exact hS | exact hS.drop | exact hS.drop.drop | exact hS.drop.drop.drop | exact hS.drop.drop.drop.drop | exact hS.empty | exact hS.one 0 rfl | exact hS.one 1 rfl | exact hS.one 2 rfl | exact hS.one 3 rfl | exact hS.one 4 rfl | exact hS.one 5 rfl | exact hS.one 6 rfl | exact hS.one 7 rfl | exact hS.one 8 rfl | exact hS.one 9 rfl | exact hS.one 10 rfl | exact hS.one 11 rfl) (fun hC => ?_)
        clear hK K
        try simp only [List.getElem_toArray, List.getElem_cons_succ, List.getElem_cons_zero, Act.put, List.setIfInBounds_toArray, List.set_cons_zero, List.set_cons_succ]
        refine mixs_one 7 (by kernel_rfl) rfl (fun K hK => ?_)
        go_simp
        ( first | (go_at_call 85; (with_reducible refine (cS.out _ (hS.preM (A := [_]) (B := [rng g bd r]) (R := dks bd sv wv d ++ []))).mono ?_); rintro _ w3 ⟨rfl, hk⟩; have hS1 := hS.callM (A := [_]) (R := dks bd sv wv d ++ []) hk; clear hS hk; have hS := hS1; clear hS1) | (go_at_call 22; (with_reducible refine (cR.out _ (hS.preM (A := [_, _]) (B := dks bd sv wv d) (R := []))).mono ?_); rintro _ w4 ⟨rfl, hk⟩; have hS1 := hS.callM (A := [_, _]) (R := []) hk; clear hS hk; have hS := hS1; clear hS1) )
        try clear hC
        refine hK.out _ _ _ (fun _ h => h) (by first | exact hS | exact hS.drop | exact hS.drop.drop | exact hS.drop.drop.drop | exact hS.drop.drop.drop.drop | exact hS.empty | exact hS.one 0 rfl | exact hS.one 1 rfl | exact hS.one 2 rfl | exact hS.one 3 rfl | exact hS.one 4 rfl | exact hS.one 5 rfl | exact hS.one 6 rfl | exact hS.one 7 rfl | exact hS.one 8 rfl | exact hS.one 9 rfl | exact hS.one 10 rfl | exact hS.one 11 rfl) (fun hC => ?_)
        clear hK K
        try simp only [List.getElem_toArray, List.getElem_cons_succ, List.getElem_cons_zero, Act.put, List.setIfInBounds_toArray, List.set_cons_zero, List.set_cons_succ]
        refine mixs_take 8 (v := ?_) rfl (by kernel_rfl) (fun _ _ _ h => h) (by kernel_rfl) (by assumption) (fun s => ?hy) ?_; case hy => (go_simp <;> with_reducible rfl)
        try simp only [List.getElem_toArray, List.getElem_cons_succ, List.getElem_cons_zero, Act.put, List.setIfInBounds_toArray, List.set_cons_zero, List.set_cons_succ]
        refine mixs_take 9 (v := ?_) rfl (by kernel_rfl) (fun _ _ _ h => h) (by kernel_rfl) (by assumption) (fun s => ?hy) ?_; case hy => (go_simp <;> with_reducible rfl)
        try simp only [List.getElem_toArray, List.getElem_cons_succ, List.getElem_cons_zero, Act.put, List.setIfInBounds_toArray, List.set_cons_zero, List.set_cons_succ]
        refine mixs_take 10 (v := ?_) rfl (by kernel_rfl) (fun _ _ _ h => h) (by kernel_rfl) (by assumption) (fun s => ?hy) ?_; case hy => (go_simp <;> with_reducible rfl)
        try simp only [List.getElem_toArray, List.getElem_cons_succ, List.getElem_cons_zero, Act.put, List.setIfInBounds_toArray, List.set_cons_zero, List.set_cons_succ]
        refine mixs_take 11 (v := ?_) rfl (by kernel_rfl) (fun _ _ _ h => h) (by kernel_rfl) (by assumption) (fun s => ?hy) ?_; case hy => (go_simp <;> with_reducible rfl)
        try simp only [List.getElem_toArray, List.getElem_cons_succ, List.getElem_cons_zero, Act.put, List.setIfInBounds_toArray, List.set_cons_zero, List.set_cons_succ]
        refine mixs_take 12 (v := ?_) rfl (by kernel_rfl) (fun _ _ _ h => h) (by kernel_rfl) (by assumption) (fun s => ?hy) ?_; case hy => (go_simp <;> with_reducible rfl)
        try simp only [List.getElem_toArray, List.getElem_cons_succ, List.getElem_cons_zero, Act.put, List.setIfInBounds_toArray, List.set_cons_zero, List.set_cons_succ]
        refine wpAnyH_done (by kernel_rfl) ?_ _
        exact ⟨rfl, hS⟩
      intro w5 hS
      simp only [List.cons_append, List.nil_append] at hS
      go_wp2_with (first
        | (go_at_call 105; (with_reducible refine (cG.out _).mono ?_); rintro _ w7 ⟨rfl, hb7⟩; have hS1 := hS.keepB hb7; clear hb7 hS; have hS := hS1; clear hS1)
        | ((with_reducible refine wpList_alloc_st hS rfl rfl ez ?_); intro g8 w1 hS1; clear hS; have hS := hS1; clear hS1)
        | (with_reducible refine wpList_box_st hS rfl rfl rfl ?_; intro g1 w1 hS1; clear hS; replace hS := hS1; clear hS1) | (with_reducible refine wpList_box1_st hS rfl rfl rfl ?_; intro g1 w1 hS1; clear hS; replace hS := hS1; clear hS1) | (with_reducible refine wpList_alloc_st hS rfl rfl (by assumption) ?_; intro g1 w1 hS1; clear hS; replace hS := hS1; clear hS1) | (with_reducible refine wpList_alloc1_st hS rfl rfl (by assumption) rfl ?_; intro g1 w1 hS1; clear hS; replace hS := hS1; clear hS1) | ((with_reducible refine wpList_load_st 0 hS rfl rfl rfl rfl ?_ rfl ?_); focus (simp [scalarB, go_sem]; done)) | ((with_reducible refine wpList_loadall_st 0 hS rfl rfl rfl rfl ?_ (by kernel_rfl) ?_); focus (simp [rowB, go_sem]; done)) | ((with_reducible refine wpList_store_st 0 hS rfl rfl rfl rfl (by kernel_rfl) rfl rfl ?_); intro w1 hS1; clear hS; replace hS := hS1; clear hS1; try simp only [List.set_cons_zero, List.set_cons_succ, List.setIfInBounds_toArray, List.take_succ_cons, List.take_zero, List.drop_succ_cons, List.drop_zero, List.nil_append, List.cons_append, List.append_nil, List.drop_nil, List.take_nil, List.length_cons, List.length_nil, Nat.zero_add, Nat.add_zero, Nat.reduceAdd] at hS) | ((with_reducible refine wpList_storerow_st 0 hS rfl rfl rfl rfl (by kernel_rfl) rfl rfl rfl rfl ?_); intro w1 hS1; clear hS; replace hS := hS1; clear hS1; try simp only [List.set_cons_zero, List.set_cons_succ, List.setIfInBounds_toArray, List.take_succ_cons, List.take_zero, List.drop_succ_cons, List.drop_zero, List.nil_append, List.cons_append, List.append_nil, List.drop_nil, List.take_nil, List.length_cons, List.length_nil, Nat.zero_add, Nat.add_zero, Nat.reduceAdd] at hS) | ((with_reducible refine wpList_load_st 1 hS rfl rfl rfl rfl ?_ rfl ?_); focus (simp [scalarB, go_sem]; done)) | ((with_reducible refine wpList_loadall_st 1 hS rfl rfl rfl rfl ?_ (by kernel_rfl) ?_); focus (simp [rowB, go_sem]; done)) | ((with_reducible refine wpList_store_st 1 hS rfl rfl rfl rfl (by kernel_rfl) rfl rfl ?_); intro w1 hS1; clear hS; replace hS := hS1; clear hS1; try simp only [List.set_cons_zero, List.set_cons_succ, List.setIfInBounds_toArray, List.take_succ_cons, List.take_zero, List.drop_succ_cons, List.drop_zero, List.nil_append, List.cons_append, List.append_nil, List.drop_nil, List.take_nil, List.length_cons, List.length_nil, Nat.zero_add, Nat.add_zero, Nat.reduceAdd] at hS) | ((with_reducible refine wpList_storerow_st 1 hS rfl rfl rfl rfl (by kernel_rfl) rfl rfl rfl rfl ?_); intro w1 hS1; clear hS; replace hS := hS1; clear hS1; try simp only [List.set_cons_zero, List.set_cons_succ, List.setIfInBounds_toArray, List.take_succ_cons, List.take_zero, List.drop_succ_cons, List.drop_zero, List.nil_append, List.cons_append, List.append_nil, List.drop_nil, List.take_nil, List.length_cons, List.length_nil, Nat.zero_add, Nat.add_zero, Nat.reduceAdd] at hS))
      revert hS
      apply wp_cut0
      · intro hS
        refine mixs_beginC 0 (by kernel_rfl) hS rfl ?_
        clear hS
        intro w6 hS hC
        have kC := hC.kblk 0 rfl
        refine mixs_take 0 (v := ?_) rfl (by kernel_rfl) (fun _ _ _ h => h) (by kernel_rfl) (by assumption) (fun s => ?hy) ?_; case hy => (go_simp <;> with_reducible rfl)
        try simp only [List.getElem_toArray, List.getElem_cons_succ, List.getElem_cons_zero, Act.put, List.setIfInBounds_toArray, List.set_cons_zero, List.set_cons_succ]
        refine mixs_take 1 (v := ?_) rfl (by kernel_rfl) (fun _ _ _ h => h) (by kernel_rfl) (by assumption) (fun s => ?hy) ?_; case hy => (go_simp <;> with_reducible rfl)
        try simp only [List.getElem_toArray, List.getElem_cons_succ, List.getElem_cons_zero, Act.put, List.setIfInBounds_toArray, List.set_cons_zero, List.set_cons_succ]
        refine mixs_take 2 (v := ?_) rfl (by kernel_rfl) (fun _ _ _ h => h) (by kernel_rfl) (by assumption) (fun s => ?hy) ?_; case hy => (go_simp <;> with_reducible rfl)
        try simp only [List.getElem_toArray, List.getElem_cons_succ, List.getElem_cons_zero, Act.put, List.setIfInBounds_toArray, List.set_cons_zero, List.set_cons_succ]
        refine mixs_skip 3 rfl (by kernel_rfl) (fun _ _ _ h => h) (by kernel_rfl) (by assumption) ?_
        try simp only [List.getElem_toArray, List.getElem_cons_succ, List.getElem_cons_zero, Act.put, List.setIfInBounds_toArray, List.set_cons_zero, List.set_cons_succ]
        refine mixs_skip 4 rfl (by kernel_rfl) (fun _ _ _ h => h) (by kernel_rfl) (by assumption) ?_
        try simp only [List.getElem_toArray, List.getElem_cons_succ, List.getElem_cons_zero, Act.put, List.setIfInBounds_toArray, List.set_cons_zero, List.set_cons_succ]
        refine mixs_skip 5 rfl (by kernel_rfl) (fun _ _ _ h => h) (by kernel_rfl) (by assumption) ?_
        try simp only [List.getElem_toArray, List.getElem_cons_succ, List.getElem_cons_zero, Act.put, List.setIfInBounds_toArray, List.set_cons_zero, List.set_cons_succ]
        refine mixs_skip 6 rfl (by kernel_rfl) (fun _ _ _ h => h) (by kernel_rfl) (by assumption) ?_
        try simp only [List.getElem_toArray, List.getElem_cons_succ, List.getElem_cons_zero, Act.put, List.setIfInBounds_toArray, List.set_cons_zero, List.set_cons_succ]
        refine mixs_take 7 (v := ?_) rfl (by kernel_rfl) (fun _ _ _ h => h) (by kernel_rfl) (by assumption) (fun s => ?hy) ?_; case hy => (go_simp <;> with_reducible rfl)
        try simp only [List.getElem_toArray, List.getElem_cons_succ, List.getElem_cons_zero, Act.put, List.setIfInBounds_toArray, List.set_cons_zero, List.set_cons_succ]
        refine mixs_one 8 (by kernel_rfl) rfl (fun K hK => ?_)
        refine op_storerow_st (by kernel_rfl) 1 hS rfl rfl rfl (by kernel_rfl) rfl rfl rfl rfl ?_
        intro w1 hS1; clear hS; have hS := hS1; clear hS1; try simp only [List.set_cons_zero, List.set_cons_succ, List.setIfInBounds_toArray, List.take_succ_cons, List.take_zero, List.drop_succ_cons, List.drop_zero, List.nil_append, List.cons_append, List.append_nil, List.drop_nil, List.take_nil, List.length_cons, List.length_nil, Nat.zero_add, Nat.add_zero, Nat.reduceAdd] at hS
        try clear hC
        refine hK.out _ _ _ (fun _ h => h) (by first | exact hS | exact hS.drop | exact hS.drop.drop | exact hS.drop.drop.drop | exact hS.drop.drop.drop.drop | exact hS.empty | exact hS.one 0 rfl | exact hS.one 1 rfl | exact hS.one 2 rfl | exact hS.one 3 rfl | exact hS.one 4 rfl | exact hS.one 5 rfl | exact hS.one 6 rfl | exact hS.one 7 rfl | exact hS.one 8 rfl | exact hS.one 9 rfl | exact hS.one 10 rfl | exact hS.one 11 rfl) (fun hC => ?_)
        clear hK K
        try simp only [List.getElem_toArray, List.getElem_cons_succ, List.getElem_cons_zero, Act.put, List.setIfInBounds_toArray, List.set_cons_zero, List.set_cons_succ]
        refine mixs_take 9 (v := ?_) rfl (by kernel_rfl) (fun _ _ _ h => h) (by kernel_rfl) (by assumption) (fun s => ?hy) ?_; case hy => (go_simp <;> with_reducible rfl)
        try simp only [List.getElem_toArray, List.getElem_cons_succ, List.getElem_cons_zero, Act.put, List.setIfInBounds_toArray, List.set_cons_zero, List.set_cons_succ]
        refine wpAnyH_done (by kernel_rfl) ?_ _
        exact ⟨rfl, hS⟩
      intro w8 hS
      go_wp2_with fail
      have c := hS.cell 1 rfl
      exact bodyPost_ret (v := .tuple #[.agg #[.int .i64 p.life, .int .i64 p.place, .bool p.first, .bool p.last, .string p.body], .bool false]) (by simp [results, Try.results87, go_sem, c]) rfl ⟨rfl, by simpa using hS.drop.drop⟩
    | true =>
      simp only [Bool.true_and]
      go_enter Try.func87, Try.ntmps87
      go_wp2_with (first
        | ((with_reducible refine wpList_alloc_st hS rfl rfl ez ?_); intro g4 w1 hS1; clear hS; have hS := hS1; clear hS1))
      revert hS
      apply wp_cut0
      · intro hS
        refine mixs_beginC 1 (by kernel_rfl) hS rfl ?_
        clear hS
        intro w6 hS hC
        have kC := hC.kblk 0 rfl
        refine mixs_take 0 (v := ?_) rfl (by kernel_rfl) (fun _ _ _ h => h) (by kernel_rfl) (by assumption) (fun s => ?hy) ?_; case hy => (go_simp <;> with_reducible rfl)
        try simp only [List.getElem_toArray, List.getElem_cons_succ, List.getElem_cons_zero, Act.put, List.setIfInBounds_toArray, List.set_cons_zero, List.set_cons_succ]
        refine mixs_take 1 (v := ?_) rfl (by kernel_rfl) (fun _ _ _ h => h) (by kernel_rfl) (by assumption) (fun s => ?hy) ?_; case hy => (go_simp <;> with_reducible rfl)
        try simp only [List.getElem_toArray, List.getElem_cons_succ, List.getElem_cons_zero, Act.put, List.setIfInBounds_toArray, List.set_cons_zero, List.set_cons_succ]
        refine mixs_take 2 (v := ?_) rfl (by kernel_rfl) (fun _ _ _ h => h) (by kernel_rfl) (by assumption) (fun s => ?hy) ?_; case hy => (go_simp <;> with_reducible rfl)
        try simp only [List.getElem_toArray, List.getElem_cons_succ, List.getElem_cons_zero, Act.put, List.setIfInBounds_toArray, List.set_cons_zero, List.set_cons_succ]
        refine mixs_take 3 (v := ?_) rfl (by kernel_rfl) (fun _ _ _ h => h) (by kernel_rfl) (by assumption) (fun s => ?hy) ?_; case hy => (go_simp <;> with_reducible rfl)
        try simp only [List.getElem_toArray, List.getElem_cons_succ, List.getElem_cons_zero, Act.put, List.setIfInBounds_toArray, List.set_cons_zero, List.set_cons_succ]
        refine mixs_take 4 (v := ?_) rfl (by kernel_rfl) (fun _ _ _ h => h) (by kernel_rfl) (by assumption) (fun s => ?hy) ?_; case hy => (go_simp <;> with_reducible rfl)
        try simp only [List.getElem_toArray, List.getElem_cons_succ, List.getElem_cons_zero, Act.put, List.setIfInBounds_toArray, List.set_cons_zero, List.set_cons_succ]
        refine mixs_take 5 (v := ?_) rfl (by kernel_rfl) (fun _ _ _ h => h) (by kernel_rfl) (by assumption) (fun s => ?hy) ?_; case hy => (go_simp <;> with_reducible rfl)
        try simp only [List.getElem_toArray, List.getElem_cons_succ, List.getElem_cons_zero, Act.put, List.setIfInBounds_toArray, List.set_cons_zero, List.set_cons_succ]
        refine mixs_one 6 (by kernel_rfl) rfl (fun K hK => ?_)
        go_simp
        ( first | (go_at_call 85; (with_reducible refine (cS.out _ (hS.preM (A := [_]) (B := [rng g bd r]) (R := dks bd sv wv d ++ []))).mono ?_); rintro _ w3 ⟨rfl, hk⟩; have hS1 := hS.callM (A := [_]) (R := dks bd sv wv d ++ []) hk; clear hS hk; have hS := hS1; clear hS1) | (go_at_call 22; (with_reducible refine (cR.out _ (hS.preM (A := [_, _]) (B := dks bd sv wv d) (R := []))).mono ?_); rintro _ w4 ⟨rfl, hk⟩; have hS1 := hS.callM (A := [_, _]) (R := []) hk; clear hS hk; have hS := hS1; clear hS1) )
        try clear hC
        refine hK.out _ _ _ (fun _ h => h) (by first | exact hS | exact hS.drop | exact hS.drop.drop | exact hS.drop.drop.drop | exact hS.drop.drop.drop.drop | exact hS.empty | exact hS.one 0 rfl | exact hS.one 1 rfl | exact hS.one 2 rfl | exact hS.one 3 rfl | exact hS.one 4 rfl | exact hS.one 5 rfl | exact hS.one 6 rfl | exact hS.one 7 rfl | exact hS.one 8 rfl | exact hS.one 9 rfl | exact hS.one 10 rfl | exact hS.one 11 rfl) (fun hC => ?_)
        clear hK K
        try simp only [List.getElem_toArray, List.getElem_cons_succ, List.getElem_cons_zero, Act.put, List.setIfInBounds_toArray, List.set_cons_zero, List.set_cons_succ]
        refine mixs_one 7 (by kernel_rfl) rfl (fun K hK => ?_)
        go_simp
        ( first | (go_at_call 85; (with_reducible refine (cS.out _ (hS.preM (A := [_]) (B := [rng g bd r]) (R := dks bd sv wv d ++ []))).mono ?_); rintro _ w3 ⟨rfl, hk⟩; have hS1 := hS.callM (A := [_]) (R := dks bd sv wv d ++ []) hk; clear hS hk; have hS := hS1; clear hS1) | (go_at_call 22; (with_reducible refine (cR.out _ (hS.preM (A := [_, _]) (B := dks bd sv wv d) (R := []))).mono ?_); rintro _ w4 ⟨rfl, hk⟩; have hS1 := hS.callM (A := [_, _]) (R := []) hk; clear hS hk; have hS := hS1; clear hS1) )
        try clear hC
        refine hK.out _ _ _ (fun _ h => h) (by first | exact hS | exact hS.drop | exact hS.drop.drop | exact hS.drop.drop.drop | exact hS.drop.drop.drop.drop | exact hS.empty | exact hS.one 0 rfl | exact hS.one 1 rfl | exact hS.one 2 rfl | exact hS.one 3 rfl | exact hS.one 4 rfl | exact hS.one 5 rfl | exact hS.one 6 rfl | exact hS.one 7 rfl | exact hS.one 8 rfl | exact hS.one 9 rfl | exact hS.one 10 rfl | exact hS.one 11 rfl) (fun hC => ?_)
        clear hK K
        try simp only [List.getElem_toArray, List.getElem_cons_succ, List.getElem_cons_zero, Act.put, List.setIfInBounds_toArray, List.set_cons_zero, List.set_cons_succ]
        refine mixs_take 8 (v := ?_) rfl (by kernel_rfl) (fun _ _ _ h => h) (by kernel_rfl) (by assumption) (fun s => ?hy) ?_; case hy => (go_simp <;> with_reducible rfl)
        try simp only [List.getElem_toArray, List.getElem_cons_succ, List.getElem_cons_zero, Act.put, List.setIfInBounds_toArray, List.set_cons_zero, List.set_cons_succ]
        refine mixs_take 9 (v := ?_) rfl (by kernel_rfl) (fun _ _ _ h => h) (by kernel_rfl) (by assumption) (fun s => ?hy) ?_; case hy => (go_simp <;> with_reducible rfl)
        try simp only [List.getElem_toArray, List.getElem_cons_succ, List.getElem_cons_zero, Act.put, List.setIfInBounds_toArray, List.set_cons_zero, List.set_cons_succ]
        refine mixs_take 10 (v := ?_) rfl (by kernel_rfl) (fun _ _ _ h => h) (by kernel_rfl) (by assumption) (fun s => ?hy) ?_; case hy => (go_simp <;> with_reducible rfl)
        try simp only [List.getElem_toArray, List.getElem_cons_succ, List.getElem_cons_zero, Act.put, List.setIfInBounds_toArray, List.set_cons_zero, List.set_cons_succ]
        refine mixs_take 11 (v := ?_) rfl (by kernel_rfl) (fun _ _ _ h => h) (by kernel_rfl) (by assumption) (fun s => ?hy) ?_; case hy => (go_simp <;> with_reducible rfl)
        try simp only [List.getElem_toArray, List.getElem_cons_succ, List.getElem_cons_zero, Act.put, List.setIfInBounds_toArray, List.set_cons_zero, List.set_cons_succ]
        refine mixs_take 12 (v := ?_) rfl (by kernel_rfl) (fun _ _ _ h => h) (by kernel_rfl) (by assumption) (fun s => ?hy) ?_; case hy => (go_simp <;> with_reducible rfl)
        try simp only [List.getElem_toArray, List.getElem_cons_succ, List.getElem_cons_zero, Act.put, List.setIfInBounds_toArray, List.set_cons_zero, List.set_cons_succ]
        refine wpAnyH_done (by kernel_rfl) ?_ _
        exact ⟨rfl, hS⟩
      intro w5 hS
      simp only [List.cons_append, List.nil_append] at hS
      go_wp2_with (first
        | (go_at_call 105; (with_reducible refine (cG.out _).mono ?_); rintro _ w7 ⟨rfl, hb7⟩; have hS1 := hS.keepB hb7; clear hb7 hS; have hS := hS1; clear hS1)
        | ((with_reducible refine wpList_alloc_st hS rfl rfl ez ?_); intro g8 w1 hS1; clear hS; have hS := hS1; clear hS1)
        | (with_reducible refine wpList_box_st hS rfl rfl rfl ?_; intro g1 w1 hS1; clear hS; replace hS := hS1; clear hS1) | (with_reducible refine wpList_box1_st hS rfl rfl rfl ?_; intro g1 w1 hS1; clear hS; replace hS := hS1; clear hS1) | (with_reducible refine wpList_alloc_st hS rfl rfl (by assumption) ?_; intro g1 w1 hS1; clear hS; replace hS := hS1; clear hS1) | (with_reducible refine wpList_alloc1_st hS rfl rfl (by assumption) rfl ?_; intro g1 w1 hS1; clear hS; replace hS := hS1; clear hS1) | ((with_reducible refine wpList_load_st 0 hS rfl rfl rfl rfl ?_ rfl ?_); focus (simp [scalarB, go_sem]; done)) | ((with_reducible refine wpList_loadall_st 0 hS rfl rfl rfl rfl ?_ (by kernel_rfl) ?_); focus (simp [rowB, go_sem]; done)) | ((with_reducible refine wpList_store_st 0 hS rfl rfl rfl rfl (by kernel_rfl) rfl rfl ?_); intro w1 hS1; clear hS; replace hS := hS1; clear hS1; try simp only [List.set_cons_zero, List.set_cons_succ, List.setIfInBounds_toArray, List.take_succ_cons, List.take_zero, List.drop_succ_cons, List.drop_zero, List.nil_append, List.cons_append, List.append_nil, List.drop_nil, List.take_nil, List.length_cons, List.length_nil, Nat.zero_add, Nat.add_zero, Nat.reduceAdd] at hS) | ((with_reducible refine wpList_storerow_st 0 hS rfl rfl rfl rfl (by kernel_rfl) rfl rfl rfl rfl ?_); intro w1 hS1; clear hS; replace hS := hS1; clear hS1; try simp only [List.set_cons_zero, List.set_cons_succ, List.setIfInBounds_toArray, List.take_succ_cons, List.take_zero, List.drop_succ_cons, List.drop_zero, List.nil_append, List.cons_append, List.append_nil, List.drop_nil, List.take_nil, List.length_cons, List.length_nil, Nat.zero_add, Nat.add_zero, Nat.reduceAdd] at hS) | ((with_reducible refine wpList_load_st 1 hS rfl rfl rfl rfl ?_ rfl ?_); focus (simp [scalarB, go_sem]; done)) | ((with_reducible refine wpList_loadall_st 1 hS rfl rfl rfl rfl ?_ (by kernel_rfl) ?_); focus (simp [rowB, go_sem]; done)) | ((with_reducible refine wpList_store_st 1 hS rfl rfl rfl rfl (by kernel_rfl) rfl rfl ?_); intro w1 hS1; clear hS; replace hS := hS1; clear hS1; try simp only [List.set_cons_zero, List.set_cons_succ, List.setIfInBounds_toArray, List.take_succ_cons, List.take_zero, List.drop_succ_cons, List.drop_zero, List.nil_append, List.cons_append, List.append_nil, List.drop_nil, List.take_nil, List.length_cons, List.length_nil, Nat.zero_add, Nat.add_zero, Nat.reduceAdd] at hS) | ((with_reducible refine wpList_storerow_st 1 hS rfl rfl rfl rfl (by kernel_rfl) rfl rfl rfl rfl ?_); intro w1 hS1; clear hS; replace hS := hS1; clear hS1; try simp only [List.set_cons_zero, List.set_cons_succ, List.setIfInBounds_toArray, List.take_succ_cons, List.take_zero, List.drop_succ_cons, List.drop_zero, List.nil_append, List.cons_append, List.append_nil, List.drop_nil, List.take_nil, List.length_cons, List.length_nil, Nat.zero_add, Nat.add_zero, Nat.reduceAdd] at hS))
      revert hS
      apply wp_cut0
      · intro hS
        refine mixs_beginC 0 (by kernel_rfl) hS rfl ?_
        clear hS
        intro w6 hS hC
        have kC := hC.kblk 0 rfl
        refine mixs_take 0 (v := ?_) rfl (by kernel_rfl) (fun _ _ _ h => h) (by kernel_rfl) (by assumption) (fun s => ?hy) ?_; case hy => (go_simp <;> with_reducible rfl)
        try simp only [List.getElem_toArray, List.getElem_cons_succ, List.getElem_cons_zero, Act.put, List.setIfInBounds_toArray, List.set_cons_zero, List.set_cons_succ]
        refine mixs_take 1 (v := ?_) rfl (by kernel_rfl) (fun _ _ _ h => h) (by kernel_rfl) (by assumption) (fun s => ?hy) ?_; case hy => (go_simp <;> with_reducible rfl)
        try simp only [List.getElem_toArray, List.getElem_cons_succ, List.getElem_cons_zero, Act.put, List.setIfInBounds_toArray, List.set_cons_zero, List.set_cons_succ]
        refine mixs_take 2 (v := ?_) rfl (by kernel_rfl) (fun _ _ _ h => h) (by kernel_rfl) (by assumption) (fun s => ?hy) ?_; case hy => (go_simp <;> with_reducible rfl)
        try simp only [List.getElem_toArray, List.getElem_cons_succ, List.getElem_cons_zero, Act.put, List.setIfInBounds_toArray, List.set_cons_zero, List.set_cons_succ]
        refine mixs_take 3 (v := ?_) rfl (by kernel_rfl) (fun _ _ _ h => h) (by kernel_rfl) (by assumption) (fun s => ?hy) ?_; case hy => (go_simp <;> with_reducible rfl)
        try simp only [List.getElem_toArray, List.getElem_cons_succ, List.getElem_cons_zero, Act.put, List.setIfInBounds_toArray, List.set_cons_zero, List.set_cons_succ]
        refine mixs_take 4 (v := ?_) rfl (by kernel_rfl) (fun _ _ _ h => h) (by kernel_rfl) (by assumption) (fun s => ?hy) ?_; case hy => (go_simp <;> with_reducible rfl)
        try simp only [List.getElem_toArray, List.getElem_cons_succ, List.getElem_cons_zero, Act.put, List.setIfInBounds_toArray, List.set_cons_zero, List.set_cons_succ]
        refine mixs_take 5 (v := ?_) rfl (by kernel_rfl) (fun _ _ _ h => h) (by kernel_rfl) (by assumption) (fun s => ?hy) ?_; case hy => (go_simp <;> with_reducible rfl)
        try simp only [List.getElem_toArray, List.getElem_cons_succ, List.getElem_cons_zero, Act.put, List.setIfInBounds_toArray, List.set_cons_zero, List.set_cons_succ]
        refine mixs_take 6 (v := ?_) rfl (by kernel_rfl) (fun _ _ _ h => h) (by kernel_rfl) (by assumption) (fun s => ?hy) ?_; case hy => (go_simp <;> with_reducible rfl)
        try simp only [List.getElem_toArray, List.getElem_cons_succ, List.getElem_cons_zero, Act.put, List.setIfInBounds_toArray, List.set_cons_zero, List.set_cons_succ]
        refine mixs_take 7 (v := ?_) rfl (by kernel_rfl) (fun _ _ _ h => h) (by kernel_rfl) (by assumption) (fun s => ?hy) ?_; case hy => (go_simp <;> with_reducible rfl)
        try simp only [List.getElem_toArray, List.getElem_cons_succ, List.getElem_cons_zero, Act.put, List.setIfInBounds_toArray, List.set_cons_zero, List.set_cons_succ]
        refine mixs_one 8 (by kernel_rfl) rfl (fun K hK => ?_)
        refine op_storerow_st (by kernel_rfl) 1 hS rfl rfl rfl (by kernel_rfl) rfl rfl rfl rfl ?_
        intro w1 hS1; clear hS; have hS := hS1; clear hS1; try simp only [List.set_cons_zero, List.set_cons_succ, List.setIfInBounds_toArray, List.take_succ_cons, List.take_zero, List.drop_succ_cons, List.drop_zero, List.nil_append, List.cons_append, List.append_nil, List.drop_nil, List.take_nil, List.length_cons, List.length_nil, Nat.zero_add, Nat.add_zero, Nat.reduceAdd] at hS
        try clear hC
        refine hK.out _ _ _ (fun _ h => h) (by first | exact hS | exact hS.drop | exact hS.drop.drop | exact hS.drop.drop.drop | exact hS.drop.drop.drop.drop | exact hS.empty | exact hS.one 0 rfl | exact hS.one 1 rfl | exact hS.one 2 rfl | exact hS.one 3 rfl | exact hS.one 4 rfl | exact hS.one 5 rfl | exact hS.one 6 rfl | exact hS.one 7 rfl | exact hS.one 8 rfl | exact hS.one 9 rfl | exact hS.one 10 rfl | exact hS.one 11 rfl) (fun hC => ?_)
        clear hK K
        try simp only [List.getElem_toArray, List.getElem_cons_succ, List.getElem_cons_zero, Act.put, List.setIfInBounds_toArray, List.set_cons_zero, List.set_cons_succ]
        refine mixs_take 9 (v := ?_) rfl (by kernel_rfl) (fun _ _ _ h => h) (by kernel_rfl) (by assumption) (fun s => ?hy) ?_; case hy => (go_simp <;> with_reducible rfl)
        try simp only [List.getElem_toArray, List.getElem_cons_succ, List.getElem_cons_zero, Act.put, List.setIfInBounds_toArray, List.set_cons_zero, List.set_cons_succ]
        refine wpAnyH_done (by kernel_rfl) ?_ _
        exact ⟨rfl, hS⟩
      intro w8 hS
      go_wp2_with fail
      have c := hS.cell 1 rfl
      exact bodyPost_ret (v := .tuple #[.agg #[.int .i64 p.life, .int .i64 p.place, .bool p.first, .bool p.last, .string p.body], .bool (p.place == place)]) (by simp [results, Try.results87, go_sem, c]) rfl ⟨rfl, by simpa using hS.drop.drop⟩
  · rw [if_neg he] at hpc
    subst hpc
    have heb : (e != 0) = true := by simp [he]
    have heb2 : (e == 0) = false := by simp [he]
    clear he
    go_enter Try.func87, Try.ntmps87
    go_wp2_with (first
      | ((with_reducible refine wpList_alloc_st hS rfl rfl ez ?_); intro g4 w1 hS1; clear hS; have hS := hS1; clear hS1))
    revert hS
    apply wp_cut0
    · intro hS
      refine mixs_beginC 1 (by kernel_rfl) hS rfl ?_
      clear hS
      intro w6 hS hC
      have kC := hC.kblk 0 rfl
      refine mixs_take 0 (v := ?_) rfl (by kernel_rfl) (fun _ _ _ h => h) (by kernel_rfl) (by assumption) (fun s => ?hy) ?_; case hy => (go_simp <;> with_reducible rfl)
      try simp only [List.getElem_toArray, List.getElem_cons_succ, List.getElem_cons_zero, Act.put, List.setIfInBounds_toArray, List.set_cons_zero, List.set_cons_succ]
      refine mixs_take 1 (v := ?_) rfl (by kernel_rfl) (fun _ _ _ h => h) (by kernel_rfl) (by assumption) (fun s => ?hy) ?_; case hy => (go_simp <;> with_reducible rfl)
      try simp only [List.getElem_toArray, List.getElem_cons_succ, List.getElem_cons_zero, Act.put, List.setIfInBounds_toArray, List.set_cons_zero, List.set_cons_succ]
      refine mixs_take 2 (v := ?_) rfl (by kernel_rfl) (fun _ _ _ h => h) (by kernel_rfl) (by assumption) (fun s => ?hy) ?_; case hy => (go_simp <;> with_reducible rfl)
      try simp only [List.getElem_toArray, List.getElem_cons_succ, List.getElem_cons_zero, Act.put, List.setIfInBounds_toArray, List.set_cons_zero, List.set_cons_succ]
      refine mixs_take 3 (v := ?_) rfl (by kernel_rfl) (fun _ _ _ h => h) (by kernel_rfl) (by assumption) (fun s => ?hy) ?_; case hy => (go_simp <;> with_reducible rfl)
      try simp only [List.getElem_toArray, List.getElem_cons_succ, List.getElem_cons_zero, Act.put, List.setIfInBounds_toArray, List.set_cons_zero, List.set_cons_succ]
      refine mixs_take 4 (v := ?_) rfl (by kernel_rfl) (fun _ _ _ h => h) (by kernel_rfl) (by assumption) (fun s => ?hy) ?_; case hy => (go_simp <;> with_reducible rfl)
      try simp only [List.getElem_toArray, List.getElem_cons_succ, List.getElem_cons_zero, Act.put, List.setIfInBounds_toArray, List.set_cons_zero, List.set_cons_succ]
      refine mixs_take 5 (v := ?_) rfl (by kernel_rfl) (fun _ _ _ h => h) (by kernel_rfl) (by assumption) (fun s => ?hy) ?_; case hy => (go_simp <;> with_reducible rfl)
      try simp only [List.getElem_toArray, List.getElem_cons_succ, List.getElem_cons_zero, Act.put, List.setIfInBounds_toArray, List.set_cons_zero, List.set_cons_succ]
      refine mixs_one 6 (by kernel_rfl) rfl (fun K hK => ?_)
      go_simp
      ( first | (go_at_call 85; (with_reducible refine (cS.out _ (hS.preM (A := [_]) (B := [rng g bd r]) (R := dks bd sv wv d ++ []))).mono ?_); rintro _ w3 ⟨rfl, hk⟩; have hS1 := hS.callM (A := [_]) (R := dks bd sv wv d ++ []) hk; clear hS hk; have hS := hS1; clear hS1) | (go_at_call 22; (with_reducible refine (cR.out _ (hS.preM (A := [_, _]) (B := dks bd sv wv d) (R := []))).mono ?_); rintro _ w4 ⟨rfl, hk⟩; have hS1 := hS.callM (A := [_, _]) (R := []) hk; clear hS hk; have hS := hS1; clear hS1) )
      try clear hC
      refine hK.out _ _ _ (fun _ h => h) (by first | exact hS | exact hS.drop | exact hS.drop.drop | exact hS.drop.drop.drop | exact hS.drop.drop.drop.drop | exact hS.empty | exact hS.one 0 rfl | exact hS.one 1 rfl | exact hS.one 2 rfl | exact hS.one 3 rfl | exact hS.one 4 rfl | exact hS.one 5 rfl | exact hS.one 6 rfl | exact hS.one 7 rfl | exact hS.one 8 rfl | exact hS.one 9 rfl | exact hS.one 10 rfl | exact hS.one 11 rfl) (fun hC => ?_)
      clear hK K
      try simp only [List.getElem_toArray, List.getElem_cons_succ, List.getElem_cons_zero, Act.put, List.setIfInBounds_toArray, List.set_cons_zero, List.set_cons_succ]
      refine mixs_one 7 (by kernel_rfl) rfl (fun K hK => ?_)
      go_simp
      ( first | (go_at_call 85; (with_reducible refine (cS.out _ (hS.preM (A := [_]) (B := [rng g bd r]) (R := dks bd sv wv d ++ []))).mono ?_); rintro _ w3 ⟨rfl, hk⟩; have hS1 := hS.callM (A := [_]) (R := dks bd sv wv d ++ []) hk; clear hS hk; have hS := hS1; clear hS1) | (go_at_call 22; (with_reducible refine (cR.out _ (hS.preM (A := [_, _]) (B := dks bd sv wv d) (R := []))).mono ?_); rintro _ w4 ⟨rfl, hk⟩; have hS1 := hS.callM (A := [_, _]) (R := []) hk; clear hS hk; have hS := hS1; clear hS1) )
      try clear hC
      refine hK.out _ _ _ (fun _ h => h) (by first | exact hS | exact hS.drop | exact hS.drop.drop | exact hS.drop.drop.drop | exact hS.drop.drop.drop.drop | exact hS.empty | exact hS.one 0 rfl | exact hS.one 1 rfl | exact hS.one 2 rfl | exact hS.one 3 rfl | exact hS.one 4 rfl | exact hS.one 5 rfl | exact hS.one 6 rfl | exact hS.one 7 rfl | exact hS.one 8 rfl | exact hS.one 9 rfl | exact hS.one 10 rfl | exact hS.one 11 rfl) (fun hC => ?_)
      clear hK K
      try simp only [List.getElem_toArray, List.getElem_cons_succ, List.getElem_cons_zero, Act.put, List.setIfInBounds_toArray, List.set_cons_zero, List.set_cons_succ]
      refine mixs_take 8 (v := ?_) rfl (by kernel_rfl) (fun _ _ _ h => h) (by kernel_rfl) (by assumption) (fun s => ?hy) ?_; case hy => (go_simp <;> with_reducible rfl)
      try simp only [List.getElem_toArray, List.getElem_cons_succ, List.getElem_cons_zero, Act.put, List.setIfInBounds_toArray, List.set_cons_zero, List.set_cons_succ]
      refine mixs_take 9 (v := ?_) rfl (by kernel_rfl) (fun _ _ _ h => h) (by kernel_rfl) (by assumption) (fun s => ?hy) ?_; case hy => (go_simp <;> with_reducible rfl)
      try simp only [List.getElem_toArray, List.getElem_cons_succ, List.getElem_cons_zero, Act.put, List.setIfInBounds_toArray, List.set_cons_zero, List.set_cons_succ]
      refine mixs_take 10 (v := ?_) rfl (by kernel_rfl) (fun _ _ _ h => h) (by kernel_rfl) (by assumption) (fun s => ?hy) ?_; case hy => (go_simp <;> with_reducible rfl)
      try simp only [List.getElem_toArray, List.getElem_cons_succ, List.getElem_cons_zero, Act.put, List.setIfInBounds_toArray, List.set_cons_zero, List.set_cons_succ]
      refine mixs_take 11 (v := ?_) rfl (by kernel_rfl) (fun _ _ _ h => h) (by kernel_rfl) (by assumption) (fun s => ?hy) ?_; case hy => (go_simp <;> with_reducible rfl)
      try simp only [List.getElem_toArray, List.getElem_cons_succ, List.getElem_cons_zero, Act.put, List.setIfInBounds_toArray, List.set_cons_zero, List.set_cons_succ]
      refine mixs_take 12 (v := ?_) rfl (by kernel_rfl) (fun _ _ _ h => h) (by kernel_rfl) (by assumption) (fun s => ?hy) ?_; case hy => (go_simp <;> with_reducible rfl)
      try simp only [List.getElem_toArray, List.getElem_cons_succ, List.getElem_cons_zero, Act.put, List.setIfInBounds_toArray, List.set_cons_zero, List.set_cons_succ]
      refine wpAnyH_done (by kernel_rfl) ?_ _
      exact ⟨rfl, hS⟩
    intro w5 hS
    simp only [List.cons_append, List.nil_append] at hS
    go_wp2_with (first | (with_reducible refine wpList_box_st hS rfl rfl rfl ?_; intro g1 w1 hS1; clear hS; replace hS := hS1; clear hS1) | (with_reducible refine wpList_box1_st hS rfl rfl rfl ?_; intro g1 w1 hS1; clear hS; replace hS := hS1; clear hS1) | (with_reducible refine wpList_alloc_st hS rfl rfl (by assumption) ?_; intro g1 w1 hS1; clear hS; replace hS := hS1; clear hS1) | (with_reducible refine wpList_alloc1_st hS rfl rfl (by assumption) rfl ?_; intro g1 w1 hS1; clear hS; replace hS := hS1; clear hS1) | ((with_reducible refine wpList_load_st 0 hS rfl rfl rfl rfl ?_ rfl ?_); focus (simp [scalarB, go_sem]; done)) | ((with_reducible refine wpList_loadall_st 0 hS rfl rfl rfl rfl ?_ (by kernel_rfl) ?_); focus (simp [rowB, go_sem]; done)) | ((with_reducible refine wpList_store_st 0 hS rfl rfl rfl rfl (by kernel_rfl) rfl rfl ?_); intro w1 hS1; clear hS; replace hS := hS1; clear hS1; try simp only [List.set_cons_zero, List.set_cons_succ, List.setIfInBounds_toArray, List.take_succ_cons, List.take_zero, List.drop_succ_cons, List.drop_zero, List.nil_append, List.cons_append, List.append_nil, List.drop_nil, List.take_nil, List.length_cons, List.length_nil, Nat.zero_add, Nat.add_zero, Nat.reduceAdd] at hS) | ((with_reducible refine wpList_storerow_st 0 hS rfl rfl rfl rfl (by kernel_rfl) rfl rfl rfl rfl ?_); intro w1 hS1; clear hS; replace hS := hS1; clear hS1; try simp only [List.set_cons_zero, List.set_cons_succ, List.setIfInBounds_toArray, List.take_succ_cons, List.take_zero, List.drop_succ_cons, List.drop_zero, List.nil_append, List.cons_append, List.append_nil, List.drop_nil, List.take_nil, List.length_cons, List.length_nil, Nat.zero_add, Nat.add_zero, Nat.reduceAdd] at hS))
    have c := hS.cell 0 rfl
    exact bodyPost_ret (v := .tuple #[.agg #[.int .i64 noPc.life, .int .i64 noPc.place, .bool noPc.first, .bool noPc.last, .string noPc.body], .bool false]) (by simp [results, Try.results87, go_sem, c, noPc]) rfl ⟨rfl, by simpa using hS.drop⟩
end Go.Proofs.Ytlhpibniecfofaa
end

section
/- Rings: what is told, moved and raised. -/
set_option linter.unusedSimpArgs false
set_option linter.unusedVariables false
namespace Go.Proofs.Ytlhpibniecfofaa
open Go.RowKit Go.Ofp
set_option linter.unusedVariables false
set_option maxRecDepth 100000
set_option maxHeartbeats 4000000

theorem rgtail_any (g bd : Nat) (r : Rg) (w : World) (h : St w (feet [rng g bd r]) [rng g bd r] w) :
    Calls Try.prog 53 #[.pointer (some ⟨g, 0, none⟩)] w fun e w' => e = .returned (.int .i64 r.tail) ∧ w = w' := by
  have c := h.cell 0 rfl
  clear h
  go_enter Try.func53, Try.ntmps53
  go_wp2_with fail
  go_ret
  exact ⟨rfl, rfl⟩
theorem rgfree_any (g bd : Nat) (r : Rg) (size : Nat) (w : World) (h : St w (feet [rng g bd r]) [rng g bd r] w) (hr : r.Ok size) (hs : size ≤ 100000) :
    Calls Try.prog 51 #[.pointer (some ⟨g, 0, none⟩)] w fun e w' => e = .returned (.int .i64 r.free) ∧ Below w.heap.size w w' := by
  have hS := St.start w
  have c := h.cell 0 rfl
  have h1 := hr.pos
  have h2 := hr.fit
  have h3 := hr.tail
  have h4 := hr.top
  obtain ⟨q, hq⟩ : ∃ q : Int, (r.tail : Int) - r.head = q := ⟨_, rfl⟩
  have e1 : IntKind.i64.wrap q = q := IntWalk.i64_in _ (by omega)
  have e2 : IntKind.i64.wrap ((r.n : Int) - q) = r.free := by unfold Rg.free; rw [IntWalk.i64_in _ (by omega)]; omega
  have k0 := hS.kold0 (c 0)
  have k2 := hS.kold0 (c 2)
  have k3 := hS.kold0 (c 3)
  have k4 := hS.kold0 (c 4)
  clear h hr h1 h2 h3 h4
  go_enter Try.func51, Try.ntmps51
  go_wp2_with fail
  clear c
  refine mixs_begin (by kernel_rfl) hS ?_
  clear hS
  intro w6 hS
  refine mixs_take 0 (v := ?_) rfl (by kernel_rfl) (fun _ _ _ h => h) (by kernel_rfl) (by assumption) (fun s => ?hy) ?_; case hy => (go_simp <;> with_reducible rfl)
  try simp only [List.getElem_toArray, List.getElem_cons_succ, List.getElem_cons_zero, Act.put, List.setIfInBounds_toArray, List.set_cons_zero, List.set_cons_succ]
  refine mixs_take 1 (v := ?_) rfl (by kernel_rfl) (fun _ _ _ h => h) (by kernel_rfl) (by assumption) (fun s => ?hy) ?_; case hy => (go_simp <;> with_reducible rfl)
  try simp only [List.getElem_toArray, List.getElem_cons_succ, List.getElem_cons_zero, Act.put, List.setIfInBounds_toArray, List.set_cons_zero, List.set_cons_succ]
  refine mixs_take 2 (v := ?_) rfl (by kernel_rfl) (fun _ _ _ h => h) (by kernel_rfl) (by assumption) (fun s => ?hy) ?_; case hy => (go_simp <;> with_reducible rfl)
  try simp only [List.getElem_toArray, List.getElem_cons_succ, List.getElem_cons_zero, Act.put, List.setIfInBounds_toArray, List.set_cons_zero, List.set_cons_succ]
  refine mixs_take 3 (v := ?_) rfl (by kernel_rfl) (fun _ _ _ h => h) (by kernel_rfl) (by assumption) (fun s => ?hy) ?_; case hy => (go_simp <;> with_reducible rfl)
  try simp only [List.getElem_toArray, List.getElem_cons_succ, List.getElem_cons_zero, Act.put, List.setIfInBounds_toArray, List.set_cons_zero, List.set_cons_succ]
  refine mixs_take 4 (v := ?_) rfl (by kernel_rfl) (fun _ _ _ h => h) (by kernel_rfl) (by assumption) (fun s => ?hy) ?_; case hy => (go_simp <;> with_reducible rfl)
  try simp only [List.getElem_toArray, List.getElem_cons_succ, List.getElem_cons_zero, Act.put, List.setIfInBounds_toArray, List.set_cons_zero, List.set_cons_succ]
  refine mixs_take 5 (v := ?_) rfl (by kernel_rfl) (fun _ _ _ h => h) (by kernel_rfl) (by assumption) (fun s => ?hy) ?_; case hy => (go_simp <;> with_reducible rfl)
  try simp only [List.getElem_toArray, List.getElem_cons_succ, List.getElem_cons_zero, Act.put, List.setIfInBounds_toArray, List.set_cons_zero, List.set_cons_succ]
  refine mixs_take 6 (v := ?_) rfl (by kernel_rfl) (fun _ _ _ h => h) (by kernel_rfl) (by assumption) (fun s => ?hy) ?_; case hy => (go_simp <;> with_reducible rfl)
  try simp only [List.getElem_toArray, List.getElem_cons_succ, List.getElem_cons_zero, Act.put, List.setIfInBounds_toArray, List.set_cons_zero, List.set_cons_succ]
  refine mixs_take 7 (v := ?_) rfl (by kernel_rfl) (fun _ _ _ h => h) (by kernel_rfl) (by assumption) (fun s => ?hy) ?_; case hy => (go_simp <;> with_reducible rfl)
  try simp only [List.getElem_toArray, List.getElem_cons_succ, List.getElem_cons_zero, Act.put, List.setIfInBounds_toArray, List.set_cons_zero, List.set_cons_succ]
  refine mixs_take 8 (v := ?_) rfl (by kernel_rfl) (fun _ _ _ h => h) (by kernel_rfl) (by assumption) (fun s => ?hy) ?_; case hy => (go_simp <;> with_reducible rfl)
  try simp only [List.getElem_toArray, List.getElem_cons_succ, List.getElem_cons_zero, Act.put, List.setIfInBounds_toArray, List.set_cons_zero, List.set_cons_succ]
  refine mixs_take 9 (v := ?_) rfl (by kernel_rfl) (fun _ _ _ h => h) (by kernel_rfl) (by assumption) (fun s => ?hy) ?_; case hy => (go_simp <;> with_reducible rfl)
  try simp only [List.getElem_toArray, List.getElem_cons_succ, List.getElem_cons_zero, Act.put, List.setIfInBounds_toArray, List.set_cons_zero, List.set_cons_succ]
  refine mixs_take 10 (v := ?_) rfl (by kernel_rfl) (fun _ _ _ h => h) (by kernel_rfl) (by assumption) (fun s => ?hy) ?_; case hy => (go_simp <;> with_reducible rfl)
  try simp only [List.getElem_toArray, List.getElem_cons_succ, List.getElem_cons_zero, Act.put, List.setIfInBounds_toArray, List.set_cons_zero, List.set_cons_succ]
  refine mixs_take 11 (v := ?_) rfl (by kernel_rfl) (fun _ _ _ h => h) (by kernel_rfl) (by assumption) (fun s => ?hy) ?_; case hy => (go_simp <;> with_reducible rfl)
  try simp only [List.getElem_toArray, List.getElem_cons_succ, List.getElem_cons_zero, Act.put, List.setIfInBounds_toArray, List.set_cons_zero, List.set_cons_succ]
  refine mixs_take 12 (v := ?_) rfl (by kernel_rfl) (fun _ _ _ h => h) (by kernel_rfl) (by assumption) (fun s => ?hy) ?_; case hy => (go_simp <;> with_reducible rfl)
  try simp only [List.getElem_toArray, List.getElem_cons_succ, List.getElem_cons_zero, Act.put, List.setIfInBounds_toArray, List.set_cons_zero, List.set_cons_succ]
  refine mixs_take 13 (v := ?_) rfl (by kernel_rfl) (fun _ _ _ h => h) (by kernel_rfl) (by assumption) (fun s => ?hy) ?_; case hy => (go_simp <;> with_reducible rfl)
  try simp only [List.getElem_toArray, List.getElem_cons_succ, List.getElem_cons_zero, Act.put, List.setIfInBounds_toArray, List.set_cons_zero, List.set_cons_succ]
  refine mixs_take 14 (v := ?_) rfl (by kernel_rfl) (fun _ _ _ h => h) (by kernel_rfl) (by assumption) (fun s => ?hy) ?_; case hy => (go_simp <;> with_reducible rfl)
  try simp only [List.getElem_toArray, List.getElem_cons_succ, List.getElem_cons_zero, Act.put, List.setIfInBounds_toArray, List.set_cons_zero, List.set_cons_succ]
  refine wpAnyH_done (by kernel_rfl) ?_ _
  go_wp2_with fail
  go_ret
  exact ⟨rfl, hS.below⟩
theorem rgmove_any (g bd : Nat) (r : Rg) (z : Int) (w : World) (h : St w (feet [rng g bd r]) [rng g bd r] w) :
    Calls Try.prog 55 #[.pointer (some ⟨g, 0, none⟩), .int .i64 z] w fun e w' => e = .returned (.bool (r.move z).2) ∧ St w (feet [rng g bd r]) [rng g bd (r.move z).1] w' := by
  have hS := h
  have c := h.cell 0 rfl
  unfold Rg.move
  generalize feet _ = F at hS ⊢
  clear h
  by_cases h1 : z < r.head
  · rw [if_pos (.inl h1)]
    go_enter Try.func55, Try.ntmps55
    go_wp2_with fail
    go_ret
    exact ⟨rfl, hS⟩
  · by_cases h2 : (r.tail : Int) < z
    · rw [if_pos (.inr h2)]
      go_enter Try.func55, Try.ntmps55
      go_wp2_with fail
      go_ret
      exact ⟨rfl, hS⟩
    · rw [if_neg (by omega)]
      obtain ⟨k, rfl⟩ := Int.eq_ofNat_of_zero_le (show 0 ≤ z by omega)
      unfold rng at hS ⊢
      go_enter Try.func55, Try.ntmps55
      go_wp2_with (first | (with_reducible refine wpList_box_st hS rfl rfl rfl ?_; intro g1 w1 hS1; clear hS; replace hS := hS1; clear hS1) | (with_reducible refine wpList_box1_st hS rfl rfl rfl ?_; intro g1 w1 hS1; clear hS; replace hS := hS1; clear hS1) | (with_reducible refine wpList_alloc_st hS rfl rfl (by assumption) ?_; intro g1 w1 hS1; clear hS; replace hS := hS1; clear hS1) | (with_reducible refine wpList_alloc1_st hS rfl rfl (by assumption) rfl ?_; intro g1 w1 hS1; clear hS; replace hS := hS1; clear hS1) | ((with_reducible refine wpList_load_st 0 hS rfl rfl rfl rfl ?_ rfl ?_); focus (simp [scalarB, go_sem]; done)) | ((with_reducible refine wpList_loadall_st 0 hS rfl rfl rfl rfl ?_ (by kernel_rfl) ?_); focus (simp [rowB, go_sem]; done)) | ((with_reducible refine wpList_store_st 0 hS rfl rfl rfl rfl (by kernel_rfl) rfl rfl ?_); intro w1 hS1; clear hS; replace hS := hS1; clear hS1; try simp only [List.set_cons_zero, List.set_cons_succ, List.setIfInBounds_toArray, List.take_succ_cons, List.take_zero, List.drop_succ_cons, List.drop_zero, List.nil_append, List.cons_append, List.append_nil, List.drop_nil, List.take_nil, List.length_cons, List.length_nil, Nat.zero_add, Nat.add_zero, Nat.reduceAdd] at hS) | ((with_reducible refine wpList_storerow_st 0 hS rfl rfl rfl rfl (by kernel_rfl) rfl rfl rfl rfl ?_); intro w1 hS1; clear hS; replace hS := hS1; clear hS1; try simp only [List.set_cons_zero, List.set_cons_succ, List.setIfInBounds_toArray, List.take_succ_cons, List.take_zero, List.drop_succ_cons, List.drop_zero, List.nil_append, List.cons_append, List.append_nil, List.drop_nil, List.take_nil, List.length_cons, List.length_nil, Nat.zero_add, Nat.add_zero, Nat.reduceAdd] at hS))
      go_ret
      exact ⟨rfl, hS⟩
theorem rgraise_any (g bd : Nat) (r : Rg) (z : Int) (w : World) (h : St w (feet [rng g bd r]) [rng g bd r] w) (hr : 1 ≤ r.life) :
    Calls Try.prog 56 #[.pointer (some ⟨g, 0, none⟩), .int .i64 z] w fun e w' => e = .returned (.bool (r.raise z).2) ∧ St w (feet [rng g bd r]) [rng g bd (r.raise z).1] w' := by
  have hS := h
  have c := h.cell 0 rfl
  unfold Rg.raise
  generalize feet _ = F at hS ⊢
  clear h
  by_cases h1 : z < r.life
  · rw [if_pos (.inl h1)]
    go_enter Try.func56, Try.ntmps56
    go_wp2_with fail
    go_ret
    exact ⟨rfl, hS⟩
  · have h0 : 1 ≤ z := by omega
    by_cases h2 : 4294967296 ≤ z
    · rw [if_pos (.inr h2)]
      have hs : (z / 4294967296 != 0) = true := by rw [bne_iff_ne]; omega
      go_enter Try.func56, Try.ntmps56
      go_wp2_with fail
      go_ret
      exact ⟨rfl, hS⟩
    · rw [if_neg (by omega)]
      have hs : (z / 4294967296 != 0) = false := by rw [bne_eq_false_iff_eq]; omega
      obtain ⟨k, rfl⟩ := Int.eq_ofNat_of_zero_le (show 0 ≤ z by omega)
      unfold rng at hS ⊢
      go_enter Try.func56, Try.ntmps56
      go_wp2_with (first | (with_reducible refine wpList_box_st hS rfl rfl rfl ?_; intro g1 w1 hS1; clear hS; replace hS := hS1; clear hS1) | (with_reducible refine wpList_box1_st hS rfl rfl rfl ?_; intro g1 w1 hS1; clear hS; replace hS := hS1; clear hS1) | (with_reducible refine wpList_alloc_st hS rfl rfl (by assumption) ?_; intro g1 w1 hS1; clear hS; replace hS := hS1; clear hS1) | (with_reducible refine wpList_alloc1_st hS rfl rfl (by assumption) rfl ?_; intro g1 w1 hS1; clear hS; replace hS := hS1; clear hS1) | ((with_reducible refine wpList_load_st 0 hS rfl rfl rfl rfl ?_ rfl ?_); focus (simp [scalarB, go_sem]; done)) | ((with_reducible refine wpList_loadall_st 0 hS rfl rfl rfl rfl ?_ (by kernel_rfl) ?_); focus (simp [rowB, go_sem]; done)) | ((with_reducible refine wpList_store_st 0 hS rfl rfl rfl rfl (by kernel_rfl) rfl rfl ?_); intro w1 hS1; clear hS; replace hS := hS1; clear hS1; try simp only [List.set_cons_zero, List.set_cons_succ, List.setIfInBounds_toArray, List.take_succ_cons, List.take_zero, List.drop_succ_cons, List.drop_zero, List.nil_append, List.cons_append, List.append_nil, List.drop_nil, List.take_nil, List.length_cons, List.length_nil, Nat.zero_add, Nat.add_zero, Nat.reduceAdd] at hS) | ((with_reducible refine wpList_storerow_st 0 hS rfl rfl rfl rfl (by kernel_rfl) rfl rfl rfl rfl ?_); intro w1 hS1; clear hS; replace hS := hS1; clear hS1; try simp only [List.set_cons_zero, List.set_cons_succ, List.setIfInBounds_toArray, List.take_succ_cons, List.take_zero, List.drop_succ_cons, List.drop_zero, List.nil_append, List.cons_append, List.append_nil, List.drop_nil, List.take_nil, List.length_cons, List.length_nil, Nat.zero_add, Nat.add_zero, Nat.reduceAdd] at hS))
      go_ret
      exact ⟨rfl, hS⟩
end Go.Proofs.Ytlhpibniecfofaa
end

section
/- Pieces compared as structs. -/
set_option linter.unusedSimpArgs false
set_option linter.unusedVariables false
namespace Go.Proofs.Ytlhpibniecfofaa
open Go.RowKit Go.Ofp
set_option linter.unusedVariables false

end Go.Proofs.Ytlhpibniecfofaa
end

section
/- The walks of pieces: cut, joined, compared. -/
set_option linter.unusedSimpArgs false
set_option linter.unusedVariables false
namespace Go.Proofs.Ytlhpibniecfofaa
open Go.RowKit Go.Ofp
set_option linter.unusedVariables false
set_option maxRecDepth 100000
set_option maxHeartbeats 4000000

theorem cut_row (life place : Int) (rec : ByteArray) (mm j k : Nat) (r : ByteArray) (hmm : mm = manyB rec.size) (hr2 : r.data.toList = rec.data.toList.drop (j * 52)) (hk : k = min r.size 52) (hj : j < mm) :
    [Value.int .i64 life, .int .i64 (place + j), .bool ((j : Int) == 0), .bool ((j : Int) == (mm : Int) - 1), .string (r.extract 0 k)] = (pieceAt life place rec mm j).row := by
  have hb : r.extract 0 k = (pieceAt life place rec mm j).body := by
    apply ba_ext
    rw [hmm, pieceAt_body, extract_list, hr2, List.drop_zero, hk]
    have hs : r.size = (rec.data.toList.drop (j * 52)).length := by rw [ba_size, hr2]
    by_cases h : r.size ≤ 52
    · rw [Nat.min_eq_left h, List.take_of_length_le (by omega), List.take_of_length_le (by omega)]
    · rw [Nat.min_eq_right (by omega)]
  have h0 : ((j : Int) == 0) = (j == 0) := by rw [Bool.eq_iff_iff]; simp
  have h1 : ((j : Int) == (mm : Int) - 1) = (j == mm - 1) := by rw [Bool.eq_iff_iff]; simp; omega
  rw [hb, h0, h1]
  simp [Pc.row, pieceAt]

theorem rows_next (life place : Int) (rec : ByteArray) (mm j : Nat) : (((List.range j).map (pieceAt life place rec mm)).map Pc.row).flatten ++ (pieceAt life place rec mm j).row = (((List.range (j + 1)).map (pieceAt life place rec mm)).map Pc.row).flatten := by
  rw [List.range_succ]
  simp

theorem rest_next (rec r r' : ByteArray) (j : Nat) (hr2 : r.data.toList = rec.data.toList.drop (j * 52)) (h : r' = r.extract 52 r.size ∨ (r' = ByteArray.empty ∧ r.size ≤ 52)) : r'.data.toList = rec.data.toList.drop ((j + 1) * 52) := by
  have e : rec.data.toList.drop ((j + 1) * 52) = r.data.toList.drop 52 := by rw [hr2, List.drop_drop]; congr 1; omega
  rw [e]
  rcases h with rfl | ⟨rfl, h⟩
  · rw [extract_list, List.take_of_length_le]
    rw [List.length_drop, ba_size]
    omega
  · rw [List.drop_eq_nil_of_le (by rw [← ba_size]; exact h)]
    rfl

theorem cut_new (life place : Int) (rec : ByteArray) (w : World) (hr : rec.size ≤ 1000000) (hl : -9223372036854775808 ≤ life ∧ life ≤ 9223372036854775807) (hp : -9223372036854775808 ≤ place ∧ place ≤ 9223372036854775807) :
    Calls Try.prog 84 #[.int .i64 life, .int .i64 place, .string rec] w fun e w' => ∃ a cap, e = .returned (.slice a (cutB life place rec).length cap) ∧ Ps w' a (cutB life place rec) ∧ (cutB life place rec).length ≤ cap ∧ Below w.heap.size w w' ∧ ∀ x, a = some x → w.heap.size ≤ x.block ∧ x.block < w'.heap.size := by
  have hm := manyB_pos rec.size
  have hmb := manyB_bound rec.size
  obtain ⟨mm, hmm⟩ : ∃ mm, mm = manyB rec.size := ⟨_, rfl⟩
  rw [cutB, ← hmm]
  rw [← hmm] at hm hmb
  by_cases hpl : 0 ≤ place ∧ place + mm ≤ 1099511627776
  · by_cases hlf : 1 ≤ life ∧ life < 4294967296
    · have hc : cutOk life place mm = true := by rw [cutOk_iff]; omega
      rw [if_pos hc]
      clear hc
      have hok : Pc.ok ⟨life, 0, false, false, ⟨#[]⟩⟩ = true := by rw [Pc.ok_iff]; simp [ByteArray.size]; omega
      have hlen : ((List.range mm).map (pieceAt life place rec mm)).length = mm := by simp
      rw [hlen]
      replace hok := Lib.hid hok
      replace hmm := Lib.hid hmm
      clear hlen
      obtain ⟨hp0, hp1⟩ := hpl
      go_enter Try.func84, Try.ntmps84
      go_wp2_with (first
        | (go_at_call 83; refine (many_any _ _ (by unfold maxLen; omega)).mono ?_; rintro _ _ ⟨rfl, rfl⟩; rw [← hmm.out])
        | (go_at_call 101; refine (check_any ⟨life, 0, false, false, ⟨#[]⟩⟩ w).mono ?_; rintro _ w1 ⟨rfl, hb1⟩; rw [hok.out])
        | (at_make; refine wpList_mk rfl rfl Try.underlying145 elem_pc rfl rfl mm (by simp) (by omega) (by unfold maxLen; omega) ?_; intro w2 ho2 hg2))
      go_loopg [2, 8, 31] mm (fun gk vr vo vi wr => ∃ (j : Nat) (r : ByteArray), j + gk = mm ∧ vi = .int .i64 j ∧ vr = .string r ∧ r.data.toList = rec.data.toList.drop (j * 52) ∧ wr.ownsRow w1.heap.size 148 5 vo j (((List.range j).map (pieceAt life place rec mm)).map Pc.row).flatten ∧ Below w1.heap.size w1 wr)
      case atStart => exact ⟨0, rec, by omega, rfl, rfl, by simp, ho2, below_grown hg2⟩
      case round =>
        obtain ⟨j, r, hjk, rfl, rfl, hr2, ho, hb⟩ := hrel
        have hrs : r.size = rec.size - j * 52 := by rw [ba_size, ba_size, hr2, List.length_drop]
        by_cases hj : j < mm
        · replace ho := Lib.hid ho
          replace hr2 := Lib.hid hr2
          go_wp2_with (at_builtin; refine wpList_app (s := .tmp 37) (x := .tmp 52) (base := w1.heap.size) rfl rfl Try.underlying145 elem_pc (ho.out.alloc _) rfl (Src.slice Try.underlying145 (Sl.new _ _ _ _) (by simp)) rfl (row_one ⟨_, _, _, _, _⟩) (by omega) (by unfold maxLen; omega) (by have := hb.size; simp; omega) ?_; intro v' w' ho' hb' hg' hv')
          · go_roundg (mm - (j + 1))
            case measure => omega
            case rel =>
              refine ⟨j + 1, _, by omega, rfl, rfl, rest_next rec r _ j hr2.out (.inl (by rw [hrs])), ?_, (hb.alloc hb.size _).trans hb'⟩
              rw [← rows_next, ← cut_row life place rec mm j _ r hmm.out hr2.out rfl hj]
              have : (min r.size 52) = (if 52 < (((rec.size - j * 52 : Nat)) : Int) then (52 : Int) else ((rec.size - j * 52 : Nat) : Int)).toNat := by split <;> omega
              rw [this]
              exact ho'
          · go_roundg (mm - (j + 1))
            case measure => omega
            case rel =>
              refine ⟨j + 1, _, by omega, rfl, rfl, rest_next rec r _ j hr2.out (.inr ⟨rfl, by omega⟩), ?_, (hb.alloc hb.size _).trans hb'⟩
              rw [← rows_next, ← cut_row life place rec mm j _ r hmm.out hr2.out rfl hj]
              have : (min r.size 52) = (if 52 < (((rec.size - j * 52 : Nat)) : Int) then (52 : Int) else ((rec.size - j * 52 : Nat) : Int)).toNat := by split <;> omega
              rw [this]
              exact ho'
        · have e : j = mm := by omega
          subst e
          have hf8 := ownsRow_foot ho
          obtain ⟨a8, c8, rfl, hs8, hn8, hc8, hm8⟩ := owns_sl ho
          obtain ⟨b8, o8, rfl⟩ := hs8.cells (by intro hx; rw [hx] at hn8; simp at hn8; omega)
          have hl8 : b8 < wr.heap.size := by
            obtain ⟨b', o', e', hcc⟩ := hs8 0 (by rw [hn8]; omega)
            cases e'
            exact World.block_lt_of_cell? _ _ hcc
          replace hf8 : w1.heap.size ≤ b8 := hf8 b8 (by simp [Value.ownBlock])
          replace hs8 := Lib.hid hs8
          replace hmm := Lib.hid hmm
          clear ho2 ho
          go_wp2_with fail
          go_ret
          refine ⟨_, _, rfl, ?_, ?_, ?_, ?_⟩
          · exact hs8.out
          · exact Nat.le_refl _
          · exact hb1.trans (hb.mono hb1.size)
          · intro x hx
            cases hx
            exact ⟨Nat.le_trans hb1.size hf8, hl8⟩
    · have hc : ¬ cutOk life place mm = true := by rw [cutOk_iff]; omega
      rw [if_neg hc]
      clear hc
      have hok : Pc.ok ⟨life, 0, false, false, ⟨#[]⟩⟩ = false := by rw [Bool.eq_false_iff, ne_eq, Pc.ok_iff]; simp; omega
      replace hok := Lib.hid hok
      replace hmm := Lib.hid hmm
      go_enter Try.func84, Try.ntmps84
      go_wp2_with (first
        | (go_at_call 83; refine (many_any _ _ (by unfold maxLen; omega)).mono ?_; rintro _ _ ⟨rfl, rfl⟩; rw [← hmm.out])
        | (go_at_call 101; refine (check_any ⟨life, 0, false, false, ⟨#[]⟩⟩ w).mono ?_; rintro _ w1 ⟨rfl, hb1⟩; rw [hok.out]))
      go_ret
      exact ⟨none, 0, rfl, Sl.nil _ _, Nat.le_refl _, hb1, fun x hx => by cases hx⟩
  · have hc : ¬ cutOk life place mm = true := by rw [cutOk_iff]; omega
    rw [if_neg hc]
    clear hc
    replace hmm := Lib.hid hmm
    go_enter Try.func84, Try.ntmps84
    go_wp2_with (first
      | (go_at_call 83; refine (many_any _ _ (by unfold maxLen; omega)).mono ?_; rintro _ _ ⟨rfl, rfl⟩; rw [← hmm.out])
      | (go_at_call 101; exfalso; omega))
    all_goals
      go_ret
      exact ⟨none, ⟨0, rfl⟩, Sl.nil _ _, Below.refl _ _, fun x hx => by cases hx⟩

theorem cut_any (life place : Int) (rec : ByteArray) (w : World) (hr : rec.size ≤ 1000000) (hl : -9223372036854775808 ≤ life ∧ life ≤ 9223372036854775807) (hp : -9223372036854775808 ≤ place ∧ place ≤ 9223372036854775807) :
    Calls Try.prog 84 #[.int .i64 life, .int .i64 place, .string rec] w fun e w' => ∃ a cap, e = .returned (.slice a (cutB life place rec).length cap) ∧ Ps w' a (cutB life place rec) ∧ (cutB life place rec).length ≤ cap ∧ Below w.heap.size w w' :=
  (cut_new life place rec w hr hl hp).mono fun e w' ⟨a, cap, h1, h2, h3, h4, _⟩ => ⟨a, cap, h1, h2, h3, h4⟩

end Go.Proofs.Ytlhpibniecfofaa
end

section
/- A slice of somebody's own as a piece of memory. -/
set_option linter.unusedSimpArgs false
set_option linter.unusedVariables false
namespace Go.Ofp
open Go.RowKit
/-- A slice that lies in a block of the call's own. -/
def Ch.sl (a : Option Addr) (xs : List Value) : Ch where
  foot := (a.map Addr.block).toList
  holds w := Sl w a xs ∧ ∀ x, a = some x → x.block < w.heap.size
  lt {w} h g hg := by
    cases a with
    | none => cases hg
    | some x =>
      simp at hg
      subst hg
      exact h.2 x rfl
  keep {w w'} h k := by
    refine ⟨fun i hi => ?_, fun x hx => ?_⟩
    · obtain ⟨b, off, rfl, hc⟩ := h.1 i hi
      refine ⟨b, off, rfl, ?_⟩
      rw [World.cell?_of_block (k b (by simp))]
      exact hc
    · have h1 := h.2 x hx
      have h2 := k x.block (by simp [hx])
      rw [Array.getElem?_eq_getElem h1] at h2
      exact (Array.getElem?_eq_some_iff.1 h2).1
theorem St.pushSl {w0 w w1 : World} {F : List Nat} {L : List Ch} {a : Option Addr} {xs : List Value} (h : St w0 F L w) (hb : Below w.heap.size w w1) (hs : Sl w1 a xs) (hx : ∀ x, a = some x → w.heap.size ≤ x.block ∧ x.block < w1.heap.size) : St w0 F (Ch.sl a xs :: L) w1 :=
  h.push (Fr.of_below hb) ⟨hs, fun x e => (hx x e).2⟩ fun g hg => by
    cases a with
    | none => cases hg
    | some x => simp [Ch.sl] at hg; subst hg; exact (hx x rfl).1
theorem St.slof {w0 w : World} {F : List Nat} {L : List Ch} {a : Option Addr} {xs : List Value} (h : St w0 F L w) (i : Nat) (hi : L[i]? = some (Ch.sl a xs)) : Sl w a xs := (h.get i hi).1
section
variable {P : Program} {w w0 : World} {F : List Nat} {L : List Ch} {ops : Array Oper} {rest : List Oper} {o : Oper} {a : Act} {Q : Exit → Act → World → Prop} {K : Act → World → Prop}
theorem wpList_built_st (hS : St w0 F L w) (hgd : o.guard = none) {t : TypeId} {x : Operand} (ho : o.op = .buildSlice t 1 #[(0, x)]) {e : TypeId} (ht : P.underlying t = some (.slice e)) {z : Value} {size bytes : Nat} (he : Elem P e z size bytes)
    {cs : Array Value} (hx : a.eval x = .agg cs) (hv : cs.size = size) (hs : size ≤ 16777216)
    (h : ∀ g w', St w0 F (Ch.blk g e cs :: L) w' → wpList P ops Q rest (a.put o.dst (.slice (some ⟨g, 0, none⟩) 1 1)) w') : wpList P ops Q (o :: rest) a w := by
  refine wpList_plain hgd fun K hK => ?_
  have hr := run_build1 w t e ht he (v := .agg cs) hv hs
  unfold Oper.wp execOp
  simp only [ho, List.map_toArray, List.map_cons, List.map_nil, hx, Sem.run_bind, hr, Result.andThen_ok, Sem.run_pure]
  exact hK _ _ (h _ _ (hS.alloc cs e))

end
end Go.Ofp
end

section
/- A region in which the first two pieces are read and not written: they are the class. -/
set_option linter.unusedSimpArgs false
set_option linter.unusedVariables false
namespace Go.Ofp
open Go.RowKit
theorem St.fore2 {w0 w : World} {F : List Nat} {L : List Ch} {c d : Ch} (h : St w0 F (c :: d :: L) w) : St w0 F [c, d] w := St.fore (A := [c, d]) h
theorem St.fore3 {w0 w : World} {F : List Nat} {L : List Ch} {c d e : Ch} (h : St w0 F (c :: d :: e :: L) w) : St w0 F [c, d, e] w := St.fore (A := [c, d, e]) h
theorem mixs_beginC2 {P : Program} {Q : Exit → Act → World → Prop} {a : Act} {w w0 : World} {F : List Nat} {L : List Ch} {c d : Ch} {id : Nat} {l : List Oper} (hm : P.follows .mixedOrders = true) (hS : St w0 F (c :: d :: L) w)
    (h : ∀ w', St w0 F (c :: d :: L) w' → St w0 F [c, d] w' → wpAnyH P .any l.toArray Q (fun w' => St w0 F [c, d] w') l.length (Array.replicate l.length false) a w') : (Code.region id l.toArray true).wp P Q a w := by
  refine wp_region_held (S := fun w' => St w0 F [c, d] w') hm ?_
  simpa using h w.drew hS.drew hS.drew.fore2
/-- Some cells of a block of the call's own. -/
def Ch.part (g : Nat) (ks : List (Nat × Value)) : Ch where
  foot := [g]
  holds w := g < w.heap.size ∧ ∀ x ∈ ks, w.cell? ⟨g, x.1, none⟩ = some x.2
  lt h x hx := by simp at hx; subst hx; exact h.1
  keep {w w'} h k := by
    have e := k g (by simp)
    refine ⟨?_, fun x hx => by rw [World.cell?_of_block e]; exact h.2 x hx⟩
    have h1 := Array.getElem?_eq_getElem h.1
    rw [← e] at h1
    exact (Array.getElem?_eq_some_iff.1 h1).1
section
variable {P : Program} {c : Code} {Q : Exit → Act → World → Prop} {a : Act} {w w0 : World} {F : List Nat}
/-- Two new things of any kind. -/
theorem wp_cutxy {X Y : Type} {T : X → Y → Act} {L0 : List Ch} {L : X → Y → List Ch} (h : St w0 F L0 w → c.wp P (CutQ fun a w => ∃ u v, a = T u v ∧ St w0 F (L u v) w) a w) (k : ∀ u v w, St w0 F (L u v) w → Q .normal (T u v) w) : St w0 F L0 w → c.wp P Q a w := fun h0 =>
  wp_cutQ (h h0) fun _ w ⟨u, v, h, hS⟩ => h ▸ k u v w hS
end
end Go.Ofp
end
