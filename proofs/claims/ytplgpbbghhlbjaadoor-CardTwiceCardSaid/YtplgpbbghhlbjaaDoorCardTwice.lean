/- The law CardTwice: the walk. -/
import Derived.Test.YtplgpbbghhlbjaaDoorCardSame
import Derived.Test.YtplgpbbghhlbjaaDoorCardLaw1
import Derived.Test.YtplgpbbghhlbjaaDoorCardShows
import Derived.Test.YtplgpbbghhlbjaaDoorSt6
set_option linter.unusedSimpArgs false
set_option linter.unusedVariables false
namespace Go.Ofp
theorem mod_two_succ (x k : Nat) : x % 2 ^ (k + 1) = if x.testBit k then x % 2 ^ k ||| 2 ^ k else x % 2 ^ k := by
  refine Nat.eq_of_testBit_eq fun i => ?_
  have e : (x % 2 ^ (k + 1)).testBit i = (decide (i < k + 1) && x.testBit i) := Nat.testBit_mod_two_pow _ _ _
  rw [e]
  cases hb : x.testBit k with
  | true =>
    rw [if_pos rfl, Nat.testBit_or, Nat.testBit_mod_two_pow, Nat.testBit_two_pow]
    by_cases h1 : i < k
    · have : i ≠ k := by omega
      simp [h1, Nat.lt_succ_of_lt h1, Ne.symm this]
    · by_cases h2 : i = k
      · subst h2; simp [hb]
      · simp [h1, show ¬ i < k + 1 by omega, Ne.symm h2]
  | false =>
    rw [if_neg Bool.false_ne_true, Nat.testBit_mod_two_pow]
    by_cases h1 : i < k
    · simp [h1, Nat.lt_succ_of_lt h1]
    · by_cases h2 : i = k
      · subst h2; simp [hb]
      · simp [h1, show ¬ i < k + 1 by omega]
theorem proj_f (c : Cd) (m : Nat) (k : Nat) (hk : k < 8) : (c.proj m).f.getD k Vl.zero = if m.testBit k then c.f.getD k Vl.zero else Vl.zero := by
  have := putF_get c.f noF (bitsOf m) k (by simpa [noF] using hk)
  rw [List.getD_eq_getElem?_getD]
  show (putF c.f noF (bitsOf m))[k]?.getD Vl.zero = _
  rw [this]
  have hm : k ∈ bitsOf m ↔ m.testBit k = true := by simp [bitsOf, hk]
  by_cases h : m.testBit k = true
  · rw [if_pos (hm.2 h), if_pos h]; rfl
  · rw [if_neg (fun e => h (hm.1 e)), if_neg h]
    rw [noF, List.getElem?_replicate, if_pos hk]
    rfl
theorem f_ext {f g : List Vl} (hf : f.length = 8) (hg : g.length = 8) (h : ∀ k, k < 8 → f.getD k Vl.zero = g.getD k Vl.zero) : f = g := by
  refine List.ext_getElem (by omega) fun i h1 h2 => ?_
  have := h i (by omega)
  rwa [List.getD_eq_getElem?_getD, List.getD_eq_getElem?_getD, List.getElem?_eq_getElem h1, List.getElem?_eq_getElem h2] at this
theorem proj_length (c : Cd) (m : Nat) : (c.proj m).f.length = 8 := by
  show (putF c.f noF (bitsOf m)).length = 8
  rw [putF_length]
  rfl
theorem proj_proj (c : Cd) (m n : Nat) : (c.proj m).proj n = c.proj (m &&& n) := by
  have h1 : ((c.proj m).proj n).f = (c.proj (m &&& n)).f := by
    refine f_ext (proj_length _ _) (proj_length _ _) fun k hk => ?_
    rw [proj_f _ _ _ hk, proj_f _ _ _ hk, proj_f _ _ _ hk, Nat.testBit_and]
    cases m.testBit k <;> cases n.testBit k <;> rfl
  have h2 : ((c.proj m).proj n).lab = (c.proj (m &&& n)).lab := by
    show (if n.testBit 8 then (if m.testBit 8 then c.lab else 0) else 0) = if (m &&& n).testBit 8 then c.lab else 0
    rw [Nat.testBit_and]
    cases m.testBit 8 <;> cases n.testBit 8 <;> rfl
  have e : ∀ a b : Cd, a.id = b.id → a.ver = b.ver → a.lab = b.lab → a.f = b.f → a = b := by
    rintro ⟨_, _, _, _⟩ ⟨_, _, _, _⟩ h1 h2 h3 h4
    simp_all
  exact e _ _ rfl rfl h2 h1
theorem bit511 : ∀ k : Fin 8, (511 : Nat).testBit k.val = true := by decide
theorem merge_ofm (a b : Cd) (m : Nat) (hm : ∀ k, k < 8 → m.testBit k = true) (h8 : m.testBit 8 = true) (ha : a.f.length = 8) (hb : b.f.length = 8) : b.merge (a.of m) = ⟨b.id, if b.ver < 1099511627776 then b.ver + 1 else b.ver, a.lab, a.f⟩ := by
  have h1 : (b.merge (a.of m)).f = a.f := by
    have hl : (b.merge (a.of m)).f.length = 8 := by
      show (putF (a.of m).f b.f (bitsOf m)).length = 8
      rw [putF_length, hb]
    refine f_ext hl ha fun k hk => ?_
    have := putF_get (a.of m).f b.f (bitsOf m) k (by omega)
    have hk5 := hm k hk
    rw [if_pos (by simp [bitsOf, hk, hk5])] at this
    rw [List.getD_eq_getElem?_getD]
    show (putF (a.of m).f b.f (bitsOf m))[k]?.getD Vl.zero = _
    rw [this]
    show (a.proj m).f.getD k Vl.zero = _
    rw [proj_f _ _ _ hk, if_pos hk5]
  have e : ∀ a b : Cd, a.id = b.id → a.ver = b.ver → a.lab = b.lab → a.f = b.f → a = b := by
    rintro ⟨_, _, _, _⟩ ⟨_, _, _, _⟩ h1 h2 h3 h4
    simp_all
  exact e _ _ rfl rfl (show (if m.testBit 8 then (if m.testBit 8 then a.lab else 0) else b.lab) = a.lab by rw [h8]; rfl) h1
theorem merge_of (a b : Cd) (ha : a.f.length = 8) (hb : b.f.length = 8) : b.merge (a.of 511) = ⟨b.id, if b.ver < 1099511627776 then b.ver + 1 else b.ver, a.lab, a.f⟩ :=
  merge_ofm a b 511 (fun k hk => bit511 ⟨k, hk⟩) (by decide) ha hb
end Go.Ofp
namespace Go.Proofs.YtplgpbbghhlbjaaDoor
open Go.RowKit Go.Ofp
set_option linter.unusedVariables false
set_option maxRecDepth 100000
set_option maxHeartbeats 4000000

theorem rbothm_any (s t : Nat) (hs : s ≤ 511) (ht : t ≤ 511) (w : World) :
    Calls Tryd.prog 24 #[.int .u32 s, .int .u32 t] w fun e w' => e = .returned (.int .u32 (s &&& t : Nat)) ∧ w = w' := by
  have cH := Lib.hid (fun (q n : Nat) (h : n < 32) (hq : q < 4294967296) (W : World) => rhasb_any q n W h hq)
  have cT := Lib.hid (fun (q n : Nat) (h : n < 32) (hq : q < 4294967296) (W : World) => rwith_any q n W h hq)
  have hmod : ∀ k, (s &&& t) % 2 ^ (k + 1) = if s.testBit k && t.testBit k then (s &&& t) % 2 ^ k ||| 2 ^ k else (s &&& t) % 2 ^ k := fun k => by
    rw [mod_two_succ, Nat.testBit_and]
  have hlast : (s &&& t) % 2 ^ 9 = s &&& t := Nat.mod_eq_of_lt (Nat.and_lt_two_pow _ (by omega))
  generalize s &&& t = x at hmod hlast ⊢
  replace hmod := Lib.hid hmod
  replace hlast := Lib.hid hlast
  go_enter Tryd.func24, Tryd.ntmps24
  go_wp2_with fail
  go_loopg [5, 6] 9 (fun gk v5 vx wr => ∃ k q : Nat, k + gk = 9 ∧ vx = .int .i64 k ∧ v5 = .int .u32 q ∧ q < 4294967296 ∧ Hid (q = x % 2 ^ k) ∧ w = wr)
  case atStart => exact ⟨0, 0, Nat.zero_add _, rfl, rfl, by omega, Lib.hid (by rw [Nat.pow_zero, Nat.mod_one]), rfl⟩
  case round =>
    obtain ⟨k, q, hkn, rfl, rfl, hq, hqx, rfl⟩ := hrel
    by_cases hlt : k < 9
    · have hlt2 : k ≤ 8 := by omega
      have hnx := hmod.out k
      have c1 := fun W : World => cH.out s k (by omega) (by omega) W
      have c2 := fun W : World => cH.out t k (by omega) (by omega) W
      cases hb : s.testBit k with
      | false =>
        rw [hb] at c1 hnx
        rw [Bool.false_and, if_neg Bool.false_ne_true, ← hqx.out] at hnx
        replace c1 := Lib.hid c1
        replace c2 := Lib.hid c2
        replace hnx := Lib.hid hnx
        clear hb
        go_wp2_with (first
          | (go_at_call 20; (with_reducible refine (c1.out _).mono ?_); rintro _ _ ⟨rfl, rfl⟩))
        go_roundg (9 - (k + 1))
        case measure => omega
        case rel => exact ⟨k + 1, q, by omega, by go_num, rfl, hq, Lib.hid hnx.out.symm, rfl⟩
      | true =>
        cases hb2 : t.testBit k with
        | false =>
          rw [hb] at c1
          rw [hb2] at c2
          rw [hb, hb2, Bool.true_and, if_neg Bool.false_ne_true, ← hqx.out] at hnx
          replace c1 := Lib.hid c1
          replace c2 := Lib.hid c2
          replace hnx := Lib.hid hnx
          clear hb hb2
          go_wp2_with (first
            | (go_at_call 20; (with_reducible refine (c1.out _).mono ?_); rintro _ _ ⟨rfl, rfl⟩)
            | (go_at_call 20; (with_reducible refine (c2.out _).mono ?_); rintro _ _ ⟨rfl, rfl⟩))
          go_roundg (9 - (k + 1))
          case measure => omega
          case rel => exact ⟨k + 1, q, by omega, by go_num, rfl, hq, Lib.hid hnx.out.symm, rfl⟩
        | true =>
          have hq2 := or_lt q k hq (by omega)
          rw [hb] at c1
          rw [hb2] at c2
          rw [hb, hb2, Bool.true_and, if_pos rfl, ← hqx.out] at hnx
          have c3 := fun W : World => cT.out q k (by omega) hq W
          replace c1 := Lib.hid c1
          replace c2 := Lib.hid c2
          replace c3 := Lib.hid c3
          replace hnx := Lib.hid hnx
          clear hb hb2
          go_wp2_with (first
            | (go_at_call 20; (with_reducible refine (c1.out _).mono ?_); rintro _ _ ⟨rfl, rfl⟩)
            | (go_at_call 20; (with_reducible refine (c2.out _).mono ?_); rintro _ _ ⟨rfl, rfl⟩)
            | (go_at_call 48; (with_reducible refine (c3.out _).mono ?_); rintro _ _ ⟨rfl, rfl⟩))
          go_roundg (9 - (k + 1))
          case measure => omega
          case rel => exact ⟨k + 1, q ||| 2 ^ k, by omega, by go_num, rfl, hq2, Lib.hid hnx.out.symm, rfl⟩
    · obtain rfl : k = 9 := by omega
      have hl := hqx.out.trans hlast.out
      subst hl
      go_wp2_with fail
      go_ret
      exact ⟨rfl, rfl⟩
theorem twice_main (a b : Cd) (m n : Nat) (hm : m ≤ 511) (hn : n ≤ 511) (ha : a.f.length = 8) (hb : b.f.length = 8) (hal : a.lab < 4294967296) (hv : 0 ≤ b.ver ∧ b.ver ≤ 1099511627776) (hl1 : largeF a.f = false) (hl2 : largeF b.f = false) (w : World) (h0 : 0 < w.heap.size) (ht : Sl w (some ⟨0, 0, none⟩) (tzTab.map vb)) :
    Calls Tryd.prog 5 #[.agg (cdRow a).toArray, .agg (cdRow b).toArray, .agg #[.int .u32 m, .int .u32 n]] w fun e w' => e = .returned (.bool true) ∧ Below w.heap.size w w' := by
  have hS := St.start w
  have ec := elem_card
  have cL1 := fun W : World => large6_any a.f ha W
  have cL2 := fun W : World => large6_any b.f hb W
  rw [hl1] at cL1
  rw [hl2] at cL2
  have cA := fun (W : World) (hb : Below w.heap.size w W) => awake6_any W (Nat.lt_of_lt_of_le h0 hb.size) (ht.below hb)
  have cC1 := fun (W : World) => rmcheck_any m W
  have cC2 := fun (W : World) => rmcheck_any n W
  rw [decide_eq_true hm] at cC1
  rw [decide_eq_true hn] at cC2
  have hmn : (m &&& n) < 4294967296 := Nat.lt_of_le_of_lt Nat.and_le_left (by omega)
  have cO : ∀ (W : World) (hb : Below w.heap.size w W), Calls Tryd.prog 13 #[.agg (cdRow a).toArray, .int .u32 511] W fun e w' => e = .returned (.agg (ptRow (a.of 511)).toArray) ∧ Below W.heap.size W w' := fun (W : World) (hb : Below w.heap.size w W) => of_any a 511 (by decide) ha W (Nat.lt_of_lt_of_le h0 hb.size) (ht.below hb)
  have cM := fun (W : World) (hb2 : Below w.heap.size w W) => mg_any b (a.of 511) (show (511 : Nat) < 4294967296 by decide) (by omega) hb (proj_length a 511) W (Nat.lt_of_lt_of_le h0 hb2.size) (ht.below hb2)
  rw [merge_of a b ha hb] at cM
  have cP1 := fun (W : World) (hb : Below w.heap.size w W) => pr_any a m (by omega) ha W (Nat.lt_of_lt_of_le h0 hb.size) (ht.below hb)
  have cP2 := fun (W : World) (hb : Below w.heap.size w W) => pr_any (a.proj m) n (by omega) (proj_length a m) W (Nat.lt_of_lt_of_le h0 hb.size) (ht.below hb)
  have cP3 := fun (W : World) (hb : Below w.heap.size w W) => pr_any a (m &&& n) hmn ha W (Nat.lt_of_lt_of_le h0 hb.size) (ht.below hb)
  rw [proj_proj] at cP2
  have cB := fun (W : World) => rbothm_any m n hm hn W
  have hE1 := fun W : World => eql_cd (a.proj (m &&& n)) (a.proj (m &&& n)) (proj_length _ _) (proj_length _ _) W
  have hE2 := fun W : World => eql_fl a.f a.f ha ha W
  simp only [decide_true] at hE1 hE2
  have hG1 := guard_cd
  have hG2 := guard_fl
  generalize (if b.ver < 1099511627776 then b.ver + 1 else b.ver) = xv at cM
  have cD := fun (W : World) => df_any ⟨b.id, xv, a.lab, a.f⟩ a ha ha W
  have hd0 : Cd.diff ⟨b.id, xv, a.lab, a.f⟩ a = 0 := by
    show maskOf (unlikeTo a.f a.f 8) + (if a.lab = a.lab then 0 else 256) = 0
    rw [unlikeTo_self, if_pos rfl]
    rfl
  rw [hd0] at cD
  have hol : (ptRow (a.of 511)).length = 26 := ptRow_len _ (proj_length a 511)
  generalize ptRow (a.of 511) = RO at cO cM hol
  generalize cdRow (a.proj (m &&& n)) = R2 at cP2 cP3 hE1
  generalize cdRow (a.proj m) = R1 at cP1 cP2
  generalize m &&& n = mn at *
  obtain ⟨ia, va, la, f⟩ := a
  obtain ⟨ib, vb', lb, g⟩ := b
  simp only [cdRow] at *
  have hfl : (flRow f).length = 24 := by rw [flRow_length, ha]
  have hgl : (flRow g).length = 24 := by rw [flRow_length, hb]
  have hacl : (Value.int .i64 ia :: .int .i64 va :: .int .u32 la :: flRow f).length = 27 := by simp [hfl]
  have hbcl : (Value.int .i64 ib :: .int .i64 vb' :: .int .u32 lb :: flRow g).length = 27 := by simp [hgl]
  have hxcl : (Value.int .i64 ib :: .int .i64 xv :: .int .u32 la :: flRow f).length = 27 := by simp [hfl]
  have hxo : (Value.int .i64 ib :: .int .i64 xv :: .int .u32 la :: flRow f).all Value.oneCell' = true := by
    simp only [List.all_cons, fl_one]
    rfl
  generalize flRow f = RF at *
  generalize flRow g = RG at *
  have hf3 : ((Value.int .i64 ia :: .int .i64 va :: .int .u32 la :: RF).toArray.toList.drop 3).take 24 = RF := List.take_of_length_le (Nat.le_of_eq hfl)
  have hg3 : ((Value.int .i64 ib :: .int .i64 vb' :: .int .u32 lb :: RG).toArray.toList.drop 3).take 24 = RG := List.take_of_length_le (Nat.le_of_eq hgl)
  have hx3 : ((Value.int .i64 ib :: .int .i64 xv :: .int .u32 la :: RF).toArray.toList.drop 3).take 24 = RF := List.take_of_length_le (Nat.le_of_eq hfl)
  have har : ((Value.int .i64 ia :: .int .i64 va :: .int .u32 la :: RF).toArray.toList.drop 0).take 27 = (Value.int .i64 ia :: .int .i64 va :: .int .u32 la :: RF) := List.take_of_length_le (Nat.le_of_eq hacl)
  have hbr : ((Value.int .i64 ib :: .int .i64 vb' :: .int .u32 lb :: RG).toArray.toList.drop 0).take 27 = (Value.int .i64 ib :: .int .i64 vb' :: .int .u32 lb :: RG) := List.take_of_length_le (Nat.le_of_eq hbcl)
  have hxr : ((Value.int .i64 ib :: .int .i64 xv :: .int .u32 la :: RF).toArray.toList.drop 0).take 27 = (Value.int .i64 ib :: .int .i64 xv :: .int .u32 la :: RF) := List.take_of_length_le (Nat.le_of_eq hxcl)
  obtain ⟨hv1, hv2⟩ := hv
  have d1 : decide (vb' < 0) = false := decide_eq_false (by omega)
  have d2 : decide ((1099511627776 : Int) < vb') = false := decide_eq_false (by omega)
  replace cL1 := Lib.hid cL1
  replace cL2 := Lib.hid cL2
  replace cA := Lib.hid cA
  replace cC1 := Lib.hid cC1
  replace cC2 := Lib.hid cC2
  replace cO := Lib.hid cO
  replace cM := Lib.hid cM
  replace cP1 := Lib.hid cP1
  replace cP2 := Lib.hid cP2
  replace cP3 := Lib.hid cP3
  replace cB := Lib.hid cB
  replace cD := Lib.hid cD
  clear hl1 hl2 ht hm hn ha hb hd0
  go_enter Tryd.func5, Tryd.ntmps5
  go_wp2_with (first
    | (go_at_call 8; (with_reducible refine (cL1.out _).mono ?_); rintro _ w9 ⟨rfl, hk9⟩; have hS1 := hS.keepB hk9; clear hk9 hS; have hS := hS1; clear hS1)
    | (go_at_call 8; (with_reducible refine (cL2.out _).mono ?_); rintro _ w9 ⟨rfl, hk9⟩; have hS1 := hS.keepB hk9; clear hk9 hS; have hS := hS1; clear hS1)
    | (go_at_call 9; (with_reducible refine (cC1.out _).mono ?_); rintro _ _ ⟨rfl, rfl⟩)
    | (go_at_call 9; (with_reducible refine (cC2.out _).mono ?_); rintro _ _ ⟨rfl, rfl⟩)
    | (with_reducible refine wpList_box_st (L := []) hS rfl rfl rfl ?_; intro ga w1 hS1; clear hS; have hS := hS1; clear hS1)
    | (with_reducible refine wpList_box_st (L := [_]) hS rfl rfl rfl ?_; intro gb w1 hS1; clear hS; have hS := hS1; clear hS1)
    | (with_reducible refine wpList_box_st (L := [_, _]) hS rfl rfl rfl ?_; intro gm w1 hS1; clear hS; have hS := hS1; clear hS1)
    | ((with_reducible refine wpList_gloadrow_st (n := 24) 2 hS rfl (by with_unfolding_all rfl) rfl rfl ?_ (by kernel_rfl) hf3 hfl ?_); focus (simp [rowB, go_sem]; done))
    | ((with_reducible refine wpList_gloadrow_st (n := 24) 1 hS rfl (by with_unfolding_all rfl) rfl rfl ?_ (by kernel_rfl) hg3 hgl ?_); focus (simp [rowB, go_sem]; done))
    | ((with_reducible refine wpList_gload_st 0 hS rfl (by with_unfolding_all rfl) rfl rfl ?_ rfl ?_); focus (simp [scalarB, go_sem]; done))
    | ((with_reducible refine wpList_gload_st 1 hS rfl (by with_unfolding_all rfl) rfl rfl ?_ rfl ?_); focus (simp [scalarB, go_sem]; done)))
  have kA := hS.krow (P := Tryd.prog) (j := 0) 2 rfl (t := 27) (by kernel_rfl) (n := 27) (by kernel_rfl) har hacl
  have kB := hS.krow (P := Tryd.prog) (j := 0) 1 rfl (t := 27) (by kernel_rfl) (n := 27) (by kernel_rfl) hbr hbcl
  refine mixs_begin (by kernel_rfl) hS ?_
  clear hS
  intro w2 hS
  refine mixs_take 0 (v := ?_) rfl (by kernel_rfl) (fun _ _ _ h => h) (by kernel_rfl) (by assumption) (fun s => ?hy) ?_; case hy => (refine Eq.trans (take_loadrow s rfl rfl kB) ?_; with_reducible rfl)
  try simp only [List.getElem_toArray, List.getElem_cons_succ, List.getElem_cons_zero, Act.put, List.setIfInBounds_toArray, List.set_cons_zero, List.set_cons_succ]
  refine mixs_take 1 (v := ?_) rfl (by kernel_rfl) (fun _ _ _ h => h) (by kernel_rfl) (by assumption) (fun s => ?hy) ?_; case hy => (refine Eq.trans (take_loadrow s rfl rfl kA) ?_; with_reducible rfl)
  try simp only [List.getElem_toArray, List.getElem_cons_succ, List.getElem_cons_zero, Act.put, List.setIfInBounds_toArray, List.set_cons_zero, List.set_cons_succ]
  refine mixs_two 2 4 (by kernel_rfl) rfl rfl (fun K hK => ?_) (fun K hK => ?_)
  ·
    go_simp
    ( first | (go_at_call 13; (with_reducible refine (cO.out _ hS.below).mono ?_); rintro _ w9 ⟨rfl, hk9⟩; have hS1 := hS.keepB hk9; clear hk9 hS; have hS := hS1; clear hS1) | (go_at_call 15; (with_reducible refine (cM.out _ hS.below).mono ?_); rintro _ w9 ⟨rfl, hk9⟩; have hS1 := hS.keepB hk9; clear hk9 hS; have hS := hS1; clear hS1) | (with_reducible refine op_alloc_st (by kernel_rfl) rfl ec hS ?_; intro gx w1 hS1; clear hS; have hS := hS1; clear hS1) | ((with_reducible refine op_storerow_st (by kernel_rfl) (n := 27) (vs := Value.int .i64 ib :: .int .i64 xv :: .int .u32 la :: RF) 0 hS rfl rfl rfl (by kernel_rfl) rfl hxcl hxo (by kernel_rfl) ?_); intro w1 hS1; clear hS; have hS := hS1; clear hS1; simp only [List.set_cons_zero, List.take_zero, List.nil_append, List.drop_succ_cons, List.drop_zero, List.drop_nil, List.append_nil] at hS) )
    try clear hC
    refine hK.out _ _ _ (fun _ h => h) (by first | exact hS | exact hS.drop | exact hS.drop.drop | exact hS.drop.drop.drop | exact hS.drop.drop.drop.drop | exact hS.empty | exact hS.one 0 rfl | exact hS.one 1 rfl | exact hS.one 2 rfl | exact hS.one 3 rfl | exact hS.one 4 rfl | exact hS.one 5 rfl | exact hS.one 6 rfl | exact hS.one 7 rfl | exact hS.one 8 rfl | exact hS.one 9 rfl | exact hS.one 10 rfl | exact hS.one 11 rfl) (fun hC => ?_)
    clear hK K
    try simp only [List.getElem_toArray, List.getElem_cons_succ, List.getElem_cons_zero, Act.put, List.setIfInBounds_toArray, List.set_cons_zero, List.set_cons_succ]
    refine mixs_two 3 4 (by kernel_rfl) rfl rfl (fun K hK => ?_) (fun K hK => ?_)
    ·
      go_simp
      ( first | (go_at_call 13; (with_reducible refine (cO.out _ hS.below).mono ?_); rintro _ w9 ⟨rfl, hk9⟩; have hS1 := hS.keepB hk9; clear hk9 hS; have hS := hS1; clear hS1) | (go_at_call 15; (with_reducible refine (cM.out _ hS.below).mono ?_); rintro _ w9 ⟨rfl, hk9⟩; have hS1 := hS.keepB hk9; clear hk9 hS; have hS := hS1; clear hS1) | (with_reducible refine op_alloc_st (by kernel_rfl) rfl ec hS ?_; intro gx w1 hS1; clear hS; have hS := hS1; clear hS1) | ((with_reducible refine op_storerow_st (by kernel_rfl) (n := 27) (vs := Value.int .i64 ib :: .int .i64 xv :: .int .u32 la :: RF) 0 hS rfl rfl rfl (by kernel_rfl) rfl hxcl hxo (by kernel_rfl) ?_); intro w1 hS1; clear hS; have hS := hS1; clear hS1; simp only [List.set_cons_zero, List.take_zero, List.nil_append, List.drop_succ_cons, List.drop_zero, List.drop_nil, List.append_nil] at hS) )
      try clear hC
      refine hK.out _ _ _ (fun _ h => h) (by first | exact hS | exact hS.drop | exact hS.drop.drop | exact hS.drop.drop.drop | exact hS.drop.drop.drop.drop | exact hS.empty | exact hS.one 0 rfl | exact hS.one 1 rfl | exact hS.one 2 rfl | exact hS.one 3 rfl | exact hS.one 4 rfl | exact hS.one 5 rfl | exact hS.one 6 rfl | exact hS.one 7 rfl | exact hS.one 8 rfl | exact hS.one 9 rfl | exact hS.one 10 rfl | exact hS.one 11 rfl) (fun hC => ?_)
      clear hK K
      try simp only [List.getElem_toArray, List.getElem_cons_succ, List.getElem_cons_zero, Act.put, List.setIfInBounds_toArray, List.set_cons_zero, List.set_cons_succ]
      refine mixs_one 4 (by kernel_rfl) rfl (fun K hK => ?_)
      refine op_alloc_st (by kernel_rfl) rfl (by assumption) hS ?_
      intro g1 w1 hS1; clear hS; have hS := hS1; clear hS1
      try clear hC
      refine hK.out _ _ _ (fun _ h => h) (by first | exact hS | exact hS.drop | exact hS.drop.drop | exact hS.drop.drop.drop | exact hS.drop.drop.drop.drop | exact hS.empty | exact hS.one 0 rfl | exact hS.one 1 rfl | exact hS.one 2 rfl | exact hS.one 3 rfl | exact hS.one 4 rfl | exact hS.one 5 rfl | exact hS.one 6 rfl | exact hS.one 7 rfl | exact hS.one 8 rfl | exact hS.one 9 rfl | exact hS.one 10 rfl | exact hS.one 11 rfl) (fun hC => ?_)
      clear hK K
      try simp only [List.getElem_toArray, List.getElem_cons_succ, List.getElem_cons_zero, Act.put, List.setIfInBounds_toArray, List.set_cons_zero, List.set_cons_succ]
      refine mixs_one 5 (by kernel_rfl) rfl (fun K hK => ?_)
      ( first | (go_at_call 13; (with_reducible refine (cO.out _ hS.below).mono ?_); rintro _ w9 ⟨rfl, hk9⟩; have hS1 := hS.keepB hk9; clear hk9 hS; have hS := hS1; clear hS1) | (go_at_call 15; (with_reducible refine (cM.out _ hS.below).mono ?_); rintro _ w9 ⟨rfl, hk9⟩; have hS1 := hS.keepB hk9; clear hk9 hS; have hS := hS1; clear hS1) | (with_reducible refine op_alloc_st (by kernel_rfl) rfl ec hS ?_; intro gx w1 hS1; clear hS; have hS := hS1; clear hS1) | ((with_reducible refine op_storerow_st (by kernel_rfl) (n := 27) (vs := Value.int .i64 ib :: .int .i64 xv :: .int .u32 la :: RF) 0 hS rfl rfl rfl (by kernel_rfl) rfl hxcl hxo (by kernel_rfl) ?_); intro w1 hS1; clear hS; have hS := hS1; clear hS1; simp only [List.set_cons_zero, List.take_zero, List.nil_append, List.drop_succ_cons, List.drop_zero, List.drop_nil, List.append_nil] at hS) )
      try clear hC
      refine hK.out _ _ _ (fun _ h => h) (by first | exact hS | exact hS.drop | exact hS.drop.drop | exact hS.drop.drop.drop | exact hS.drop.drop.drop.drop | exact hS.empty | exact hS.one 0 rfl | exact hS.one 1 rfl | exact hS.one 2 rfl | exact hS.one 3 rfl | exact hS.one 4 rfl | exact hS.one 5 rfl | exact hS.one 6 rfl | exact hS.one 7 rfl | exact hS.one 8 rfl | exact hS.one 9 rfl | exact hS.one 10 rfl | exact hS.one 11 rfl) (fun hC => ?_)
      clear hK K
      try simp only [List.getElem_toArray, List.getElem_cons_succ, List.getElem_cons_zero, Act.put, List.setIfInBounds_toArray, List.set_cons_zero, List.set_cons_succ]
      refine wpAnyH_done (by kernel_rfl) ?_ _
      clear kA kB
      go_wp2_with fail
      have kA := hS.krow (P := Tryd.prog) (j := 0) 3 rfl (t := 27) (by kernel_rfl) (n := 27) (by kernel_rfl) har hacl
      have kX := hS.krow (P := Tryd.prog) (j := 0) 0 rfl (t := 27) (by kernel_rfl) (n := 27) (by kernel_rfl) hxr hxcl
      have kAf := hS.krow (P := Tryd.prog) (j := 3) 3 rfl (t := 25) (by kernel_rfl) (n := 24) (by kernel_rfl) hf3 hfl
      have kXf := hS.krow (P := Tryd.prog) (j := 3) 0 rfl (t := 25) (by kernel_rfl) (n := 24) (by kernel_rfl) hx3 hfl
      have k1 := hS.kcell 3 rfl 2 rfl
      have k2 := hS.kcell 0 rfl 2 rfl
      have k3 := hS.kcell 1 rfl 0 rfl
      have k4 := hS.kcell 1 rfl 1 rfl
      refine mixs_begin (by kernel_rfl) hS ?_
      clear hS
      intro w2 hS
      refine mixs_take 0 (v := ?_) rfl (by kernel_rfl) (fun _ _ _ h => h) (by kernel_rfl) (by assumption) (fun s => ?hy) ?_; case hy => (refine Eq.trans (take_loadrow s rfl rfl kA) ?_; with_reducible rfl)
      try simp only [List.getElem_toArray, List.getElem_cons_succ, List.getElem_cons_zero, Act.put, List.setIfInBounds_toArray, List.set_cons_zero, List.set_cons_succ]
      refine mixs_take 1 (v := ?_) rfl (by kernel_rfl) (fun _ _ _ h => h) (by kernel_rfl) (by assumption) (fun s => ?hy) ?_; case hy => (go_simp <;> with_reducible rfl)
      try simp only [List.getElem_toArray, List.getElem_cons_succ, List.getElem_cons_zero, Act.put, List.setIfInBounds_toArray, List.set_cons_zero, List.set_cons_succ]
      refine mixs_take 2 (v := ?_) rfl (by kernel_rfl) (fun _ _ _ h => h) (by kernel_rfl) (by assumption) (fun s => ?hy) ?_; case hy => (go_simp <;> with_reducible rfl)
      try simp only [List.getElem_toArray, List.getElem_cons_succ, List.getElem_cons_zero, Act.put, List.setIfInBounds_toArray, List.set_cons_zero, List.set_cons_succ]
      refine mixs_take 4 (v := ?_) rfl (by kernel_rfl) (fun _ _ _ h => h) (by kernel_rfl) (by assumption) (fun s => ?hy) ?_; case hy => (go_simp <;> with_reducible rfl)
      try simp only [List.getElem_toArray, List.getElem_cons_succ, List.getElem_cons_zero, Act.put, List.setIfInBounds_toArray, List.set_cons_zero, List.set_cons_succ]
      refine mixs_take 5 (v := ?_) rfl (by kernel_rfl) (fun _ _ _ h => h) (by kernel_rfl) (by assumption) (fun s => ?hy) ?_; case hy => (go_simp <;> with_reducible rfl)
      try simp only [List.getElem_toArray, List.getElem_cons_succ, List.getElem_cons_zero, Act.put, List.setIfInBounds_toArray, List.set_cons_zero, List.set_cons_succ]
      refine mixs_take 7 (v := ?_) rfl (by kernel_rfl) (fun _ _ _ h => h) (by kernel_rfl) (by assumption) (fun s => ?hy) ?_; case hy => (refine Eq.trans (take_loadrow s rfl rfl kA) ?_; with_reducible rfl)
      try simp only [List.getElem_toArray, List.getElem_cons_succ, List.getElem_cons_zero, Act.put, List.setIfInBounds_toArray, List.set_cons_zero, List.set_cons_succ]
      refine mixs_take 8 (v := ?_) rfl (by kernel_rfl) (fun _ _ _ h => h) (by kernel_rfl) (by assumption) (fun s => ?hy) ?_; case hy => (go_simp <;> with_reducible rfl)
      try simp only [List.getElem_toArray, List.getElem_cons_succ, List.getElem_cons_zero, Act.put, List.setIfInBounds_toArray, List.set_cons_zero, List.set_cons_succ]
      refine mixs_take 9 (v := ?_) rfl (by kernel_rfl) (fun _ _ _ h => h) (by kernel_rfl) (by assumption) (fun s => ?hy) ?_; case hy => (go_simp <;> with_reducible rfl)
      try simp only [List.getElem_toArray, List.getElem_cons_succ, List.getElem_cons_zero, Act.put, List.setIfInBounds_toArray, List.set_cons_zero, List.set_cons_succ]
      refine mixs_take 10 (v := ?_) rfl (by kernel_rfl) (fun _ _ _ h => h) (by kernel_rfl) (by assumption) (fun s => ?hy) ?_; case hy => (go_simp <;> with_reducible rfl)
      try simp only [List.getElem_toArray, List.getElem_cons_succ, List.getElem_cons_zero, Act.put, List.setIfInBounds_toArray, List.set_cons_zero, List.set_cons_succ]
      refine mixs_take 11 (v := ?_) rfl (by kernel_rfl) (fun _ _ _ h => h) (by kernel_rfl) (by assumption) (fun s => ?hy) ?_; case hy => (go_simp <;> with_reducible rfl)
      try simp only [List.getElem_toArray, List.getElem_cons_succ, List.getElem_cons_zero, Act.put, List.setIfInBounds_toArray, List.set_cons_zero, List.set_cons_succ]
      refine mixs_one 3 (by kernel_rfl) rfl (fun K hK => ?_)
      go_simp
      ( first | (go_at_call 11; (with_reducible refine (cP1.out _ hS.below).mono ?_); rintro _ w9 ⟨rfl, hk9⟩; have hS1 := hS.keepB hk9; clear hk9 hS; have hS := hS1; clear hS1) | (go_at_call 11; (with_reducible refine (cP2.out _ hS.below).mono ?_); rintro _ w9 ⟨rfl, hk9⟩; have hS1 := hS.keepB hk9; clear hk9 hS; have hS := hS1; clear hS1) | (go_at_call 11; (with_reducible refine (cP3.out _ hS.below).mono ?_); rintro _ w9 ⟨rfl, hk9⟩; have hS1 := hS.keepB hk9; clear hk9 hS; have hS := hS1; clear hS1) | (go_at_call 24; (with_reducible refine (cB.out _).mono ?_); rintro _ _ ⟨rfl, rfl⟩) | (go_at_call 23; (with_reducible refine (cD.out _).mono ?_); rintro _ w9 ⟨rfl, hk9⟩; have hS1 := hS.keepB hk9; clear hk9 hS; have hS := hS1; clear hS1) | (go_at_call 10; (with_reducible refine (cA.out _ hS.below).mono ?_); rintro _ w9 ⟨rfl, hk9⟩; have hS1 := hS.keepB hk9; clear hk9 hS; have hS := hS1; clear hS1) )
      try clear hC
      refine hK.out _ _ _ (fun _ h => h) (by first | exact hS | exact hS.drop | exact hS.drop.drop | exact hS.drop.drop.drop | exact hS.drop.drop.drop.drop | exact hS.empty | exact hS.one 0 rfl | exact hS.one 1 rfl | exact hS.one 2 rfl | exact hS.one 3 rfl | exact hS.one 4 rfl | exact hS.one 5 rfl | exact hS.one 6 rfl | exact hS.one 7 rfl | exact hS.one 8 rfl | exact hS.one 9 rfl | exact hS.one 10 rfl | exact hS.one 11 rfl) (fun hC => ?_)
      clear hK K
      try simp only [List.getElem_toArray, List.getElem_cons_succ, List.getElem_cons_zero, Act.put, List.setIfInBounds_toArray, List.set_cons_zero, List.set_cons_succ]
      refine mixs_one 6 (by kernel_rfl) rfl (fun K hK => ?_)
      go_simp
      ( first | (go_at_call 11; (with_reducible refine (cP1.out _ hS.below).mono ?_); rintro _ w9 ⟨rfl, hk9⟩; have hS1 := hS.keepB hk9; clear hk9 hS; have hS := hS1; clear hS1) | (go_at_call 11; (with_reducible refine (cP2.out _ hS.below).mono ?_); rintro _ w9 ⟨rfl, hk9⟩; have hS1 := hS.keepB hk9; clear hk9 hS; have hS := hS1; clear hS1) | (go_at_call 11; (with_reducible refine (cP3.out _ hS.below).mono ?_); rintro _ w9 ⟨rfl, hk9⟩; have hS1 := hS.keepB hk9; clear hk9 hS; have hS := hS1; clear hS1) | (go_at_call 24; (with_reducible refine (cB.out _).mono ?_); rintro _ _ ⟨rfl, rfl⟩) | (go_at_call 23; (with_reducible refine (cD.out _).mono ?_); rintro _ w9 ⟨rfl, hk9⟩; have hS1 := hS.keepB hk9; clear hk9 hS; have hS := hS1; clear hS1) | (go_at_call 10; (with_reducible refine (cA.out _ hS.below).mono ?_); rintro _ w9 ⟨rfl, hk9⟩; have hS1 := hS.keepB hk9; clear hk9 hS; have hS := hS1; clear hS1) )
      try clear hC
      refine hK.out _ _ _ (fun _ h => h) (by first | exact hS | exact hS.drop | exact hS.drop.drop | exact hS.drop.drop.drop | exact hS.drop.drop.drop.drop | exact hS.empty | exact hS.one 0 rfl | exact hS.one 1 rfl | exact hS.one 2 rfl | exact hS.one 3 rfl | exact hS.one 4 rfl | exact hS.one 5 rfl | exact hS.one 6 rfl | exact hS.one 7 rfl | exact hS.one 8 rfl | exact hS.one 9 rfl | exact hS.one 10 rfl | exact hS.one 11 rfl) (fun hC => ?_)
      clear hK K
      try simp only [List.getElem_toArray, List.getElem_cons_succ, List.getElem_cons_zero, Act.put, List.setIfInBounds_toArray, List.set_cons_zero, List.set_cons_succ]
      refine mixs_one 12 (by kernel_rfl) rfl (fun K hK => ?_)
      go_simp
      ( first | (go_at_call 11; (with_reducible refine (cP1.out _ hS.below).mono ?_); rintro _ w9 ⟨rfl, hk9⟩; have hS1 := hS.keepB hk9; clear hk9 hS; have hS := hS1; clear hS1) | (go_at_call 11; (with_reducible refine (cP2.out _ hS.below).mono ?_); rintro _ w9 ⟨rfl, hk9⟩; have hS1 := hS.keepB hk9; clear hk9 hS; have hS := hS1; clear hS1) | (go_at_call 11; (with_reducible refine (cP3.out _ hS.below).mono ?_); rintro _ w9 ⟨rfl, hk9⟩; have hS1 := hS.keepB hk9; clear hk9 hS; have hS := hS1; clear hS1) | (go_at_call 24; (with_reducible refine (cB.out _).mono ?_); rintro _ _ ⟨rfl, rfl⟩) | (go_at_call 23; (with_reducible refine (cD.out _).mono ?_); rintro _ w9 ⟨rfl, hk9⟩; have hS1 := hS.keepB hk9; clear hk9 hS; have hS := hS1; clear hS1) | (go_at_call 10; (with_reducible refine (cA.out _ hS.below).mono ?_); rintro _ w9 ⟨rfl, hk9⟩; have hS1 := hS.keepB hk9; clear hk9 hS; have hS := hS1; clear hS1) )
      try clear hC
      refine hK.out _ _ _ (fun _ h => h) (by first | exact hS | exact hS.drop | exact hS.drop.drop | exact hS.drop.drop.drop | exact hS.drop.drop.drop.drop | exact hS.empty | exact hS.one 0 rfl | exact hS.one 1 rfl | exact hS.one 2 rfl | exact hS.one 3 rfl | exact hS.one 4 rfl | exact hS.one 5 rfl | exact hS.one 6 rfl | exact hS.one 7 rfl | exact hS.one 8 rfl | exact hS.one 9 rfl | exact hS.one 10 rfl | exact hS.one 11 rfl) (fun hC => ?_)
      clear hK K
      try simp only [List.getElem_toArray, List.getElem_cons_succ, List.getElem_cons_zero, Act.put, List.setIfInBounds_toArray, List.set_cons_zero, List.set_cons_succ]
      refine mixs_one 13 (by kernel_rfl) rfl (fun K hK => ?_)
      go_simp
      ( first | (go_at_call 11; (with_reducible refine (cP1.out _ hS.below).mono ?_); rintro _ w9 ⟨rfl, hk9⟩; have hS1 := hS.keepB hk9; clear hk9 hS; have hS := hS1; clear hS1) | (go_at_call 11; (with_reducible refine (cP2.out _ hS.below).mono ?_); rintro _ w9 ⟨rfl, hk9⟩; have hS1 := hS.keepB hk9; clear hk9 hS; have hS := hS1; clear hS1) | (go_at_call 11; (with_reducible refine (cP3.out _ hS.below).mono ?_); rintro _ w9 ⟨rfl, hk9⟩; have hS1 := hS.keepB hk9; clear hk9 hS; have hS := hS1; clear hS1) | (go_at_call 24; (with_reducible refine (cB.out _).mono ?_); rintro _ _ ⟨rfl, rfl⟩) | (go_at_call 23; (with_reducible refine (cD.out _).mono ?_); rintro _ w9 ⟨rfl, hk9⟩; have hS1 := hS.keepB hk9; clear hk9 hS; have hS := hS1; clear hS1) | (go_at_call 10; (with_reducible refine (cA.out _ hS.below).mono ?_); rintro _ w9 ⟨rfl, hk9⟩; have hS1 := hS.keepB hk9; clear hk9 hS; have hS := hS1; clear hS1) )
      try clear hC
      refine hK.out _ _ _ (fun _ h => h) (by first | exact hS | exact hS.drop | exact hS.drop.drop | exact hS.drop.drop.drop | exact hS.drop.drop.drop.drop | exact hS.empty | exact hS.one 0 rfl | exact hS.one 1 rfl | exact hS.one 2 rfl | exact hS.one 3 rfl | exact hS.one 4 rfl | exact hS.one 5 rfl | exact hS.one 6 rfl | exact hS.one 7 rfl | exact hS.one 8 rfl | exact hS.one 9 rfl | exact hS.one 10 rfl | exact hS.one 11 rfl) (fun hC => ?_)
      clear hK K
      try simp only [List.getElem_toArray, List.getElem_cons_succ, List.getElem_cons_zero, Act.put, List.setIfInBounds_toArray, List.set_cons_zero, List.set_cons_succ]
      refine mixs_take 14 (v := ?_) rfl (by kernel_rfl) (fun _ _ _ h => h) (by kernel_rfl) (by assumption) (fun s => ?hy) ?_; case hy => (go_simp <;> with_reducible rfl)
      try simp only [List.getElem_toArray, List.getElem_cons_succ, List.getElem_cons_zero, Act.put, List.setIfInBounds_toArray, List.set_cons_zero, List.set_cons_succ]
      refine mixs_take 15 (v := ?_) rfl (by kernel_rfl) (fun _ _ _ h => h) (by kernel_rfl) (by assumption) (fun s => ?hy) ?_; case hy => (go_simp <;> with_reducible rfl)
      try simp only [List.getElem_toArray, List.getElem_cons_succ, List.getElem_cons_zero, Act.put, List.setIfInBounds_toArray, List.set_cons_zero, List.set_cons_succ]
      refine mixs_take 16 (v := ?_) rfl (by kernel_rfl) (fun _ _ _ h => h) (by kernel_rfl) (by assumption) (fun s => ?hy) ?_; case hy => (go_simp <;> with_reducible rfl)
      try simp only [List.getElem_toArray, List.getElem_cons_succ, List.getElem_cons_zero, Act.put, List.setIfInBounds_toArray, List.set_cons_zero, List.set_cons_succ]
      refine mixs_take 17 (v := ?_) rfl (by kernel_rfl) (fun _ _ _ h => h) (by kernel_rfl) (by assumption) (fun s => ?hy) ?_; case hy => (refine Eq.trans (take_loadrow s rfl rfl kXf) ?_; with_reducible rfl)
      try simp only [List.getElem_toArray, List.getElem_cons_succ, List.getElem_cons_zero, Act.put, List.setIfInBounds_toArray, List.set_cons_zero, List.set_cons_succ]
      refine mixs_take 18 (v := ?_) rfl (by kernel_rfl) (fun _ _ _ h => h) (by kernel_rfl) (by assumption) (fun s => ?hy) ?_; case hy => (go_simp <;> with_reducible rfl)
      try simp only [List.getElem_toArray, List.getElem_cons_succ, List.getElem_cons_zero, Act.put, List.setIfInBounds_toArray, List.set_cons_zero, List.set_cons_succ]
      refine mixs_take 19 (v := ?_) rfl (by kernel_rfl) (fun _ _ _ h => h) (by kernel_rfl) (by assumption) (fun s => ?hy) ?_; case hy => (refine Eq.trans (take_loadrow s rfl rfl kAf) ?_; with_reducible rfl)
      try simp only [List.getElem_toArray, List.getElem_cons_succ, List.getElem_cons_zero, Act.put, List.setIfInBounds_toArray, List.set_cons_zero, List.set_cons_succ]
      refine mixs_take 20 (v := ?_) rfl (by kernel_rfl) (fun _ _ _ h => h) (by kernel_rfl) (by assumption) (fun s => ?hy) ?_; case hy => (go_simp <;> with_reducible rfl)
      try simp only [List.getElem_toArray, List.getElem_cons_succ, List.getElem_cons_zero, Act.put, List.setIfInBounds_toArray, List.set_cons_zero, List.set_cons_succ]
      refine mixs_take 21 (v := ?_) rfl (by kernel_rfl) (fun _ _ _ h => h) (by kernel_rfl) (by assumption) (fun s => ?hy) ?_; case hy => (go_simp <;> with_reducible rfl)
      try simp only [List.getElem_toArray, List.getElem_cons_succ, List.getElem_cons_zero, Act.put, List.setIfInBounds_toArray, List.set_cons_zero, List.set_cons_succ]
      refine mixs_take 22 (v := ?_) rfl (by kernel_rfl) (fun _ _ _ h => h) (by kernel_rfl) (by assumption) (fun s => ?hy) ?_; case hy => (go_simp <;> with_reducible rfl)
      try simp only [List.getElem_toArray, List.getElem_cons_succ, List.getElem_cons_zero, Act.put, List.setIfInBounds_toArray, List.set_cons_zero, List.set_cons_succ]
      refine mixs_take 23 (v := ?_) rfl (by kernel_rfl) (fun _ _ _ h => h) (by kernel_rfl) (by assumption) (fun s => ?hy) ?_; case hy => (go_simp <;> with_reducible rfl)
      try simp only [List.getElem_toArray, List.getElem_cons_succ, List.getElem_cons_zero, Act.put, List.setIfInBounds_toArray, List.set_cons_zero, List.set_cons_succ]
      refine mixs_take 24 (v := ?_) rfl (by kernel_rfl) (fun _ _ _ h => h) (by kernel_rfl) (by assumption) (fun s => ?hy) ?_; case hy => (go_simp <;> with_reducible rfl)
      try simp only [List.getElem_toArray, List.getElem_cons_succ, List.getElem_cons_zero, Act.put, List.setIfInBounds_toArray, List.set_cons_zero, List.set_cons_succ]
      refine mixs_take 25 (v := ?_) rfl (by kernel_rfl) (fun _ _ _ h => h) (by kernel_rfl) (by assumption) (fun s => ?hy) ?_; case hy => (go_simp <;> with_reducible rfl)
      try simp only [List.getElem_toArray, List.getElem_cons_succ, List.getElem_cons_zero, Act.put, List.setIfInBounds_toArray, List.set_cons_zero, List.set_cons_succ]
      refine mixs_take 26 (v := ?_) rfl (by kernel_rfl) (fun _ _ _ h => h) (by kernel_rfl) (by assumption) (fun s => ?hy) ?_; case hy => (go_simp <;> with_reducible rfl)
      try simp only [List.getElem_toArray, List.getElem_cons_succ, List.getElem_cons_zero, Act.put, List.setIfInBounds_toArray, List.set_cons_zero, List.set_cons_succ]
      refine mixs_take 27 (v := ?_) rfl (by kernel_rfl) (fun _ _ _ h => h) (by kernel_rfl) (by assumption) (fun s => ?hy) ?_; case hy => (go_simp <;> with_reducible rfl)
      try simp only [List.getElem_toArray, List.getElem_cons_succ, List.getElem_cons_zero, Act.put, List.setIfInBounds_toArray, List.set_cons_zero, List.set_cons_succ]
      refine mixs_take 28 (v := ?_) rfl (by kernel_rfl) (fun _ _ _ h => h) (by kernel_rfl) (by assumption) (fun s => ?hy) ?_; case hy => (go_simp <;> with_reducible rfl)
      try simp only [List.getElem_toArray, List.getElem_cons_succ, List.getElem_cons_zero, Act.put, List.setIfInBounds_toArray, List.set_cons_zero, List.set_cons_succ]
      refine mixs_take 29 (v := ?_) rfl (by kernel_rfl) (fun _ _ _ h => h) (by kernel_rfl) (by assumption) (fun s => ?hy) ?_; case hy => (go_simp <;> with_reducible rfl)
      try simp only [List.getElem_toArray, List.getElem_cons_succ, List.getElem_cons_zero, Act.put, List.setIfInBounds_toArray, List.set_cons_zero, List.set_cons_succ]
      refine mixs_take 30 (v := ?_) rfl (by kernel_rfl) (fun _ _ _ h => h) (by kernel_rfl) (by assumption) (fun s => ?hy) ?_; case hy => (refine Eq.trans (take_loadrow s rfl rfl kX) ?_; with_reducible rfl)
      try simp only [List.getElem_toArray, List.getElem_cons_succ, List.getElem_cons_zero, Act.put, List.setIfInBounds_toArray, List.set_cons_zero, List.set_cons_succ]
      refine mixs_take 31 (v := ?_) rfl (by kernel_rfl) (fun _ _ _ h => h) (by kernel_rfl) (by assumption) (fun s => ?hy) ?_; case hy => (refine Eq.trans (take_loadrow s rfl rfl kA) ?_; with_reducible rfl)
      try simp only [List.getElem_toArray, List.getElem_cons_succ, List.getElem_cons_zero, Act.put, List.setIfInBounds_toArray, List.set_cons_zero, List.set_cons_succ]
      refine mixs_one 32 (by kernel_rfl) rfl (fun K hK => ?_)
      go_simp
      ( first | (go_at_call 11; (with_reducible refine (cP1.out _ hS.below).mono ?_); rintro _ w9 ⟨rfl, hk9⟩; have hS1 := hS.keepB hk9; clear hk9 hS; have hS := hS1; clear hS1) | (go_at_call 11; (with_reducible refine (cP2.out _ hS.below).mono ?_); rintro _ w9 ⟨rfl, hk9⟩; have hS1 := hS.keepB hk9; clear hk9 hS; have hS := hS1; clear hS1) | (go_at_call 11; (with_reducible refine (cP3.out _ hS.below).mono ?_); rintro _ w9 ⟨rfl, hk9⟩; have hS1 := hS.keepB hk9; clear hk9 hS; have hS := hS1; clear hS1) | (go_at_call 24; (with_reducible refine (cB.out _).mono ?_); rintro _ _ ⟨rfl, rfl⟩) | (go_at_call 23; (with_reducible refine (cD.out _).mono ?_); rintro _ w9 ⟨rfl, hk9⟩; have hS1 := hS.keepB hk9; clear hk9 hS; have hS := hS1; clear hS1) | (go_at_call 10; (with_reducible refine (cA.out _ hS.below).mono ?_); rintro _ w9 ⟨rfl, hk9⟩; have hS1 := hS.keepB hk9; clear hk9 hS; have hS := hS1; clear hS1) )
      try clear hC
      refine hK.out _ _ _ (fun _ h => h) (by first | exact hS | exact hS.drop | exact hS.drop.drop | exact hS.drop.drop.drop | exact hS.drop.drop.drop.drop | exact hS.empty | exact hS.one 0 rfl | exact hS.one 1 rfl | exact hS.one 2 rfl | exact hS.one 3 rfl | exact hS.one 4 rfl | exact hS.one 5 rfl | exact hS.one 6 rfl | exact hS.one 7 rfl | exact hS.one 8 rfl | exact hS.one 9 rfl | exact hS.one 10 rfl | exact hS.one 11 rfl) (fun hC => ?_)
      clear hK K
      try simp only [List.getElem_toArray, List.getElem_cons_succ, List.getElem_cons_zero, Act.put, List.setIfInBounds_toArray, List.set_cons_zero, List.set_cons_succ]
      refine mixs_take 33 (v := ?_) rfl (by kernel_rfl) (fun _ _ _ h => h) (by kernel_rfl) (by assumption) (fun s => ?hy) ?_; case hy => (go_simp <;> with_reducible rfl)
      try simp only [List.getElem_toArray, List.getElem_cons_succ, List.getElem_cons_zero, Act.put, List.setIfInBounds_toArray, List.set_cons_zero, List.set_cons_succ]
      refine mixs_take 34 (v := ?_) rfl (by kernel_rfl) (fun _ _ _ h => h) (by kernel_rfl) (by assumption) (fun s => ?hy) ?_; case hy => (go_simp <;> with_reducible rfl)
      try simp only [List.getElem_toArray, List.getElem_cons_succ, List.getElem_cons_zero, Act.put, List.setIfInBounds_toArray, List.set_cons_zero, List.set_cons_succ]
      refine mixs_take 35 (v := ?_) rfl (by kernel_rfl) (fun _ _ _ h => h) (by kernel_rfl) (by assumption) (fun s => ?hy) ?_; case hy => (go_simp <;> with_reducible rfl)
      try simp only [List.getElem_toArray, List.getElem_cons_succ, List.getElem_cons_zero, Act.put, List.setIfInBounds_toArray, List.set_cons_zero, List.set_cons_succ]
      refine mixs_one 36 (by kernel_rfl) rfl (fun K hK => ?_)
      go_simp
      ( first | (go_at_call 11; (with_reducible refine (cP1.out _ hS.below).mono ?_); rintro _ w9 ⟨rfl, hk9⟩; have hS1 := hS.keepB hk9; clear hk9 hS; have hS := hS1; clear hS1) | (go_at_call 11; (with_reducible refine (cP2.out _ hS.below).mono ?_); rintro _ w9 ⟨rfl, hk9⟩; have hS1 := hS.keepB hk9; clear hk9 hS; have hS := hS1; clear hS1) | (go_at_call 11; (with_reducible refine (cP3.out _ hS.below).mono ?_); rintro _ w9 ⟨rfl, hk9⟩; have hS1 := hS.keepB hk9; clear hk9 hS; have hS := hS1; clear hS1) | (go_at_call 24; (with_reducible refine (cB.out _).mono ?_); rintro _ _ ⟨rfl, rfl⟩) | (go_at_call 23; (with_reducible refine (cD.out _).mono ?_); rintro _ w9 ⟨rfl, hk9⟩; have hS1 := hS.keepB hk9; clear hk9 hS; have hS := hS1; clear hS1) | (go_at_call 10; (with_reducible refine (cA.out _ hS.below).mono ?_); rintro _ w9 ⟨rfl, hk9⟩; have hS1 := hS.keepB hk9; clear hk9 hS; have hS := hS1; clear hS1) )
      try clear hC
      refine hK.out _ _ _ (fun _ h => h) (by first | exact hS | exact hS.drop | exact hS.drop.drop | exact hS.drop.drop.drop | exact hS.drop.drop.drop.drop | exact hS.empty | exact hS.one 0 rfl | exact hS.one 1 rfl | exact hS.one 2 rfl | exact hS.one 3 rfl | exact hS.one 4 rfl | exact hS.one 5 rfl | exact hS.one 6 rfl | exact hS.one 7 rfl | exact hS.one 8 rfl | exact hS.one 9 rfl | exact hS.one 10 rfl | exact hS.one 11 rfl) (fun hC => ?_)
      clear hK K
      try simp only [List.getElem_toArray, List.getElem_cons_succ, List.getElem_cons_zero, Act.put, List.setIfInBounds_toArray, List.set_cons_zero, List.set_cons_succ]
      refine mixs_take 37 (v := ?_) rfl (by kernel_rfl) (fun _ _ _ h => h) (by kernel_rfl) (by assumption) (fun s => ?hy) ?_; case hy => (go_simp <;> with_reducible rfl)
      try simp only [List.getElem_toArray, List.getElem_cons_succ, List.getElem_cons_zero, Act.put, List.setIfInBounds_toArray, List.set_cons_zero, List.set_cons_succ]
      refine mixs_take 38 (v := ?_) rfl (by kernel_rfl) (fun _ _ _ h => h) (by kernel_rfl) (by assumption) (fun s => ?hy) ?_; case hy => (go_simp <;> with_reducible rfl)
      try simp only [List.getElem_toArray, List.getElem_cons_succ, List.getElem_cons_zero, Act.put, List.setIfInBounds_toArray, List.set_cons_zero, List.set_cons_succ]
      refine wpAnyH_done (by kernel_rfl) ?_ _
      clear kA kX kAf kXf k1 k2 k3 k4
      go_wp2_with fail
      go_ret
      exact ⟨rfl, hS.below⟩
    ·
      refine op_alloc_st (by kernel_rfl) rfl (by assumption) hS ?_
      intro g1 w1 hS1; clear hS; have hS := hS1; clear hS1
      try clear hC
      refine hK.out _ _ _ (fun _ h => h) (by first | exact hS | exact hS.drop | exact hS.drop.drop | exact hS.drop.drop.drop | exact hS.drop.drop.drop.drop | exact hS.empty | exact hS.one 0 rfl | exact hS.one 1 rfl | exact hS.one 2 rfl | exact hS.one 3 rfl | exact hS.one 4 rfl | exact hS.one 5 rfl | exact hS.one 6 rfl | exact hS.one 7 rfl | exact hS.one 8 rfl | exact hS.one 9 rfl | exact hS.one 10 rfl | exact hS.one 11 rfl) (fun hC => ?_)
      clear hK K
      try simp only [List.getElem_toArray, List.getElem_cons_succ, List.getElem_cons_zero, Act.put, List.setIfInBounds_toArray, List.set_cons_zero, List.set_cons_succ]
      refine mixs_one 3 (by kernel_rfl) rfl (fun K hK => ?_)
      go_simp
      ( first | (go_at_call 13; (with_reducible refine (cO.out _ hS.below).mono ?_); rintro _ w9 ⟨rfl, hk9⟩; have hS1 := hS.keepB hk9; clear hk9 hS; have hS := hS1; clear hS1) | (go_at_call 15; (with_reducible refine (cM.out _ hS.below).mono ?_); rintro _ w9 ⟨rfl, hk9⟩; have hS1 := hS.keepB hk9; clear hk9 hS; have hS := hS1; clear hS1) | (with_reducible refine op_alloc_st (by kernel_rfl) rfl ec hS ?_; intro gx w1 hS1; clear hS; have hS := hS1; clear hS1) | ((with_reducible refine op_storerow_st (by kernel_rfl) (n := 27) (vs := Value.int .i64 ib :: .int .i64 xv :: .int .u32 la :: RF) 0 hS rfl rfl rfl (by kernel_rfl) rfl hxcl hxo (by kernel_rfl) ?_); intro w1 hS1; clear hS; have hS := hS1; clear hS1; simp only [List.set_cons_zero, List.take_zero, List.nil_append, List.drop_succ_cons, List.drop_zero, List.drop_nil, List.append_nil] at hS) )
      try clear hC
      refine hK.out _ _ _ (fun _ h => h) (by first | exact hS | exact hS.drop | exact hS.drop.drop | exact hS.drop.drop.drop | exact hS.drop.drop.drop.drop | exact hS.empty | exact hS.one 0 rfl | exact hS.one 1 rfl | exact hS.one 2 rfl | exact hS.one 3 rfl | exact hS.one 4 rfl | exact hS.one 5 rfl | exact hS.one 6 rfl | exact hS.one 7 rfl | exact hS.one 8 rfl | exact hS.one 9 rfl | exact hS.one 10 rfl | exact hS.one 11 rfl) (fun hC => ?_)
      clear hK K
      try simp only [List.getElem_toArray, List.getElem_cons_succ, List.getElem_cons_zero, Act.put, List.setIfInBounds_toArray, List.set_cons_zero, List.set_cons_succ]
      refine mixs_one 5 (by kernel_rfl) rfl (fun K hK => ?_)
      ( first | (go_at_call 13; (with_reducible refine (cO.out _ hS.below).mono ?_); rintro _ w9 ⟨rfl, hk9⟩; have hS1 := hS.keepB hk9; clear hk9 hS; have hS := hS1; clear hS1) | (go_at_call 15; (with_reducible refine (cM.out _ hS.below).mono ?_); rintro _ w9 ⟨rfl, hk9⟩; have hS1 := hS.keepB hk9; clear hk9 hS; have hS := hS1; clear hS1) | (with_reducible refine op_alloc_st (by kernel_rfl) rfl ec hS ?_; intro gx w1 hS1; clear hS; have hS := hS1; clear hS1) | ((with_reducible refine op_storerow_st (by kernel_rfl) (n := 27) (vs := Value.int .i64 ib :: .int .i64 xv :: .int .u32 la :: RF) 0 hS rfl rfl rfl (by kernel_rfl) rfl hxcl hxo (by kernel_rfl) ?_); intro w1 hS1; clear hS; have hS := hS1; clear hS1; simp only [List.set_cons_zero, List.take_zero, List.nil_append, List.drop_succ_cons, List.drop_zero, List.drop_nil, List.append_nil] at hS) )
      try clear hC
      refine hK.out _ _ _ (fun _ h => h) (by first | exact hS | exact hS.drop | exact hS.drop.drop | exact hS.drop.drop.drop | exact hS.drop.drop.drop.drop | exact hS.empty | exact hS.one 0 rfl | exact hS.one 1 rfl | exact hS.one 2 rfl | exact hS.one 3 rfl | exact hS.one 4 rfl | exact hS.one 5 rfl | exact hS.one 6 rfl | exact hS.one 7 rfl | exact hS.one 8 rfl | exact hS.one 9 rfl | exact hS.one 10 rfl | exact hS.one 11 rfl) (fun hC => ?_)
      clear hK K
      try simp only [List.getElem_toArray, List.getElem_cons_succ, List.getElem_cons_zero, Act.put, List.setIfInBounds_toArray, List.set_cons_zero, List.set_cons_succ]
      refine wpAnyH_done (by kernel_rfl) ?_ _
      clear kA kB
      go_wp2_with fail
      have kA := hS.krow (P := Tryd.prog) (j := 0) 3 rfl (t := 27) (by kernel_rfl) (n := 27) (by kernel_rfl) har hacl
      have kX := hS.krow (P := Tryd.prog) (j := 0) 0 rfl (t := 27) (by kernel_rfl) (n := 27) (by kernel_rfl) hxr hxcl
      have kAf := hS.krow (P := Tryd.prog) (j := 3) 3 rfl (t := 25) (by kernel_rfl) (n := 24) (by kernel_rfl) hf3 hfl
      have kXf := hS.krow (P := Tryd.prog) (j := 3) 0 rfl (t := 25) (by kernel_rfl) (n := 24) (by kernel_rfl) hx3 hfl
      have k1 := hS.kcell 3 rfl 2 rfl
      have k2 := hS.kcell 0 rfl 2 rfl
      have k3 := hS.kcell 1 rfl 0 rfl
      have k4 := hS.kcell 1 rfl 1 rfl
      refine mixs_begin (by kernel_rfl) hS ?_
      clear hS
      intro w2 hS
      refine mixs_take 0 (v := ?_) rfl (by kernel_rfl) (fun _ _ _ h => h) (by kernel_rfl) (by assumption) (fun s => ?hy) ?_; case hy => (refine Eq.trans (take_loadrow s rfl rfl kA) ?_; with_reducible rfl)
      try simp only [List.getElem_toArray, List.getElem_cons_succ, List.getElem_cons_zero, Act.put, List.setIfInBounds_toArray, List.set_cons_zero, List.set_cons_succ]
      refine mixs_take 1 (v := ?_) rfl (by kernel_rfl) (fun _ _ _ h => h) (by kernel_rfl) (by assumption) (fun s => ?hy) ?_; case hy => (go_simp <;> with_reducible rfl)
      try simp only [List.getElem_toArray, List.getElem_cons_succ, List.getElem_cons_zero, Act.put, List.setIfInBounds_toArray, List.set_cons_zero, List.set_cons_succ]
      refine mixs_take 2 (v := ?_) rfl (by kernel_rfl) (fun _ _ _ h => h) (by kernel_rfl) (by assumption) (fun s => ?hy) ?_; case hy => (go_simp <;> with_reducible rfl)
      try simp only [List.getElem_toArray, List.getElem_cons_succ, List.getElem_cons_zero, Act.put, List.setIfInBounds_toArray, List.set_cons_zero, List.set_cons_succ]
      refine mixs_take 4 (v := ?_) rfl (by kernel_rfl) (fun _ _ _ h => h) (by kernel_rfl) (by assumption) (fun s => ?hy) ?_; case hy => (go_simp <;> with_reducible rfl)
      try simp only [List.getElem_toArray, List.getElem_cons_succ, List.getElem_cons_zero, Act.put, List.setIfInBounds_toArray, List.set_cons_zero, List.set_cons_succ]
      refine mixs_take 5 (v := ?_) rfl (by kernel_rfl) (fun _ _ _ h => h) (by kernel_rfl) (by assumption) (fun s => ?hy) ?_; case hy => (go_simp <;> with_reducible rfl)
      try simp only [List.getElem_toArray, List.getElem_cons_succ, List.getElem_cons_zero, Act.put, List.setIfInBounds_toArray, List.set_cons_zero, List.set_cons_succ]
      refine mixs_take 7 (v := ?_) rfl (by kernel_rfl) (fun _ _ _ h => h) (by kernel_rfl) (by assumption) (fun s => ?hy) ?_; case hy => (refine Eq.trans (take_loadrow s rfl rfl kA) ?_; with_reducible rfl)
      try simp only [List.getElem_toArray, List.getElem_cons_succ, List.getElem_cons_zero, Act.put, List.setIfInBounds_toArray, List.set_cons_zero, List.set_cons_succ]
      refine mixs_take 8 (v := ?_) rfl (by kernel_rfl) (fun _ _ _ h => h) (by kernel_rfl) (by assumption) (fun s => ?hy) ?_; case hy => (go_simp <;> with_reducible rfl)
      try simp only [List.getElem_toArray, List.getElem_cons_succ, List.getElem_cons_zero, Act.put, List.setIfInBounds_toArray, List.set_cons_zero, List.set_cons_succ]
      refine mixs_take 9 (v := ?_) rfl (by kernel_rfl) (fun _ _ _ h => h) (by kernel_rfl) (by assumption) (fun s => ?hy) ?_; case hy => (go_simp <;> with_reducible rfl)
      try simp only [List.getElem_toArray, List.getElem_cons_succ, List.getElem_cons_zero, Act.put, List.setIfInBounds_toArray, List.set_cons_zero, List.set_cons_succ]
      refine mixs_take 10 (v := ?_) rfl (by kernel_rfl) (fun _ _ _ h => h) (by kernel_rfl) (by assumption) (fun s => ?hy) ?_; case hy => (go_simp <;> with_reducible rfl)
      try simp only [List.getElem_toArray, List.getElem_cons_succ, List.getElem_cons_zero, Act.put, List.setIfInBounds_toArray, List.set_cons_zero, List.set_cons_succ]
      refine mixs_take 11 (v := ?_) rfl (by kernel_rfl) (fun _ _ _ h => h) (by kernel_rfl) (by assumption) (fun s => ?hy) ?_; case hy => (go_simp <;> with_reducible rfl)
      try simp only [List.getElem_toArray, List.getElem_cons_succ, List.getElem_cons_zero, Act.put, List.setIfInBounds_toArray, List.set_cons_zero, List.set_cons_succ]
      refine mixs_one 3 (by kernel_rfl) rfl (fun K hK => ?_)
      go_simp
      ( first | (go_at_call 11; (with_reducible refine (cP1.out _ hS.below).mono ?_); rintro _ w9 ⟨rfl, hk9⟩; have hS1 := hS.keepB hk9; clear hk9 hS; have hS := hS1; clear hS1) | (go_at_call 11; (with_reducible refine (cP2.out _ hS.below).mono ?_); rintro _ w9 ⟨rfl, hk9⟩; have hS1 := hS.keepB hk9; clear hk9 hS; have hS := hS1; clear hS1) | (go_at_call 11; (with_reducible refine (cP3.out _ hS.below).mono ?_); rintro _ w9 ⟨rfl, hk9⟩; have hS1 := hS.keepB hk9; clear hk9 hS; have hS := hS1; clear hS1) | (go_at_call 24; (with_reducible refine (cB.out _).mono ?_); rintro _ _ ⟨rfl, rfl⟩) | (go_at_call 23; (with_reducible refine (cD.out _).mono ?_); rintro _ w9 ⟨rfl, hk9⟩; have hS1 := hS.keepB hk9; clear hk9 hS; have hS := hS1; clear hS1) | (go_at_call 10; (with_reducible refine (cA.out _ hS.below).mono ?_); rintro _ w9 ⟨rfl, hk9⟩; have hS1 := hS.keepB hk9; clear hk9 hS; have hS := hS1; clear hS1) )
      try clear hC
      refine hK.out _ _ _ (fun _ h => h) (by first | exact hS | exact hS.drop | exact hS.drop.drop | exact hS.drop.drop.drop | exact hS.drop.drop.drop.drop | exact hS.empty | exact hS.one 0 rfl | exact hS.one 1 rfl | exact hS.one 2 rfl | exact hS.one 3 rfl | exact hS.one 4 rfl | exact hS.one 5 rfl | exact hS.one 6 rfl | exact hS.one 7 rfl | exact hS.one 8 rfl | exact hS.one 9 rfl | exact hS.one 10 rfl | exact hS.one 11 rfl) (fun hC => ?_)
      clear hK K
      try simp only [List.getElem_toArray, List.getElem_cons_succ, List.getElem_cons_zero, Act.put, List.setIfInBounds_toArray, List.set_cons_zero, List.set_cons_succ]
      refine mixs_one 6 (by kernel_rfl) rfl (fun K hK => ?_)
      go_simp
      ( first | (go_at_call 11; (with_reducible refine (cP1.out _ hS.below).mono ?_); rintro _ w9 ⟨rfl, hk9⟩; have hS1 := hS.keepB hk9; clear hk9 hS; have hS := hS1; clear hS1) | (go_at_call 11; (with_reducible refine (cP2.out _ hS.below).mono ?_); rintro _ w9 ⟨rfl, hk9⟩; have hS1 := hS.keepB hk9; clear hk9 hS; have hS := hS1; clear hS1) | (go_at_call 11; (with_reducible refine (cP3.out _ hS.below).mono ?_); rintro _ w9 ⟨rfl, hk9⟩; have hS1 := hS.keepB hk9; clear hk9 hS; have hS := hS1; clear hS1) | (go_at_call 24; (with_reducible refine (cB.out _).mono ?_); rintro _ _ ⟨rfl, rfl⟩) | (go_at_call 23; (with_reducible refine (cD.out _).mono ?_); rintro _ w9 ⟨rfl, hk9⟩; have hS1 := hS.keepB hk9; clear hk9 hS; have hS := hS1; clear hS1) | (go_at_call 10; (with_reducible refine (cA.out _ hS.below).mono ?_); rintro _ w9 ⟨rfl, hk9⟩; have hS1 := hS.keepB hk9; clear hk9 hS; have hS := hS1; clear hS1) )
      try clear hC
      refine hK.out _ _ _ (fun _ h => h) (by first | exact hS | exact hS.drop | exact hS.drop.drop | exact hS.drop.drop.drop | exact hS.drop.drop.drop.drop | exact hS.empty | exact hS.one 0 rfl | exact hS.one 1 rfl | exact hS.one 2 rfl | exact hS.one 3 rfl | exact hS.one 4 rfl | exact hS.one 5 rfl | exact hS.one 6 rfl | exact hS.one 7 rfl | exact hS.one 8 rfl | exact hS.one 9 rfl | exact hS.one 10 rfl | exact hS.one 11 rfl) (fun hC => ?_)
      clear hK K
      try simp only [List.getElem_toArray, List.getElem_cons_succ, List.getElem_cons_zero, Act.put, List.setIfInBounds_toArray, List.set_cons_zero, List.set_cons_succ]
      refine mixs_one 12 (by kernel_rfl) rfl (fun K hK => ?_)
      go_simp
      ( first | (go_at_call 11; (with_reducible refine (cP1.out _ hS.below).mono ?_); rintro _ w9 ⟨rfl, hk9⟩; have hS1 := hS.keepB hk9; clear hk9 hS; have hS := hS1; clear hS1) | (go_at_call 11; (with_reducible refine (cP2.out _ hS.below).mono ?_); rintro _ w9 ⟨rfl, hk9⟩; have hS1 := hS.keepB hk9; clear hk9 hS; have hS := hS1; clear hS1) | (go_at_call 11; (with_reducible refine (cP3.out _ hS.below).mono ?_); rintro _ w9 ⟨rfl, hk9⟩; have hS1 := hS.keepB hk9; clear hk9 hS; have hS := hS1; clear hS1) | (go_at_call 24; (with_reducible refine (cB.out _).mono ?_); rintro _ _ ⟨rfl, rfl⟩) | (go_at_call 23; (with_reducible refine (cD.out _).mono ?_); rintro _ w9 ⟨rfl, hk9⟩; have hS1 := hS.keepB hk9; clear hk9 hS; have hS := hS1; clear hS1) | (go_at_call 10; (with_reducible refine (cA.out _ hS.below).mono ?_); rintro _ w9 ⟨rfl, hk9⟩; have hS1 := hS.keepB hk9; clear hk9 hS; have hS := hS1; clear hS1) )
      try clear hC
      refine hK.out _ _ _ (fun _ h => h) (by first | exact hS | exact hS.drop | exact hS.drop.drop | exact hS.drop.drop.drop | exact hS.drop.drop.drop.drop | exact hS.empty | exact hS.one 0 rfl | exact hS.one 1 rfl | exact hS.one 2 rfl | exact hS.one 3 rfl | exact hS.one 4 rfl | exact hS.one 5 rfl | exact hS.one 6 rfl | exact hS.one 7 rfl | exact hS.one 8 rfl | exact hS.one 9 rfl | exact hS.one 10 rfl | exact hS.one 11 rfl) (fun hC => ?_)
      clear hK K
      try simp only [List.getElem_toArray, List.getElem_cons_succ, List.getElem_cons_zero, Act.put, List.setIfInBounds_toArray, List.set_cons_zero, List.set_cons_succ]
      refine mixs_one 13 (by kernel_rfl) rfl (fun K hK => ?_)
      go_simp
      ( first | (go_at_call 11; (with_reducible refine (cP1.out _ hS.below).mono ?_); rintro _ w9 ⟨rfl, hk9⟩; have hS1 := hS.keepB hk9; clear hk9 hS; have hS := hS1; clear hS1) | (go_at_call 11; (with_reducible refine (cP2.out _ hS.below).mono ?_); rintro _ w9 ⟨rfl, hk9⟩; have hS1 := hS.keepB hk9; clear hk9 hS; have hS := hS1; clear hS1) | (go_at_call 11; (with_reducible refine (cP3.out _ hS.below).mono ?_); rintro _ w9 ⟨rfl, hk9⟩; have hS1 := hS.keepB hk9; clear hk9 hS; have hS := hS1; clear hS1) | (go_at_call 24; (with_reducible refine (cB.out _).mono ?_); rintro _ _ ⟨rfl, rfl⟩) | (go_at_call 23; (with_reducible refine (cD.out _).mono ?_); rintro _ w9 ⟨rfl, hk9⟩; have hS1 := hS.keepB hk9; clear hk9 hS; have hS := hS1; clear hS1) | (go_at_call 10; (with_reducible refine (cA.out _ hS.below).mono ?_); rintro _ w9 ⟨rfl, hk9⟩; have hS1 := hS.keepB hk9; clear hk9 hS; have hS := hS1; clear hS1) )
      try clear hC
      refine hK.out _ _ _ (fun _ h => h) (by first | exact hS | exact hS.drop | exact hS.drop.drop | exact hS.drop.drop.drop | exact hS.drop.drop.drop.drop | exact hS.empty | exact hS.one 0 rfl | exact hS.one 1 rfl | exact hS.one 2 rfl | exact hS.one 3 rfl | exact hS.one 4 rfl | exact hS.one 5 rfl | exact hS.one 6 rfl | exact hS.one 7 rfl | exact hS.one 8 rfl | exact hS.one 9 rfl | exact hS.one 10 rfl | exact hS.one 11 rfl) (fun hC => ?_)
      clear hK K
      try simp only [List.getElem_toArray, List.getElem_cons_succ, List.getElem_cons_zero, Act.put, List.setIfInBounds_toArray, List.set_cons_zero, List.set_cons_succ]
      refine mixs_take 14 (v := ?_) rfl (by kernel_rfl) (fun _ _ _ h => h) (by kernel_rfl) (by assumption) (fun s => ?hy) ?_; case hy => (go_simp <;> with_reducible rfl)
      try simp only [List.getElem_toArray, List.getElem_cons_succ, List.getElem_cons_zero, Act.put, List.setIfInBounds_toArray, List.set_cons_zero, List.set_cons_succ]
      refine mixs_take 15 (v := ?_) rfl (by kernel_rfl) (fun _ _ _ h => h) (by kernel_rfl) (by assumption) (fun s => ?hy) ?_; case hy => (go_simp <;> with_reducible rfl)
      try simp only [List.getElem_toArray, List.getElem_cons_succ, List.getElem_cons_zero, Act.put, List.setIfInBounds_toArray, List.set_cons_zero, List.set_cons_succ]
      refine mixs_take 16 (v := ?_) rfl (by kernel_rfl) (fun _ _ _ h => h) (by kernel_rfl) (by assumption) (fun s => ?hy) ?_; case hy => (go_simp <;> with_reducible rfl)
      try simp only [List.getElem_toArray, List.getElem_cons_succ, List.getElem_cons_zero, Act.put, List.setIfInBounds_toArray, List.set_cons_zero, List.set_cons_succ]
      refine mixs_take 17 (v := ?_) rfl (by kernel_rfl) (fun _ _ _ h => h) (by kernel_rfl) (by assumption) (fun s => ?hy) ?_; case hy => (refine Eq.trans (take_loadrow s rfl rfl kXf) ?_; with_reducible rfl)
      try simp only [List.getElem_toArray, List.getElem_cons_succ, List.getElem_cons_zero, Act.put, List.setIfInBounds_toArray, List.set_cons_zero, List.set_cons_succ]
      refine mixs_take 18 (v := ?_) rfl (by kernel_rfl) (fun _ _ _ h => h) (by kernel_rfl) (by assumption) (fun s => ?hy) ?_; case hy => (go_simp <;> with_reducible rfl)
      try simp only [List.getElem_toArray, List.getElem_cons_succ, List.getElem_cons_zero, Act.put, List.setIfInBounds_toArray, List.set_cons_zero, List.set_cons_succ]
      refine mixs_take 19 (v := ?_) rfl (by kernel_rfl) (fun _ _ _ h => h) (by kernel_rfl) (by assumption) (fun s => ?hy) ?_; case hy => (refine Eq.trans (take_loadrow s rfl rfl kAf) ?_; with_reducible rfl)
      try simp only [List.getElem_toArray, List.getElem_cons_succ, List.getElem_cons_zero, Act.put, List.setIfInBounds_toArray, List.set_cons_zero, List.set_cons_succ]
      refine mixs_take 20 (v := ?_) rfl (by kernel_rfl) (fun _ _ _ h => h) (by kernel_rfl) (by assumption) (fun s => ?hy) ?_; case hy => (go_simp <;> with_reducible rfl)
      try simp only [List.getElem_toArray, List.getElem_cons_succ, List.getElem_cons_zero, Act.put, List.setIfInBounds_toArray, List.set_cons_zero, List.set_cons_succ]
      refine mixs_take 21 (v := ?_) rfl (by kernel_rfl) (fun _ _ _ h => h) (by kernel_rfl) (by assumption) (fun s => ?hy) ?_; case hy => (go_simp <;> with_reducible rfl)
      try simp only [List.getElem_toArray, List.getElem_cons_succ, List.getElem_cons_zero, Act.put, List.setIfInBounds_toArray, List.set_cons_zero, List.set_cons_succ]
      refine mixs_take 22 (v := ?_) rfl (by kernel_rfl) (fun _ _ _ h => h) (by kernel_rfl) (by assumption) (fun s => ?hy) ?_; case hy => (go_simp <;> with_reducible rfl)
      try simp only [List.getElem_toArray, List.getElem_cons_succ, List.getElem_cons_zero, Act.put, List.setIfInBounds_toArray, List.set_cons_zero, List.set_cons_succ]
      refine mixs_take 23 (v := ?_) rfl (by kernel_rfl) (fun _ _ _ h => h) (by kernel_rfl) (by assumption) (fun s => ?hy) ?_; case hy => (go_simp <;> with_reducible rfl)
      try simp only [List.getElem_toArray, List.getElem_cons_succ, List.getElem_cons_zero, Act.put, List.setIfInBounds_toArray, List.set_cons_zero, List.set_cons_succ]
      refine mixs_take 24 (v := ?_) rfl (by kernel_rfl) (fun _ _ _ h => h) (by kernel_rfl) (by assumption) (fun s => ?hy) ?_; case hy => (go_simp <;> with_reducible rfl)
      try simp only [List.getElem_toArray, List.getElem_cons_succ, List.getElem_cons_zero, Act.put, List.setIfInBounds_toArray, List.set_cons_zero, List.set_cons_succ]
      refine mixs_take 25 (v := ?_) rfl (by kernel_rfl) (fun _ _ _ h => h) (by kernel_rfl) (by assumption) (fun s => ?hy) ?_; case hy => (go_simp <;> with_reducible rfl)
      try simp only [List.getElem_toArray, List.getElem_cons_succ, List.getElem_cons_zero, Act.put, List.setIfInBounds_toArray, List.set_cons_zero, List.set_cons_succ]
      refine mixs_take 26 (v := ?_) rfl (by kernel_rfl) (fun _ _ _ h => h) (by kernel_rfl) (by assumption) (fun s => ?hy) ?_; case hy => (go_simp <;> with_reducible rfl)
      try simp only [List.getElem_toArray, List.getElem_cons_succ, List.getElem_cons_zero, Act.put, List.setIfInBounds_toArray, List.set_cons_zero, List.set_cons_succ]
      refine mixs_take 27 (v := ?_) rfl (by kernel_rfl) (fun _ _ _ h => h) (by kernel_rfl) (by assumption) (fun s => ?hy) ?_; case hy => (go_simp <;> with_reducible rfl)
      try simp only [List.getElem_toArray, List.getElem_cons_succ, List.getElem_cons_zero, Act.put, List.setIfInBounds_toArray, List.set_cons_zero, List.set_cons_succ]
      refine mixs_take 28 (v := ?_) rfl (by kernel_rfl) (fun _ _ _ h => h) (by kernel_rfl) (by assumption) (fun s => ?hy) ?_; case hy => (go_simp <;> with_reducible rfl)
      try simp only [List.getElem_toArray, List.getElem_cons_succ, List.getElem_cons_zero, Act.put, List.setIfInBounds_toArray, List.set_cons_zero, List.set_cons_succ]
      refine mixs_take 29 (v := ?_) rfl (by kernel_rfl) (fun _ _ _ h => h) (by kernel_rfl) (by assumption) (fun s => ?hy) ?_; case hy => (go_simp <;> with_reducible rfl)
      try simp only [List.getElem_toArray, List.getElem_cons_succ, List.getElem_cons_zero, Act.put, List.setIfInBounds_toArray, List.set_cons_zero, List.set_cons_succ]
      refine mixs_take 30 (v := ?_) rfl (by kernel_rfl) (fun _ _ _ h => h) (by kernel_rfl) (by assumption) (fun s => ?hy) ?_; case hy => (refine Eq.trans (take_loadrow s rfl rfl kX) ?_; with_reducible rfl)
      try simp only [List.getElem_toArray, List.getElem_cons_succ, List.getElem_cons_zero, Act.put, List.setIfInBounds_toArray, List.set_cons_zero, List.set_cons_succ]
      refine mixs_take 31 (v := ?_) rfl (by kernel_rfl) (fun _ _ _ h => h) (by kernel_rfl) (by assumption) (fun s => ?hy) ?_; case hy => (refine Eq.trans (take_loadrow s rfl rfl kA) ?_; with_reducible rfl)
      try simp only [List.getElem_toArray, List.getElem_cons_succ, List.getElem_cons_zero, Act.put, List.setIfInBounds_toArray, List.set_cons_zero, List.set_cons_succ]
      refine mixs_one 32 (by kernel_rfl) rfl (fun K hK => ?_)
      go_simp
      ( first | (go_at_call 11; (with_reducible refine (cP1.out _ hS.below).mono ?_); rintro _ w9 ⟨rfl, hk9⟩; have hS1 := hS.keepB hk9; clear hk9 hS; have hS := hS1; clear hS1) | (go_at_call 11; (with_reducible refine (cP2.out _ hS.below).mono ?_); rintro _ w9 ⟨rfl, hk9⟩; have hS1 := hS.keepB hk9; clear hk9 hS; have hS := hS1; clear hS1) | (go_at_call 11; (with_reducible refine (cP3.out _ hS.below).mono ?_); rintro _ w9 ⟨rfl, hk9⟩; have hS1 := hS.keepB hk9; clear hk9 hS; have hS := hS1; clear hS1) | (go_at_call 24; (with_reducible refine (cB.out _).mono ?_); rintro _ _ ⟨rfl, rfl⟩) | (go_at_call 23; (with_reducible refine (cD.out _).mono ?_); rintro _ w9 ⟨rfl, hk9⟩; have hS1 := hS.keepB hk9; clear hk9 hS; have hS := hS1; clear hS1) | (go_at_call 10; (with_reducible refine (cA.out _ hS.below).mono ?_); rintro _ w9 ⟨rfl, hk9⟩; have hS1 := hS.keepB hk9; clear hk9 hS; have hS := hS1; clear hS1) )
      try clear hC
      refine hK.out _ _ _ (fun _ h => h) (by first | exact hS | exact hS.drop | exact hS.drop.drop | exact hS.drop.drop.drop | exact hS.drop.drop.drop.drop | exact hS.empty | exact hS.one 0 rfl | exact hS.one 1 rfl | exact hS.one 2 rfl | exact hS.one 3 rfl | exact hS.one 4 rfl | exact hS.one 5 rfl | exact hS.one 6 rfl | exact hS.one 7 rfl | exact hS.one 8 rfl | exact hS.one 9 rfl | exact hS.one 10 rfl | exact hS.one 11 rfl) (fun hC => ?_)
      clear hK K
      try simp only [List.getElem_toArray, List.getElem_cons_succ, List.getElem_cons_zero, Act.put, List.setIfInBounds_toArray, List.set_cons_zero, List.set_cons_succ]
      refine mixs_take 33 (v := ?_) rfl (by kernel_rfl) (fun _ _ _ h => h) (by kernel_rfl) (by assumption) (fun s => ?hy) ?_; case hy => (go_simp <;> with_reducible rfl)
      try simp only [List.getElem_toArray, List.getElem_cons_succ, List.getElem_cons_zero, Act.put, List.setIfInBounds_toArray, List.set_cons_zero, List.set_cons_succ]
      refine mixs_take 34 (v := ?_) rfl (by kernel_rfl) (fun _ _ _ h => h) (by kernel_rfl) (by assumption) (fun s => ?hy) ?_; case hy => (go_simp <;> with_reducible rfl)
      try simp only [List.getElem_toArray, List.getElem_cons_succ, List.getElem_cons_zero, Act.put, List.setIfInBounds_toArray, List.set_cons_zero, List.set_cons_succ]
      refine mixs_take 35 (v := ?_) rfl (by kernel_rfl) (fun _ _ _ h => h) (by kernel_rfl) (by assumption) (fun s => ?hy) ?_; case hy => (go_simp <;> with_reducible rfl)
      try simp only [List.getElem_toArray, List.getElem_cons_succ, List.getElem_cons_zero, Act.put, List.setIfInBounds_toArray, List.set_cons_zero, List.set_cons_succ]
      refine mixs_one 36 (by kernel_rfl) rfl (fun K hK => ?_)
      go_simp
      ( first | (go_at_call 11; (with_reducible refine (cP1.out _ hS.below).mono ?_); rintro _ w9 ⟨rfl, hk9⟩; have hS1 := hS.keepB hk9; clear hk9 hS; have hS := hS1; clear hS1) | (go_at_call 11; (with_reducible refine (cP2.out _ hS.below).mono ?_); rintro _ w9 ⟨rfl, hk9⟩; have hS1 := hS.keepB hk9; clear hk9 hS; have hS := hS1; clear hS1) | (go_at_call 11; (with_reducible refine (cP3.out _ hS.below).mono ?_); rintro _ w9 ⟨rfl, hk9⟩; have hS1 := hS.keepB hk9; clear hk9 hS; have hS := hS1; clear hS1) | (go_at_call 24; (with_reducible refine (cB.out _).mono ?_); rintro _ _ ⟨rfl, rfl⟩) | (go_at_call 23; (with_reducible refine (cD.out _).mono ?_); rintro _ w9 ⟨rfl, hk9⟩; have hS1 := hS.keepB hk9; clear hk9 hS; have hS := hS1; clear hS1) | (go_at_call 10; (with_reducible refine (cA.out _ hS.below).mono ?_); rintro _ w9 ⟨rfl, hk9⟩; have hS1 := hS.keepB hk9; clear hk9 hS; have hS := hS1; clear hS1) )
      try clear hC
      refine hK.out _ _ _ (fun _ h => h) (by first | exact hS | exact hS.drop | exact hS.drop.drop | exact hS.drop.drop.drop | exact hS.drop.drop.drop.drop | exact hS.empty | exact hS.one 0 rfl | exact hS.one 1 rfl | exact hS.one 2 rfl | exact hS.one 3 rfl | exact hS.one 4 rfl | exact hS.one 5 rfl | exact hS.one 6 rfl | exact hS.one 7 rfl | exact hS.one 8 rfl | exact hS.one 9 rfl | exact hS.one 10 rfl | exact hS.one 11 rfl) (fun hC => ?_)
      clear hK K
      try simp only [List.getElem_toArray, List.getElem_cons_succ, List.getElem_cons_zero, Act.put, List.setIfInBounds_toArray, List.set_cons_zero, List.set_cons_succ]
      refine mixs_take 37 (v := ?_) rfl (by kernel_rfl) (fun _ _ _ h => h) (by kernel_rfl) (by assumption) (fun s => ?hy) ?_; case hy => (go_simp <;> with_reducible rfl)
      try simp only [List.getElem_toArray, List.getElem_cons_succ, List.getElem_cons_zero, Act.put, List.setIfInBounds_toArray, List.set_cons_zero, List.set_cons_succ]
      refine mixs_take 38 (v := ?_) rfl (by kernel_rfl) (fun _ _ _ h => h) (by kernel_rfl) (by assumption) (fun s => ?hy) ?_; case hy => (go_simp <;> with_reducible rfl)
      try simp only [List.getElem_toArray, List.getElem_cons_succ, List.getElem_cons_zero, Act.put, List.setIfInBounds_toArray, List.set_cons_zero, List.set_cons_succ]
      refine wpAnyH_done (by kernel_rfl) ?_ _
      clear kA kX kAf kXf k1 k2 k3 k4
      go_wp2_with fail
      go_ret
      exact ⟨rfl, hS.below⟩
  ·
    refine op_alloc_st (by kernel_rfl) rfl (by assumption) hS ?_
    intro g1 w1 hS1; clear hS; have hS := hS1; clear hS1
    try clear hC
    refine hK.out _ _ _ (fun _ h => h) (by first | exact hS | exact hS.drop | exact hS.drop.drop | exact hS.drop.drop.drop | exact hS.drop.drop.drop.drop | exact hS.empty | exact hS.one 0 rfl | exact hS.one 1 rfl | exact hS.one 2 rfl | exact hS.one 3 rfl | exact hS.one 4 rfl | exact hS.one 5 rfl | exact hS.one 6 rfl | exact hS.one 7 rfl | exact hS.one 8 rfl | exact hS.one 9 rfl | exact hS.one 10 rfl | exact hS.one 11 rfl) (fun hC => ?_)
    clear hK K
    try simp only [List.getElem_toArray, List.getElem_cons_succ, List.getElem_cons_zero, Act.put, List.setIfInBounds_toArray, List.set_cons_zero, List.set_cons_succ]
    refine mixs_one 2 (by kernel_rfl) rfl (fun K hK => ?_)
    go_simp
    ( first | (go_at_call 13; (with_reducible refine (cO.out _ hS.below).mono ?_); rintro _ w9 ⟨rfl, hk9⟩; have hS1 := hS.keepB hk9; clear hk9 hS; have hS := hS1; clear hS1) | (go_at_call 15; (with_reducible refine (cM.out _ hS.below).mono ?_); rintro _ w9 ⟨rfl, hk9⟩; have hS1 := hS.keepB hk9; clear hk9 hS; have hS := hS1; clear hS1) | (with_reducible refine op_alloc_st (by kernel_rfl) rfl ec hS ?_; intro gx w1 hS1; clear hS; have hS := hS1; clear hS1) | ((with_reducible refine op_storerow_st (by kernel_rfl) (n := 27) (vs := Value.int .i64 ib :: .int .i64 xv :: .int .u32 la :: RF) 0 hS rfl rfl rfl (by kernel_rfl) rfl hxcl hxo (by kernel_rfl) ?_); intro w1 hS1; clear hS; have hS := hS1; clear hS1; simp only [List.set_cons_zero, List.take_zero, List.nil_append, List.drop_succ_cons, List.drop_zero, List.drop_nil, List.append_nil] at hS) )
    try clear hC
    refine hK.out _ _ _ (fun _ h => h) (by first | exact hS | exact hS.drop | exact hS.drop.drop | exact hS.drop.drop.drop | exact hS.drop.drop.drop.drop | exact hS.empty | exact hS.one 0 rfl | exact hS.one 1 rfl | exact hS.one 2 rfl | exact hS.one 3 rfl | exact hS.one 4 rfl | exact hS.one 5 rfl | exact hS.one 6 rfl | exact hS.one 7 rfl | exact hS.one 8 rfl | exact hS.one 9 rfl | exact hS.one 10 rfl | exact hS.one 11 rfl) (fun hC => ?_)
    clear hK K
    try simp only [List.getElem_toArray, List.getElem_cons_succ, List.getElem_cons_zero, Act.put, List.setIfInBounds_toArray, List.set_cons_zero, List.set_cons_succ]
    refine mixs_one 3 (by kernel_rfl) rfl (fun K hK => ?_)
    go_simp
    ( first | (go_at_call 13; (with_reducible refine (cO.out _ hS.below).mono ?_); rintro _ w9 ⟨rfl, hk9⟩; have hS1 := hS.keepB hk9; clear hk9 hS; have hS := hS1; clear hS1) | (go_at_call 15; (with_reducible refine (cM.out _ hS.below).mono ?_); rintro _ w9 ⟨rfl, hk9⟩; have hS1 := hS.keepB hk9; clear hk9 hS; have hS := hS1; clear hS1) | (with_reducible refine op_alloc_st (by kernel_rfl) rfl ec hS ?_; intro gx w1 hS1; clear hS; have hS := hS1; clear hS1) | ((with_reducible refine op_storerow_st (by kernel_rfl) (n := 27) (vs := Value.int .i64 ib :: .int .i64 xv :: .int .u32 la :: RF) 0 hS rfl rfl rfl (by kernel_rfl) rfl hxcl hxo (by kernel_rfl) ?_); intro w1 hS1; clear hS; have hS := hS1; clear hS1; simp only [List.set_cons_zero, List.take_zero, List.nil_append, List.drop_succ_cons, List.drop_zero, List.drop_nil, List.append_nil] at hS) )
    try clear hC
    refine hK.out _ _ _ (fun _ h => h) (by first | exact hS | exact hS.drop | exact hS.drop.drop | exact hS.drop.drop.drop | exact hS.drop.drop.drop.drop | exact hS.empty | exact hS.one 0 rfl | exact hS.one 1 rfl | exact hS.one 2 rfl | exact hS.one 3 rfl | exact hS.one 4 rfl | exact hS.one 5 rfl | exact hS.one 6 rfl | exact hS.one 7 rfl | exact hS.one 8 rfl | exact hS.one 9 rfl | exact hS.one 10 rfl | exact hS.one 11 rfl) (fun hC => ?_)
    clear hK K
    try simp only [List.getElem_toArray, List.getElem_cons_succ, List.getElem_cons_zero, Act.put, List.setIfInBounds_toArray, List.set_cons_zero, List.set_cons_succ]
    refine mixs_one 5 (by kernel_rfl) rfl (fun K hK => ?_)
    ( first | (go_at_call 13; (with_reducible refine (cO.out _ hS.below).mono ?_); rintro _ w9 ⟨rfl, hk9⟩; have hS1 := hS.keepB hk9; clear hk9 hS; have hS := hS1; clear hS1) | (go_at_call 15; (with_reducible refine (cM.out _ hS.below).mono ?_); rintro _ w9 ⟨rfl, hk9⟩; have hS1 := hS.keepB hk9; clear hk9 hS; have hS := hS1; clear hS1) | (with_reducible refine op_alloc_st (by kernel_rfl) rfl ec hS ?_; intro gx w1 hS1; clear hS; have hS := hS1; clear hS1) | ((with_reducible refine op_storerow_st (by kernel_rfl) (n := 27) (vs := Value.int .i64 ib :: .int .i64 xv :: .int .u32 la :: RF) 0 hS rfl rfl rfl (by kernel_rfl) rfl hxcl hxo (by kernel_rfl) ?_); intro w1 hS1; clear hS; have hS := hS1; clear hS1; simp only [List.set_cons_zero, List.take_zero, List.nil_append, List.drop_succ_cons, List.drop_zero, List.drop_nil, List.append_nil] at hS) )
    try clear hC
    refine hK.out _ _ _ (fun _ h => h) (by first | exact hS | exact hS.drop | exact hS.drop.drop | exact hS.drop.drop.drop | exact hS.drop.drop.drop.drop | exact hS.empty | exact hS.one 0 rfl | exact hS.one 1 rfl | exact hS.one 2 rfl | exact hS.one 3 rfl | exact hS.one 4 rfl | exact hS.one 5 rfl | exact hS.one 6 rfl | exact hS.one 7 rfl | exact hS.one 8 rfl | exact hS.one 9 rfl | exact hS.one 10 rfl | exact hS.one 11 rfl) (fun hC => ?_)
    clear hK K
    try simp only [List.getElem_toArray, List.getElem_cons_succ, List.getElem_cons_zero, Act.put, List.setIfInBounds_toArray, List.set_cons_zero, List.set_cons_succ]
    refine wpAnyH_done (by kernel_rfl) ?_ _
    clear kA kB
    go_wp2_with fail
    have kA := hS.krow (P := Tryd.prog) (j := 0) 3 rfl (t := 27) (by kernel_rfl) (n := 27) (by kernel_rfl) har hacl
    have kX := hS.krow (P := Tryd.prog) (j := 0) 0 rfl (t := 27) (by kernel_rfl) (n := 27) (by kernel_rfl) hxr hxcl
    have kAf := hS.krow (P := Tryd.prog) (j := 3) 3 rfl (t := 25) (by kernel_rfl) (n := 24) (by kernel_rfl) hf3 hfl
    have kXf := hS.krow (P := Tryd.prog) (j := 3) 0 rfl (t := 25) (by kernel_rfl) (n := 24) (by kernel_rfl) hx3 hfl
    have k1 := hS.kcell 3 rfl 2 rfl
    have k2 := hS.kcell 0 rfl 2 rfl
    have k3 := hS.kcell 1 rfl 0 rfl
    have k4 := hS.kcell 1 rfl 1 rfl
    refine mixs_begin (by kernel_rfl) hS ?_
    clear hS
    intro w2 hS
    refine mixs_take 0 (v := ?_) rfl (by kernel_rfl) (fun _ _ _ h => h) (by kernel_rfl) (by assumption) (fun s => ?hy) ?_; case hy => (refine Eq.trans (take_loadrow s rfl rfl kA) ?_; with_reducible rfl)
    try simp only [List.getElem_toArray, List.getElem_cons_succ, List.getElem_cons_zero, Act.put, List.setIfInBounds_toArray, List.set_cons_zero, List.set_cons_succ]
    refine mixs_take 1 (v := ?_) rfl (by kernel_rfl) (fun _ _ _ h => h) (by kernel_rfl) (by assumption) (fun s => ?hy) ?_; case hy => (go_simp <;> with_reducible rfl)
    try simp only [List.getElem_toArray, List.getElem_cons_succ, List.getElem_cons_zero, Act.put, List.setIfInBounds_toArray, List.set_cons_zero, List.set_cons_succ]
    refine mixs_take 2 (v := ?_) rfl (by kernel_rfl) (fun _ _ _ h => h) (by kernel_rfl) (by assumption) (fun s => ?hy) ?_; case hy => (go_simp <;> with_reducible rfl)
    try simp only [List.getElem_toArray, List.getElem_cons_succ, List.getElem_cons_zero, Act.put, List.setIfInBounds_toArray, List.set_cons_zero, List.set_cons_succ]
    refine mixs_take 4 (v := ?_) rfl (by kernel_rfl) (fun _ _ _ h => h) (by kernel_rfl) (by assumption) (fun s => ?hy) ?_; case hy => (go_simp <;> with_reducible rfl)
    try simp only [List.getElem_toArray, List.getElem_cons_succ, List.getElem_cons_zero, Act.put, List.setIfInBounds_toArray, List.set_cons_zero, List.set_cons_succ]
    refine mixs_take 5 (v := ?_) rfl (by kernel_rfl) (fun _ _ _ h => h) (by kernel_rfl) (by assumption) (fun s => ?hy) ?_; case hy => (go_simp <;> with_reducible rfl)
    try simp only [List.getElem_toArray, List.getElem_cons_succ, List.getElem_cons_zero, Act.put, List.setIfInBounds_toArray, List.set_cons_zero, List.set_cons_succ]
    refine mixs_take 7 (v := ?_) rfl (by kernel_rfl) (fun _ _ _ h => h) (by kernel_rfl) (by assumption) (fun s => ?hy) ?_; case hy => (refine Eq.trans (take_loadrow s rfl rfl kA) ?_; with_reducible rfl)
    try simp only [List.getElem_toArray, List.getElem_cons_succ, List.getElem_cons_zero, Act.put, List.setIfInBounds_toArray, List.set_cons_zero, List.set_cons_succ]
    refine mixs_take 8 (v := ?_) rfl (by kernel_rfl) (fun _ _ _ h => h) (by kernel_rfl) (by assumption) (fun s => ?hy) ?_; case hy => (go_simp <;> with_reducible rfl)
    try simp only [List.getElem_toArray, List.getElem_cons_succ, List.getElem_cons_zero, Act.put, List.setIfInBounds_toArray, List.set_cons_zero, List.set_cons_succ]
    refine mixs_take 9 (v := ?_) rfl (by kernel_rfl) (fun _ _ _ h => h) (by kernel_rfl) (by assumption) (fun s => ?hy) ?_; case hy => (go_simp <;> with_reducible rfl)
    try simp only [List.getElem_toArray, List.getElem_cons_succ, List.getElem_cons_zero, Act.put, List.setIfInBounds_toArray, List.set_cons_zero, List.set_cons_succ]
    refine mixs_take 10 (v := ?_) rfl (by kernel_rfl) (fun _ _ _ h => h) (by kernel_rfl) (by assumption) (fun s => ?hy) ?_; case hy => (go_simp <;> with_reducible rfl)
    try simp only [List.getElem_toArray, List.getElem_cons_succ, List.getElem_cons_zero, Act.put, List.setIfInBounds_toArray, List.set_cons_zero, List.set_cons_succ]
    refine mixs_take 11 (v := ?_) rfl (by kernel_rfl) (fun _ _ _ h => h) (by kernel_rfl) (by assumption) (fun s => ?hy) ?_; case hy => (go_simp <;> with_reducible rfl)
    try simp only [List.getElem_toArray, List.getElem_cons_succ, List.getElem_cons_zero, Act.put, List.setIfInBounds_toArray, List.set_cons_zero, List.set_cons_succ]
    refine mixs_one 3 (by kernel_rfl) rfl (fun K hK => ?_)
    go_simp
    ( first | (go_at_call 11; (with_reducible refine (cP1.out _ hS.below).mono ?_); rintro _ w9 ⟨rfl, hk9⟩; have hS1 := hS.keepB hk9; clear hk9 hS; have hS := hS1; clear hS1) | (go_at_call 11; (with_reducible refine (cP2.out _ hS.below).mono ?_); rintro _ w9 ⟨rfl, hk9⟩; have hS1 := hS.keepB hk9; clear hk9 hS; have hS := hS1; clear hS1) | (go_at_call 11; (with_reducible refine (cP3.out _ hS.below).mono ?_); rintro _ w9 ⟨rfl, hk9⟩; have hS1 := hS.keepB hk9; clear hk9 hS; have hS := hS1; clear hS1) | (go_at_call 24; (with_reducible refine (cB.out _).mono ?_); rintro _ _ ⟨rfl, rfl⟩) | (go_at_call 23; (with_reducible refine (cD.out _).mono ?_); rintro _ w9 ⟨rfl, hk9⟩; have hS1 := hS.keepB hk9; clear hk9 hS; have hS := hS1; clear hS1) | (go_at_call 10; (with_reducible refine (cA.out _ hS.below).mono ?_); rintro _ w9 ⟨rfl, hk9⟩; have hS1 := hS.keepB hk9; clear hk9 hS; have hS := hS1; clear hS1) )
    try clear hC
    refine hK.out _ _ _ (fun _ h => h) (by first | exact hS | exact hS.drop | exact hS.drop.drop | exact hS.drop.drop.drop | exact hS.drop.drop.drop.drop | exact hS.empty | exact hS.one 0 rfl | exact hS.one 1 rfl | exact hS.one 2 rfl | exact hS.one 3 rfl | exact hS.one 4 rfl | exact hS.one 5 rfl | exact hS.one 6 rfl | exact hS.one 7 rfl | exact hS.one 8 rfl | exact hS.one 9 rfl | exact hS.one 10 rfl | exact hS.one 11 rfl) (fun hC => ?_)
    clear hK K
    try simp only [List.getElem_toArray, List.getElem_cons_succ, List.getElem_cons_zero, Act.put, List.setIfInBounds_toArray, List.set_cons_zero, List.set_cons_succ]
    refine mixs_one 6 (by kernel_rfl) rfl (fun K hK => ?_)
    go_simp
    ( first | (go_at_call 11; (with_reducible refine (cP1.out _ hS.below).mono ?_); rintro _ w9 ⟨rfl, hk9⟩; have hS1 := hS.keepB hk9; clear hk9 hS; have hS := hS1; clear hS1) | (go_at_call 11; (with_reducible refine (cP2.out _ hS.below).mono ?_); rintro _ w9 ⟨rfl, hk9⟩; have hS1 := hS.keepB hk9; clear hk9 hS; have hS := hS1; clear hS1) | (go_at_call 11; (with_reducible refine (cP3.out _ hS.below).mono ?_); rintro _ w9 ⟨rfl, hk9⟩; have hS1 := hS.keepB hk9; clear hk9 hS; have hS := hS1; clear hS1) | (go_at_call 24; (with_reducible refine (cB.out _).mono ?_); rintro _ _ ⟨rfl, rfl⟩) | (go_at_call 23; (with_reducible refine (cD.out _).mono ?_); rintro _ w9 ⟨rfl, hk9⟩; have hS1 := hS.keepB hk9; clear hk9 hS; have hS := hS1; clear hS1) | (go_at_call 10; (with_reducible refine (cA.out _ hS.below).mono ?_); rintro _ w9 ⟨rfl, hk9⟩; have hS1 := hS.keepB hk9; clear hk9 hS; have hS := hS1; clear hS1) )
    try clear hC
    refine hK.out _ _ _ (fun _ h => h) (by first | exact hS | exact hS.drop | exact hS.drop.drop | exact hS.drop.drop.drop | exact hS.drop.drop.drop.drop | exact hS.empty | exact hS.one 0 rfl | exact hS.one 1 rfl | exact hS.one 2 rfl | exact hS.one 3 rfl | exact hS.one 4 rfl | exact hS.one 5 rfl | exact hS.one 6 rfl | exact hS.one 7 rfl | exact hS.one 8 rfl | exact hS.one 9 rfl | exact hS.one 10 rfl | exact hS.one 11 rfl) (fun hC => ?_)
    clear hK K
    try simp only [List.getElem_toArray, List.getElem_cons_succ, List.getElem_cons_zero, Act.put, List.setIfInBounds_toArray, List.set_cons_zero, List.set_cons_succ]
    refine mixs_one 12 (by kernel_rfl) rfl (fun K hK => ?_)
    go_simp
    ( first | (go_at_call 11; (with_reducible refine (cP1.out _ hS.below).mono ?_); rintro _ w9 ⟨rfl, hk9⟩; have hS1 := hS.keepB hk9; clear hk9 hS; have hS := hS1; clear hS1) | (go_at_call 11; (with_reducible refine (cP2.out _ hS.below).mono ?_); rintro _ w9 ⟨rfl, hk9⟩; have hS1 := hS.keepB hk9; clear hk9 hS; have hS := hS1; clear hS1) | (go_at_call 11; (with_reducible refine (cP3.out _ hS.below).mono ?_); rintro _ w9 ⟨rfl, hk9⟩; have hS1 := hS.keepB hk9; clear hk9 hS; have hS := hS1; clear hS1) | (go_at_call 24; (with_reducible refine (cB.out _).mono ?_); rintro _ _ ⟨rfl, rfl⟩) | (go_at_call 23; (with_reducible refine (cD.out _).mono ?_); rintro _ w9 ⟨rfl, hk9⟩; have hS1 := hS.keepB hk9; clear hk9 hS; have hS := hS1; clear hS1) | (go_at_call 10; (with_reducible refine (cA.out _ hS.below).mono ?_); rintro _ w9 ⟨rfl, hk9⟩; have hS1 := hS.keepB hk9; clear hk9 hS; have hS := hS1; clear hS1) )
    try clear hC
    refine hK.out _ _ _ (fun _ h => h) (by first | exact hS | exact hS.drop | exact hS.drop.drop | exact hS.drop.drop.drop | exact hS.drop.drop.drop.drop | exact hS.empty | exact hS.one 0 rfl | exact hS.one 1 rfl | exact hS.one 2 rfl | exact hS.one 3 rfl | exact hS.one 4 rfl | exact hS.one 5 rfl | exact hS.one 6 rfl | exact hS.one 7 rfl | exact hS.one 8 rfl | exact hS.one 9 rfl | exact hS.one 10 rfl | exact hS.one 11 rfl) (fun hC => ?_)
    clear hK K
    try simp only [List.getElem_toArray, List.getElem_cons_succ, List.getElem_cons_zero, Act.put, List.setIfInBounds_toArray, List.set_cons_zero, List.set_cons_succ]
    refine mixs_one 13 (by kernel_rfl) rfl (fun K hK => ?_)
    go_simp
    ( first | (go_at_call 11; (with_reducible refine (cP1.out _ hS.below).mono ?_); rintro _ w9 ⟨rfl, hk9⟩; have hS1 := hS.keepB hk9; clear hk9 hS; have hS := hS1; clear hS1) | (go_at_call 11; (with_reducible refine (cP2.out _ hS.below).mono ?_); rintro _ w9 ⟨rfl, hk9⟩; have hS1 := hS.keepB hk9; clear hk9 hS; have hS := hS1; clear hS1) | (go_at_call 11; (with_reducible refine (cP3.out _ hS.below).mono ?_); rintro _ w9 ⟨rfl, hk9⟩; have hS1 := hS.keepB hk9; clear hk9 hS; have hS := hS1; clear hS1) | (go_at_call 24; (with_reducible refine (cB.out _).mono ?_); rintro _ _ ⟨rfl, rfl⟩) | (go_at_call 23; (with_reducible refine (cD.out _).mono ?_); rintro _ w9 ⟨rfl, hk9⟩; have hS1 := hS.keepB hk9; clear hk9 hS; have hS := hS1; clear hS1) | (go_at_call 10; (with_reducible refine (cA.out _ hS.below).mono ?_); rintro _ w9 ⟨rfl, hk9⟩; have hS1 := hS.keepB hk9; clear hk9 hS; have hS := hS1; clear hS1) )
    try clear hC
    refine hK.out _ _ _ (fun _ h => h) (by first | exact hS | exact hS.drop | exact hS.drop.drop | exact hS.drop.drop.drop | exact hS.drop.drop.drop.drop | exact hS.empty | exact hS.one 0 rfl | exact hS.one 1 rfl | exact hS.one 2 rfl | exact hS.one 3 rfl | exact hS.one 4 rfl | exact hS.one 5 rfl | exact hS.one 6 rfl | exact hS.one 7 rfl | exact hS.one 8 rfl | exact hS.one 9 rfl | exact hS.one 10 rfl | exact hS.one 11 rfl) (fun hC => ?_)
    clear hK K
    try simp only [List.getElem_toArray, List.getElem_cons_succ, List.getElem_cons_zero, Act.put, List.setIfInBounds_toArray, List.set_cons_zero, List.set_cons_succ]
    refine mixs_take 14 (v := ?_) rfl (by kernel_rfl) (fun _ _ _ h => h) (by kernel_rfl) (by assumption) (fun s => ?hy) ?_; case hy => (go_simp <;> with_reducible rfl)
    try simp only [List.getElem_toArray, List.getElem_cons_succ, List.getElem_cons_zero, Act.put, List.setIfInBounds_toArray, List.set_cons_zero, List.set_cons_succ]
    refine mixs_take 15 (v := ?_) rfl (by kernel_rfl) (fun _ _ _ h => h) (by kernel_rfl) (by assumption) (fun s => ?hy) ?_; case hy => (go_simp <;> with_reducible rfl)
    try simp only [List.getElem_toArray, List.getElem_cons_succ, List.getElem_cons_zero, Act.put, List.setIfInBounds_toArray, List.set_cons_zero, List.set_cons_succ]
    refine mixs_take 16 (v := ?_) rfl (by kernel_rfl) (fun _ _ _ h => h) (by kernel_rfl) (by assumption) (fun s => ?hy) ?_; case hy => (go_simp <;> with_reducible rfl)
    try simp only [List.getElem_toArray, List.getElem_cons_succ, List.getElem_cons_zero, Act.put, List.setIfInBounds_toArray, List.set_cons_zero, List.set_cons_succ]
    refine mixs_take 17 (v := ?_) rfl (by kernel_rfl) (fun _ _ _ h => h) (by kernel_rfl) (by assumption) (fun s => ?hy) ?_; case hy => (refine Eq.trans (take_loadrow s rfl rfl kXf) ?_; with_reducible rfl)
    try simp only [List.getElem_toArray, List.getElem_cons_succ, List.getElem_cons_zero, Act.put, List.setIfInBounds_toArray, List.set_cons_zero, List.set_cons_succ]
    refine mixs_take 18 (v := ?_) rfl (by kernel_rfl) (fun _ _ _ h => h) (by kernel_rfl) (by assumption) (fun s => ?hy) ?_; case hy => (go_simp <;> with_reducible rfl)
    try simp only [List.getElem_toArray, List.getElem_cons_succ, List.getElem_cons_zero, Act.put, List.setIfInBounds_toArray, List.set_cons_zero, List.set_cons_succ]
    refine mixs_take 19 (v := ?_) rfl (by kernel_rfl) (fun _ _ _ h => h) (by kernel_rfl) (by assumption) (fun s => ?hy) ?_; case hy => (refine Eq.trans (take_loadrow s rfl rfl kAf) ?_; with_reducible rfl)
    try simp only [List.getElem_toArray, List.getElem_cons_succ, List.getElem_cons_zero, Act.put, List.setIfInBounds_toArray, List.set_cons_zero, List.set_cons_succ]
    refine mixs_take 20 (v := ?_) rfl (by kernel_rfl) (fun _ _ _ h => h) (by kernel_rfl) (by assumption) (fun s => ?hy) ?_; case hy => (go_simp <;> with_reducible rfl)
    try simp only [List.getElem_toArray, List.getElem_cons_succ, List.getElem_cons_zero, Act.put, List.setIfInBounds_toArray, List.set_cons_zero, List.set_cons_succ]
    refine mixs_take 21 (v := ?_) rfl (by kernel_rfl) (fun _ _ _ h => h) (by kernel_rfl) (by assumption) (fun s => ?hy) ?_; case hy => (go_simp <;> with_reducible rfl)
    try simp only [List.getElem_toArray, List.getElem_cons_succ, List.getElem_cons_zero, Act.put, List.setIfInBounds_toArray, List.set_cons_zero, List.set_cons_succ]
    refine mixs_take 22 (v := ?_) rfl (by kernel_rfl) (fun _ _ _ h => h) (by kernel_rfl) (by assumption) (fun s => ?hy) ?_; case hy => (go_simp <;> with_reducible rfl)
    try simp only [List.getElem_toArray, List.getElem_cons_succ, List.getElem_cons_zero, Act.put, List.setIfInBounds_toArray, List.set_cons_zero, List.set_cons_succ]
    refine mixs_take 23 (v := ?_) rfl (by kernel_rfl) (fun _ _ _ h => h) (by kernel_rfl) (by assumption) (fun s => ?hy) ?_; case hy => (go_simp <;> with_reducible rfl)
    try simp only [List.getElem_toArray, List.getElem_cons_succ, List.getElem_cons_zero, Act.put, List.setIfInBounds_toArray, List.set_cons_zero, List.set_cons_succ]
    refine mixs_take 24 (v := ?_) rfl (by kernel_rfl) (fun _ _ _ h => h) (by kernel_rfl) (by assumption) (fun s => ?hy) ?_; case hy => (go_simp <;> with_reducible rfl)
    try simp only [List.getElem_toArray, List.getElem_cons_succ, List.getElem_cons_zero, Act.put, List.setIfInBounds_toArray, List.set_cons_zero, List.set_cons_succ]
    refine mixs_take 25 (v := ?_) rfl (by kernel_rfl) (fun _ _ _ h => h) (by kernel_rfl) (by assumption) (fun s => ?hy) ?_; case hy => (go_simp <;> with_reducible rfl)
    try simp only [List.getElem_toArray, List.getElem_cons_succ, List.getElem_cons_zero, Act.put, List.setIfInBounds_toArray, List.set_cons_zero, List.set_cons_succ]
    refine mixs_take 26 (v := ?_) rfl (by kernel_rfl) (fun _ _ _ h => h) (by kernel_rfl) (by assumption) (fun s => ?hy) ?_; case hy => (go_simp <;> with_reducible rfl)
    try simp only [List.getElem_toArray, List.getElem_cons_succ, List.getElem_cons_zero, Act.put, List.setIfInBounds_toArray, List.set_cons_zero, List.set_cons_succ]
    refine mixs_take 27 (v := ?_) rfl (by kernel_rfl) (fun _ _ _ h => h) (by kernel_rfl) (by assumption) (fun s => ?hy) ?_; case hy => (go_simp <;> with_reducible rfl)
    try simp only [List.getElem_toArray, List.getElem_cons_succ, List.getElem_cons_zero, Act.put, List.setIfInBounds_toArray, List.set_cons_zero, List.set_cons_succ]
    refine mixs_take 28 (v := ?_) rfl (by kernel_rfl) (fun _ _ _ h => h) (by kernel_rfl) (by assumption) (fun s => ?hy) ?_; case hy => (go_simp <;> with_reducible rfl)
    try simp only [List.getElem_toArray, List.getElem_cons_succ, List.getElem_cons_zero, Act.put, List.setIfInBounds_toArray, List.set_cons_zero, List.set_cons_succ]
    refine mixs_take 29 (v := ?_) rfl (by kernel_rfl) (fun _ _ _ h => h) (by kernel_rfl) (by assumption) (fun s => ?hy) ?_; case hy => (go_simp <;> with_reducible rfl)
    try simp only [List.getElem_toArray, List.getElem_cons_succ, List.getElem_cons_zero, Act.put, List.setIfInBounds_toArray, List.set_cons_zero, List.set_cons_succ]
    refine mixs_take 30 (v := ?_) rfl (by kernel_rfl) (fun _ _ _ h => h) (by kernel_rfl) (by assumption) (fun s => ?hy) ?_; case hy => (refine Eq.trans (take_loadrow s rfl rfl kX) ?_; with_reducible rfl)
    try simp only [List.getElem_toArray, List.getElem_cons_succ, List.getElem_cons_zero, Act.put, List.setIfInBounds_toArray, List.set_cons_zero, List.set_cons_succ]
    refine mixs_take 31 (v := ?_) rfl (by kernel_rfl) (fun _ _ _ h => h) (by kernel_rfl) (by assumption) (fun s => ?hy) ?_; case hy => (refine Eq.trans (take_loadrow s rfl rfl kA) ?_; with_reducible rfl)
    try simp only [List.getElem_toArray, List.getElem_cons_succ, List.getElem_cons_zero, Act.put, List.setIfInBounds_toArray, List.set_cons_zero, List.set_cons_succ]
    refine mixs_one 32 (by kernel_rfl) rfl (fun K hK => ?_)
    go_simp
    ( first | (go_at_call 11; (with_reducible refine (cP1.out _ hS.below).mono ?_); rintro _ w9 ⟨rfl, hk9⟩; have hS1 := hS.keepB hk9; clear hk9 hS; have hS := hS1; clear hS1) | (go_at_call 11; (with_reducible refine (cP2.out _ hS.below).mono ?_); rintro _ w9 ⟨rfl, hk9⟩; have hS1 := hS.keepB hk9; clear hk9 hS; have hS := hS1; clear hS1) | (go_at_call 11; (with_reducible refine (cP3.out _ hS.below).mono ?_); rintro _ w9 ⟨rfl, hk9⟩; have hS1 := hS.keepB hk9; clear hk9 hS; have hS := hS1; clear hS1) | (go_at_call 24; (with_reducible refine (cB.out _).mono ?_); rintro _ _ ⟨rfl, rfl⟩) | (go_at_call 23; (with_reducible refine (cD.out _).mono ?_); rintro _ w9 ⟨rfl, hk9⟩; have hS1 := hS.keepB hk9; clear hk9 hS; have hS := hS1; clear hS1) | (go_at_call 10; (with_reducible refine (cA.out _ hS.below).mono ?_); rintro _ w9 ⟨rfl, hk9⟩; have hS1 := hS.keepB hk9; clear hk9 hS; have hS := hS1; clear hS1) )
    try clear hC
    refine hK.out _ _ _ (fun _ h => h) (by first | exact hS | exact hS.drop | exact hS.drop.drop | exact hS.drop.drop.drop | exact hS.drop.drop.drop.drop | exact hS.empty | exact hS.one 0 rfl | exact hS.one 1 rfl | exact hS.one 2 rfl | exact hS.one 3 rfl | exact hS.one 4 rfl | exact hS.one 5 rfl | exact hS.one 6 rfl | exact hS.one 7 rfl | exact hS.one 8 rfl | exact hS.one 9 rfl | exact hS.one 10 rfl | exact hS.one 11 rfl) (fun hC => ?_)
    clear hK K
    try simp only [List.getElem_toArray, List.getElem_cons_succ, List.getElem_cons_zero, Act.put, List.setIfInBounds_toArray, List.set_cons_zero, List.set_cons_succ]
    refine mixs_take 33 (v := ?_) rfl (by kernel_rfl) (fun _ _ _ h => h) (by kernel_rfl) (by assumption) (fun s => ?hy) ?_; case hy => (go_simp <;> with_reducible rfl)
    try simp only [List.getElem_toArray, List.getElem_cons_succ, List.getElem_cons_zero, Act.put, List.setIfInBounds_toArray, List.set_cons_zero, List.set_cons_succ]
    refine mixs_take 34 (v := ?_) rfl (by kernel_rfl) (fun _ _ _ h => h) (by kernel_rfl) (by assumption) (fun s => ?hy) ?_; case hy => (go_simp <;> with_reducible rfl)
    try simp only [List.getElem_toArray, List.getElem_cons_succ, List.getElem_cons_zero, Act.put, List.setIfInBounds_toArray, List.set_cons_zero, List.set_cons_succ]
    refine mixs_take 35 (v := ?_) rfl (by kernel_rfl) (fun _ _ _ h => h) (by kernel_rfl) (by assumption) (fun s => ?hy) ?_; case hy => (go_simp <;> with_reducible rfl)
    try simp only [List.getElem_toArray, List.getElem_cons_succ, List.getElem_cons_zero, Act.put, List.setIfInBounds_toArray, List.set_cons_zero, List.set_cons_succ]
    refine mixs_one 36 (by kernel_rfl) rfl (fun K hK => ?_)
    go_simp
    ( first | (go_at_call 11; (with_reducible refine (cP1.out _ hS.below).mono ?_); rintro _ w9 ⟨rfl, hk9⟩; have hS1 := hS.keepB hk9; clear hk9 hS; have hS := hS1; clear hS1) | (go_at_call 11; (with_reducible refine (cP2.out _ hS.below).mono ?_); rintro _ w9 ⟨rfl, hk9⟩; have hS1 := hS.keepB hk9; clear hk9 hS; have hS := hS1; clear hS1) | (go_at_call 11; (with_reducible refine (cP3.out _ hS.below).mono ?_); rintro _ w9 ⟨rfl, hk9⟩; have hS1 := hS.keepB hk9; clear hk9 hS; have hS := hS1; clear hS1) | (go_at_call 24; (with_reducible refine (cB.out _).mono ?_); rintro _ _ ⟨rfl, rfl⟩) | (go_at_call 23; (with_reducible refine (cD.out _).mono ?_); rintro _ w9 ⟨rfl, hk9⟩; have hS1 := hS.keepB hk9; clear hk9 hS; have hS := hS1; clear hS1) | (go_at_call 10; (with_reducible refine (cA.out _ hS.below).mono ?_); rintro _ w9 ⟨rfl, hk9⟩; have hS1 := hS.keepB hk9; clear hk9 hS; have hS := hS1; clear hS1) )
    try clear hC
    refine hK.out _ _ _ (fun _ h => h) (by first | exact hS | exact hS.drop | exact hS.drop.drop | exact hS.drop.drop.drop | exact hS.drop.drop.drop.drop | exact hS.empty | exact hS.one 0 rfl | exact hS.one 1 rfl | exact hS.one 2 rfl | exact hS.one 3 rfl | exact hS.one 4 rfl | exact hS.one 5 rfl | exact hS.one 6 rfl | exact hS.one 7 rfl | exact hS.one 8 rfl | exact hS.one 9 rfl | exact hS.one 10 rfl | exact hS.one 11 rfl) (fun hC => ?_)
    clear hK K
    try simp only [List.getElem_toArray, List.getElem_cons_succ, List.getElem_cons_zero, Act.put, List.setIfInBounds_toArray, List.set_cons_zero, List.set_cons_succ]
    refine mixs_take 37 (v := ?_) rfl (by kernel_rfl) (fun _ _ _ h => h) (by kernel_rfl) (by assumption) (fun s => ?hy) ?_; case hy => (go_simp <;> with_reducible rfl)
    try simp only [List.getElem_toArray, List.getElem_cons_succ, List.getElem_cons_zero, Act.put, List.setIfInBounds_toArray, List.set_cons_zero, List.set_cons_succ]
    refine mixs_take 38 (v := ?_) rfl (by kernel_rfl) (fun _ _ _ h => h) (by kernel_rfl) (by assumption) (fun s => ?hy) ?_; case hy => (go_simp <;> with_reducible rfl)
    try simp only [List.getElem_toArray, List.getElem_cons_succ, List.getElem_cons_zero, Act.put, List.setIfInBounds_toArray, List.set_cons_zero, List.set_cons_succ]
    refine wpAnyH_done (by kernel_rfl) ?_ _
    clear kA kX kAf kXf k1 k2 k3 k4
    go_wp2_with fail
    go_ret
    exact ⟨rfl, hS.below⟩
end Go.Proofs.YtplgpbbghhlbjaaDoor
