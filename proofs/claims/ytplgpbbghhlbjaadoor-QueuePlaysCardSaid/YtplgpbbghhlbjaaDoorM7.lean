/- Texts laid together: QueuePush QueuePush2 QueueEq QueueEq2 QueueRef QueueRPush. -/
import Derived.Test.YtplgpbbghhlbjaaDoorM2
import Derived.Test.YtplgpbbghhlbjaaDoorM3
import Derived.Test.YtplgpbbghhlbjaaDoorM4
import Derived.Test.YtplgpbbghhlbjaaDoorM5
import Derived.Test.YtplgpbbghhlbjaaDoorM6
section
/- A write put behind all. -/
set_option linter.unusedSimpArgs false
set_option linter.unusedVariables false
namespace Go.Proofs.YtplgpbbghhlbjaaDoor
open Go.RowKit Go.Ofp
set_option linter.unusedVariables false
set_option maxRecDepth 100000
set_option maxHeartbeats 4000000

theorem fill_wr (T : TypeId) (i b : Int) (RP : List Value) (hl : RP.length = 26) :
    RP.zipIdx.foldl (fun cs x => cs.setIfInBounds (2 + x.2) x.1) #[Value.int .i64 i, .int .i64 b, .int .u32 0, .int .u32 0, .int .i64 0, .int .i64 0, .string ⟨#[]⟩, .int .i64 0, .int .i64 0, .string ⟨#[]⟩, .int .i64 0, .int .i64 0, .string ⟨#[]⟩, .int .i64 0, .int .i64 0, .string ⟨#[]⟩, .int .i64 0, .int .i64 0, .string ⟨#[]⟩, .int .i64 0, .int .i64 0, .string ⟨#[]⟩, .int .i64 0, .int .i64 0, .string ⟨#[]⟩, .int .i64 0, .int .i64 0, .string ⟨#[]⟩] = (Value.int .i64 i :: .int .i64 b :: RP).toArray := by
  rw [foldl_put 2 RP 0 _ (by rw [hl]; exact Nat.le_refl _), hl]
  simp
attribute [local go_sem] Oper.semAt_some in
theorem push_main (c : Cd) (hc : c.f.length = 8) (p : Pt) (hpf : p.f.length = 8) (hpm : p.mask < 4294967296) (hpl : p.lab < 4294967296) (hck : p.check = 0) (l : List Wr) (hl : ∀ q ∈ l, q.p.f.length = 8) (hlb : ∀ q ∈ l, -4611686018427387904 ≤ q.base ∧ q.base ≤ 4611686018427387904) (a : Option Addr) (n cap : Nat) (hn : l.length = n) (hn12 : n < 12) (hnil : a = none → n = 0 ∧ cap = 0) (w : World) (hs : Sl w a (qRow l)) :
    Calls Tryd.prog 32 #[.slice a n cap, .agg (cdRow c).toArray, .agg (ptRow p).toArray] w fun e w' => ∃ a' c', e = .returned (.tuple #[.slice a' (n + 1) c', .int .i64 0]) ∧ n + 1 ≤ c' ∧ c' ≤ maxLen ∧ St w [] [Ch.row 74 28 (.slice a' (n + 1) c') (n + 1) (qRow (l ++ [⟨c.id, nextBase c.ver (ofId l c.id), p⟩]))] w' := by
  have hS := St.start w
  have cO := Lib.hid (fun W : World => seqof_any l a n cap c.id W)
  have cK := fun W : World => cp_any p hpf hpm hpl W
  rw [hck] at cK
  replace cK := Lib.hid cK
  have ew := elem_wr
  have en := elem_n
  have d12 : decide ((12 : Int) ≤ (n : Int)) = false := decide_eq_false (by omega)
  have hpn : (ptRow p).length = 26 := by simp [ptRow, flRow_length, hpf]
  obtain ⟨id, ver, lab, f⟩ := c
  simp only [cdRow] at *
  have hps : sizeB Tryd.prog 29 (ptRow p).toArray.size = true := by rw [List.size_toArray, hpn]; kernel_rfl
  refine (callsIn_wide (n := 10)).1 ?_
  refine callsIn_of_wp_marks Tryd.func32 rfl trivial ?_ rfl
  simp only [Tryd.ntmps32, List.size_toArray, List.length_cons, List.length_nil, Nat.reduceAdd, Nat.reduceSub, Array.replicate_succ, Array.replicate_zero, List.push_toArray, List.append_toArray, List.nil_append, List.cons_append]
  gi_wp2_with (first
    | (refine ⟨trivial, ?_⟩; gi_at_call 55; refine (callsIn_wide.2 (cO.out _)).mono ?_; rintro _ w2 ⟨B1, B2, rfl, hO⟩)
    | (refine ⟨trivial, ?_⟩; gi_at_call 27; refine (callsIn_wide.2 (cK.out _)).mono ?_; rintro _ w9 ⟨rfl, hk9⟩; have hS1 := hS.keepB hk9; clear hk9 hS; have hS := hS1; clear hS1)
    | (with_reducible refine wpListIn_box_st (L := []) hS rfl rfl rfl ?_; intro b4 w1 _ hS1; clear hS; have hS := hS1; clear hS1)
    | (with_reducible refine wpListIn_box_st (L := [_]) hS rfl rfl rfl ?_; intro b5 w1 _ hS1; clear hS; have hS := hS1; clear hS1)
    | (with_reducible refine wpListIn_alloc1_st (L := [_, _]) hS rfl rfl en rfl ?_; intro b9 w1 _ hS1; clear hS; have hS := hS1; clear hS1)
    | ((with_reducible refine wpListIn_loadall_st 0 hS rfl rfl rfl rfl ?_ hps ?_); focus (simp [rowB, go_sem]; done))
    | ((with_reducible refine wpListIn_load_st 1 hS rfl rfl rfl rfl ?_ rfl ?_); focus (simp [scalarB, go_sem]; done))
    | ((with_reducible refine wpListIn_load_st 2 hS rfl rfl rfl rfl ?_ rfl ?_); focus (simp [scalarB, go_sem]; done))
    | ((with_reducible refine wpListIn_store_st 0 hS rfl rfl rfl rfl (by kernel_rfl) rfl rfl ?_); intro w1 hS1; clear hS; have hS := hS1; clear hS1; simp only [List.set_cons_zero, List.set_cons_succ, List.setIfInBounds_toArray] at hS))
  have hS2 := hS.made hO
  simp only [List.cons_append, List.nil_append] at hS2
  have lo1 := ((hS2.own 1 _ rfl).2 B1 (by simp [Ch.blk])).resolve_left (by simp)
  have lt1 := hS2.lt 1 rfl B1 (by simp [Ch.blk])
  have lt2 := hS2.lt 0 rfl B2 (by simp [Ch.blk])
  have n19 : B1 ≠ b9 := fun e => hS2.apart 1 2 _ _ rfl rfl (by decide) B1 (by simp [Ch.blk]) (by simp [Ch.blk, e])
  have n15 : B1 ≠ b5 := fun e => hS2.apart 1 3 _ _ rfl rfl (by decide) B1 (by simp [Ch.blk]) (by simp [Ch.blk, e])
  have n14 : B1 ≠ b4 := fun e => hS2.apart 1 4 _ _ rfl rfl (by decide) B1 (by simp [Ch.blk]) (by simp [Ch.blk, e])
  have n29 : B2 ≠ b9 := fun e => hS2.apart 0 2 _ _ rfl rfl (by decide) B2 (by simp [Ch.blk]) (by simp [Ch.blk, e])
  have n25 : B2 ≠ b5 := fun e => hS2.apart 0 3 _ _ rfl rfl (by decide) B2 (by simp [Ch.blk]) (by simp [Ch.blk, e])
  have n24 : B2 ≠ b4 := fun e => hS2.apart 0 4 _ _ rfl rfl (by decide) B2 (by simp [Ch.blk]) (by simp [Ch.blk, e])
  have hg := of_gives 9 (by decide) l hl a n cap id hn (by omega) B1 B2 w w2 hS2.below (hS2.get 1 rfl) (hS2.get 0 rfl) hs
  have hI0 : St w [] [Ch.blk b9 3 #[.int .i64 (nextBase ver ((ofId l id).take 0))], Ch.blk b5 29 (ptRow p).toArray, Ch.blk b4 27 (Value.int .i64 id :: .int .i64 ver :: .int .u32 lab :: flRow f).toArray] w2 := hS2.drop.drop
  have hlow := hS2.below.size
  have hcc : ∀ k, ∀ c ∈ ([Ch.blk b9 3 #[.int .i64 (nextBase ver ((ofId l id).take k))], Ch.blk b5 29 (ptRow p).toArray, Ch.blk b4 27 (Value.int .i64 id :: .int .i64 ver :: .int .u32 lab :: flRow f).toArray] : List Ch), B1 ∉ c.foot ∧ c.cellsy := fun k => List.forall_mem_cons.2 ⟨⟨by simp [Ch.blk, n19], Ch.blk_cellsy _ _ _⟩, List.forall_mem_cons.2 ⟨⟨by simp [Ch.blk, n15], Ch.blk_cellsy _ _ _⟩, List.forall_mem_cons.2 ⟨⟨by simp [Ch.blk, n14], Ch.blk_cellsy _ _ _⟩, fun _ h => absurd h (by simp)⟩⟩⟩
  have hft : ∀ k, ∀ g ∈ feet ([Ch.blk b9 3 #[.int .i64 (nextBase ver ((ofId l id).take k))], Ch.blk b5 29 (ptRow p).toArray, Ch.blk b4 27 (Value.int .i64 id :: .int .i64 ver :: .int .u32 lab :: flRow f).toArray] : List Ch), g ∉ [B1, B2] := by
    intro k g hg
    have : g = b9 ∨ g = b5 ∨ g = b4 := by simpa [feet, Ch.blk] using hg
    rcases this with rfl | rfl | rfl
    · simp; exact ⟨fun e => n19 e.symm, fun e => n29 e.symm⟩
    · simp; exact ⟨fun e => n15 e.symm, fun e => n25 e.symm⟩
    · simp; exact ⟨fun e => n14 e.symm, fun e => n24 e.symm⟩
  have hlb5 := hS2.lt 3 rfl b5 (by simp [Ch.blk])
  have hlb4 := hS2.lt 4 rfl b4 (by simp [Ch.blk])
  have hlb9 := hS2.lt 2 rfl b9 (by simp [Ch.blk])
  replace hl := Lib.hid hl
  replace hlb := Lib.hid hlb
  replace hs := Lib.hid hs
  clear hO hS hS2
  refine wpIn_givesM1 (n := 10) rfl (by decide) (gf := 67) (lb := #[.pointer (some ⟨B1, 0, none⟩), .pointer (some ⟨B2, 0, none⟩)]) rfl trivial (Go.Proofs.enters_of Tryd.func67 (by kernel_rfl) rfl) (xs := (ofId l id).map fun q => .agg (wrRow q).toArray) (n0 := w.heap.size) (Bn := B1) (Zs := [B1, B2]) hg lt1 hlow (by simp; exact ⟨lt1, lt2⟩)
    (fun k W => St w [] [Ch.blk b9 3 #[.int .i64 (nextBase ver ((ofId l id).take k))], Ch.blk b5 29 (ptRow p).toArray, Ch.blk b4 27 (Value.int .i64 id :: .int .i64 ver :: .int .u32 lab :: flRow f).toArray] W ∧ w2.heap.size ≤ W.heap.size) ?hI ⟨hI0, Nat.le_refl _⟩
    (fun k a1 W => ∃ g q, (ofId l id)[k]? = some q ∧ a1 = { tmps := #[.slice a n cap, .agg (Value.int .i64 id :: .int .i64 ver :: .int .u32 lab :: flRow f).toArray, .agg (ptRow p).toArray, undef, .pointer (some ⟨b4, 0, none⟩), .pointer (some ⟨b5, 0, none⟩), .slice none 0 0, .int .i64 0, .int .i64 0, .pointer (some ⟨b9, 0, none⟩), .pointer (some ⟨g, 0, none⟩), .agg (ptRow p).toArray, .int .i64 0, .int .i64 0, .bool false, undef, .slice a n cap, .int .i64 n, .bool false, .pointer (some ⟨b4, 1, none⟩), .int .i64 ver, .slice a n cap, .pointer (some ⟨b4, 0, none⟩), .int .i64 id, .func (.func 67) #[] #[.pointer (some ⟨B1, 0, none⟩), .pointer (some ⟨B2, 0, none⟩)], .agg (wrRow q).toArray, undef, undef, undef, undef, undef, undef, undef, undef, undef, undef, undef, undef], defers := [] } ∧ w2.heap.size ≤ g ∧ St w [] (Ch.blk g 74 (wrRow q).toArray :: [Ch.blk b9 3 #[.int .i64 (nextBase ver ((ofId l id).take k))], Ch.blk b5 29 (ptRow p).toArray, Ch.blk b4 27 (Value.int .i64 id :: .int .i64 ver :: .int .u32 lab :: flRow f).toArray]) W ∧ w2.heap.size ≤ W.heap.size) ?hMid ?assign ?body ?done
  case hI => exact Abide.and (abide_st2 lo1 hlow fun k => hcc k) abide_size
  case hMid =>
    rintro k a1 k' A C row ⟨g, q, e1, e2, e3, e4, e5⟩ hg hr
    exact ⟨g, q, e1, e2, e3, abide_st2 (L := fun _ => Ch.blk g 74 (wrRow q).toArray :: [Ch.blk b9 3 #[.int .i64 (nextBase ver ((ofId l id).take k))], Ch.blk b5 29 (ptRow p).toArray, Ch.blk b4 27 (Value.int .i64 id :: .int .i64 ver :: .int .u32 lab :: flRow f).toArray]) lo1 hlow (fun _ => List.forall_mem_cons.2 ⟨⟨by simp [Ch.blk]; omega, Ch.blk_cellsy _ _ _⟩, hcc k⟩) k A C row e4 hg hr, Nat.le_trans e5 hg.size⟩
  case assign =>
    rintro yl k x W K ⟨hS3, hz3⟩ hx hK
    rw [List.getElem?_map] at hx
    obtain ⟨q, hq, rfl⟩ := Option.map_eq_some_iff.1 hx
    have hql := List.mem_of_getElem? hq
    have hq8 : q.p.f.length = 8 := hl.out q (List.mem_filter.1 hql).1
    have ql := wrRow_len q hq8
    have qo := wrRow_one q
    have hT := hS3.pre [Ch.blk b9 3 #[.int .i64 (nextBase ver ((ofId l id).take k))], Ch.blk b5 29 (ptRow p).toArray, Ch.blk b4 27 (Value.int .i64 id :: .int .i64 ver :: .int .u32 lab :: flRow f).toArray] [] rfl
    gi_wp2_with (first
      | (with_reducible refine wpListIn_alloc_st hT rfl rfl ew ?_; intro g w1 hg1 hS1; clear hT; have hT := hS1; clear hS1)
      | ((with_reducible refine wpListIn_storerow_st (m := 28) (vs := wrRow q) 0 hT rfl rfl rfl rfl (by kernel_rfl) rfl ql qo (by kernel_rfl) ?_); intro w1 hS1; clear hT; have hT := hS1; clear hS1; simp only [List.set_cons_zero, List.take_zero, List.nil_append, List.drop_succ_cons, List.drop_zero, List.drop_nil, List.append_nil] at hT))
    obtain ⟨q1, q2, q3, q4⟩ := keeps_of (B := w2.heap.size) (Zs := [B1, B2]) hS3 hT (fun c hc => (hcc k c hc).2) (hft k) (by intro z hz; simp at hz; rcases hz with rfl | rfl <;> omega)
    exact hK _ _ q1 q2 q3 ⟨g, q, hq, rfl, by omega, q4, Nat.le_trans hz3 hT.fr.size⟩
  case body =>
    rintro yl k x a1 W ⟨g, q, e1, rfl, e3, hS3, hz3⟩ hx
    have hql := List.mem_of_getElem? e1
    obtain ⟨hb1, hb2⟩ := hlb.out q (List.mem_filter.1 hql).1
    have hT := hS3.pre (Ch.blk g 74 (wrRow q).toArray :: [Ch.blk b9 3 #[.int .i64 (nextBase ver ((ofId l id).take k))], Ch.blk b5 29 (ptRow p).toArray, Ch.blk b4 27 (Value.int .i64 id :: .int .i64 ver :: .int .u32 lab :: flRow f).toArray]) [] (List.append_nil _).symm
    have hk2 : k < (ofId l id).length := (List.getElem?_eq_some_iff.1 e1).1
    have hmk : nextBase ver ((ofId l id).take (k + 1)) = q.base + 1 := by
      rw [List.take_succ_eq_append_getElem hk2, nextBase_snoc, (List.getElem?_eq_some_iff.1 e1).2]
    have hfin : ∀ W', St W (feet (Ch.blk g 74 (wrRow q).toArray :: [Ch.blk b9 3 #[.int .i64 (nextBase ver ((ofId l id).take k))], Ch.blk b5 29 (ptRow p).toArray, Ch.blk b4 27 (Value.int .i64 id :: .int .i64 ver :: .int .u32 lab :: flRow f).toArray])) [Ch.blk b9 3 #[.int .i64 (nextBase ver ((ofId l id).take (k + 1)))], Ch.blk b5 29 (ptRow p).toArray, Ch.blk b4 27 (Value.int .i64 id :: .int .i64 ver :: .int .u32 lab :: flRow f).toArray] W' → goOnZ w.heap.size w2.heap.size [B1, B2] (fun k W => St w [] [Ch.blk b9 3 #[.int .i64 (nextBase ver ((ofId l id).take k))], Ch.blk b5 29 (ptRow p).toArray, Ch.blk b4 27 (Value.int .i64 id :: .int .i64 ver :: .int .u32 lab :: flRow f).toArray] W ∧ w2.heap.size ≤ W.heap.size) k W .normal { tmps := #[], defers := [] } W' := by
      intro W' hT'
      obtain ⟨q1, q2, q3, q4⟩ := keeps_of (B := w2.heap.size) (Zs := [B1, B2]) hS3 hT' (List.forall_mem_cons.2 ⟨Ch.blk_cellsy _ _ _, fun c hc => (hcc k c hc).2⟩) (by
        intro z hz
        have : z = g ∨ z ∈ feet ([Ch.blk b9 3 #[.int .i64 (nextBase ver ((ofId l id).take k))], Ch.blk b5 29 (ptRow p).toArray, Ch.blk b4 27 (Value.int .i64 id :: .int .i64 ver :: .int .u32 lab :: flRow f).toArray] : List Ch) := by simpa [feet, Ch.blk] using hz
        rcases this with rfl | h
        · simp; omega
        · exact hft k z h) (by intro z hz; simp at hz; rcases hz with rfl | rfl <;> omega)
      exact ⟨q1, q2, q3, q4, Nat.le_trans hz3 hT'.fr.size⟩
    rw [hmk] at hfin
    replace hfin := Lib.hid hfin
    clear hmk hS3 hx e1
    obtain ⟨qi, qb, qp⟩ := q
    simp only [wrRow] at hT hfin hb1 hb2
    gi_wp2_with (first
      | ((with_reducible refine wpListIn_load_st 0 hT rfl rfl rfl rfl ?_ rfl ?_); focus (simp [scalarB, go_sem]; done))
      | ((with_reducible refine wpListIn_store_st 1 hT rfl rfl rfl rfl (by kernel_rfl) rfl rfl ?_); intro w1 hS1; clear hT; have hT := hS1; clear hS1; simp only [List.set_cons_zero, List.set_cons_succ, List.setIfInBounds_toArray] at hT))
    exact hfin.out _ hT.drop
  case done =>
    rintro D W hD ⟨hS3, -⟩ hK
    rw [List.length_map, List.take_length] at hS3
    have hbW := hS3.below
    have hrng := Whole.range (hS3.get 1 rfl) 0 (vs := ptRow p) (fun k v hk => by simpa using hk)
    have c4 := hS3.cell 2 rfl 0
    have c9 := hS3.cell 0 rfl 0
    simp only [List.getElem?_toArray, List.getElem?_cons_zero] at c4 c9
    have hsW := hs.out.below hbW
    generalize hbe : nextBase ver (ofId l id) = base at *
    replace hbe := Lib.hid hbe
    have hbw := fill_wr 74 id base (ptRow p) hpn
    have hwl : (Value.int .i64 id :: .int .i64 base :: ptRow p).length = 28 := by simp [hpn]
    have hwo : ∀ u ∈ (Value.int .i64 id :: .int .i64 base :: ptRow p), u.oneCell' = true := fun u hu => List.all_eq_true.1 (wrRow_one ⟨id, base, p⟩) u hu
    have hb1 := fun W : World => run_build1 (P := Tryd.prog) W 53 _ Tryd.underlying53 ew (v := .agg (Value.int .i64 id :: .int .i64 base :: ptRow p).toArray) (by simp [Value.cells, hpn]) (by decide)
    have cC : ∀ W : World, Sl W a (qRow l) → Calls Tryd.prog 56 #[.slice a n cap] W (fun e w' => ∃ a9 c9, e = .returned (.slice a9 n c9) ∧ St W [] [Ch.row 74 28 (.slice a9 n c9) n (qRow l)] w') := fun W h => by
      have := clone_any l hl.out a n cap hn (by omega) W h hnil
      unfold WrRet at this
      rw [hn] at this
      exact this.mono fun e w' ⟨a9, c9, h1, _, _, h4⟩ => ⟨a9, c9, h1, h4⟩
    replace cC := Lib.hid cC
    replace hb1 := Lib.hid hb1
    replace hsW := Lib.hid hsW
    have hrl : (Value.int .i64 id :: .int .i64 base :: ptRow p).length = 1 * 28 := hwl
    replace hwo := Lib.hid hwo
    have hq1 : qRow (l ++ [⟨id, base, p⟩]) = qRow l ++ (Value.int .i64 id :: .int .i64 base :: ptRow p) := qRow_snoc l ⟨id, base, p⟩
    have hS := St.start W
    have kP := hS.koldrow (P := Tryd.prog) hrng (t := 29) (by kernel_rfl) (n := 26) (by kernel_rfl) hpn
    have k4 := hS.kold0 c4
    have k9 := hS.kold0 c9
    generalize hRW : (Value.int .i64 id :: .int .i64 base :: ptRow p) = RW at *
    generalize ptRow p = RP at *
    gi_wp2

    refine mixg_begin (by kernel_rfl) hS ?_
    clear hS
    intro w4 hS
    refine mixg_take 0 (v := ?_) rfl (by kernel_rfl) (fun _ _ _ h => h) (by kernel_rfl) (by assumption) (fun s => ?hy) ?_; case hy => (go_simp <;> with_reducible rfl)
    try simp only [List.getElem_toArray, List.getElem_cons_succ, List.getElem_cons_zero, Act.put, List.setIfInBounds_toArray, List.set_cons_zero, List.set_cons_succ]
    refine mixg_take 2 (v := ?_) rfl (by kernel_rfl) (fun _ _ _ h => h) (by kernel_rfl) (by assumption) (fun s => ?hy) ?_; case hy => (go_simp <;> with_reducible rfl)
    try simp only [List.getElem_toArray, List.getElem_cons_succ, List.getElem_cons_zero, Act.put, List.setIfInBounds_toArray, List.set_cons_zero, List.set_cons_succ]
    refine mixg_take 3 (v := ?_) rfl (by kernel_rfl) (fun _ _ _ h => h) (by kernel_rfl) (by assumption) (fun s => ?hy) ?_; case hy => (go_simp <;> with_reducible rfl)
    try simp only [List.getElem_toArray, List.getElem_cons_succ, List.getElem_cons_zero, Act.put, List.setIfInBounds_toArray, List.set_cons_zero, List.set_cons_succ]
    refine mixg_take 4 (v := ?_) rfl (by kernel_rfl) (fun _ _ _ h => h) (by kernel_rfl) (by assumption) (fun s => ?hy) ?_; case hy => (go_simp <;> with_reducible rfl)
    try simp only [List.getElem_toArray, List.getElem_cons_succ, List.getElem_cons_zero, Act.put, List.setIfInBounds_toArray, List.set_cons_zero, List.set_cons_succ]
    refine mixg_take 5 (v := ?_) rfl (by kernel_rfl) (fun _ _ _ h => h) (by kernel_rfl) (by assumption) (fun s => ?hy) ?_; case hy => (refine Eq.trans (take_loadrow s rfl rfl kP) ?_; with_reducible rfl)
    try simp only [List.getElem_toArray, List.getElem_cons_succ, List.getElem_cons_zero, Act.put, List.setIfInBounds_toArray, List.set_cons_zero, List.set_cons_succ]
    refine mixg_take 6 (v := ?_) rfl (by kernel_rfl) (fun _ _ _ h => h) (by kernel_rfl) (by assumption) (fun s => ?hy) ?_; case hy => (go_simp <;> with_reducible rfl)
    try simp only [List.getElem_toArray, List.getElem_cons_succ, List.getElem_cons_zero, Act.put, List.setIfInBounds_toArray, List.set_cons_zero, List.set_cons_succ]
    refine mixg_two 1 7 (by kernel_rfl) rfl rfl (fun K hK => ?_) (fun K hK => ?_)
    · go_simp
      (go_at_call 56; (with_reducible refine (cC.out _ (hS.sl hsW.out)).mono ?_); rintro _ w9 ⟨a9, c9, rfl, hk9⟩; have hS1 := hS.made hk9; clear hk9 hS; have hS := hS1; clear hS1; simp only [List.cons_append, List.nil_append] at hS)
      try clear hC
      refine hK.out _ _ _ (fun _ h => h) (by first | exact hS | exact hS.drop | exact hS.drop.drop | exact hS.drop.drop.drop | exact hS.drop.drop.drop.drop | exact hS.empty | exact hS.one 0 rfl | exact hS.one 1 rfl | exact hS.one 2 rfl | exact hS.one 3 rfl | exact hS.one 4 rfl | exact hS.one 5 rfl | exact hS.one 6 rfl | exact hS.one 7 rfl | exact hS.one 8 rfl | exact hS.one 9 rfl | exact hS.one 10 rfl | exact hS.one 11 rfl) (fun hC => ?_)
      clear hK K
      try simp only [List.getElem_toArray, List.getElem_cons_succ, List.getElem_cons_zero, Act.put, List.setIfInBounds_toArray, List.set_cons_zero, List.set_cons_succ]
      refine mixg_one 7 (by kernel_rfl) rfl (fun K hK => ?_)
      (with_reducible refine op_buildr_st (by kernel_rfl) hS hb1.out rfl rfl ?_; intro gs w1 hS1; clear hS; have hS := hS1; clear hS1)
      try clear hC
      refine hK.out _ _ _ (fun _ h => h) (by first | exact hS | exact hS.drop | exact hS.drop.drop | exact hS.drop.drop.drop | exact hS.drop.drop.drop.drop | exact hS.empty | exact hS.one 0 rfl | exact hS.one 1 rfl | exact hS.one 2 rfl | exact hS.one 3 rfl | exact hS.one 4 rfl | exact hS.one 5 rfl | exact hS.one 6 rfl | exact hS.one 7 rfl | exact hS.one 8 rfl | exact hS.one 9 rfl | exact hS.one 10 rfl | exact hS.one 11 rfl) (fun hC => ?_)
      clear hK K
      try simp only [List.getElem_toArray, List.getElem_cons_succ, List.getElem_cons_zero, Act.put, List.setIfInBounds_toArray, List.set_cons_zero, List.set_cons_succ]
      refine mixg_one 8 (by kernel_rfl) rfl (fun K hK => ?_)
      ((with_reducible refine op_app_st (by kernel_rfl) 1 hS rfl rfl Tryd.underlying53 ew rfl (Src.slice Tryd.underlying53 (hS.blksl2 0 rfl) hrl) rfl hwo.out (by omega) (by unfold maxLen; omega) ?_); intro v5 w3 hS1; clear hS; have hS := hS1; clear hS1; simp only [List.set_cons_zero, List.set_cons_succ] at hS; obtain ⟨a5, c5, rfl, -⟩ := hS.row 1 rfl)
      try clear hC
      refine hK.out _ _ _ (fun _ h => h) (by first | exact hS | exact hS.drop | exact hS.drop.drop | exact hS.drop.drop.drop | exact hS.drop.drop.drop.drop | exact hS.empty | exact hS.one 0 rfl | exact hS.one 1 rfl | exact hS.one 2 rfl | exact hS.one 3 rfl | exact hS.one 4 rfl | exact hS.one 5 rfl | exact hS.one 6 rfl | exact hS.one 7 rfl | exact hS.one 8 rfl | exact hS.one 9 rfl | exact hS.one 10 rfl | exact hS.one 11 rfl) (fun hC => ?_)
      clear hK K
      try simp only [List.getElem_toArray, List.getElem_cons_succ, List.getElem_cons_zero, Act.put, List.setIfInBounds_toArray, List.set_cons_zero, List.set_cons_succ]
      refine mixg_take 9 (v := ?_) rfl (by kernel_rfl) (fun _ _ _ h => h) (by kernel_rfl) (by assumption) (fun s => ?hy) ?_; case hy => (go_simp <;> with_reducible rfl)
      try simp only [List.getElem_toArray, List.getElem_cons_succ, List.getElem_cons_zero, Act.put, List.setIfInBounds_toArray, List.set_cons_zero, List.set_cons_succ]
      refine mixg_take 10 (v := ?_) rfl (by kernel_rfl) (fun _ _ _ h => h) (by kernel_rfl) (by assumption) (fun s => ?hy) ?_; case hy => (go_simp <;> with_reducible rfl)
      try simp only [List.getElem_toArray, List.getElem_cons_succ, List.getElem_cons_zero, Act.put, List.setIfInBounds_toArray, List.set_cons_zero, List.set_cons_succ]
      refine wpAnyG_done (by kernel_rfl) ?_ _
      have hR := hS.one 1 rfl
      clear hS hC
      gi_wp2
      obtain ⟨_, _, e2, -, -, h1, h2⟩ := hR.row 0 rfl
      cases e2
      have hK1 := (hR.fr.block D (Array.getElem?_eq_some_iff.1 hK).1 (by simp)).trans hK
      have hF := (hS3.made hR).one 0 rfl
      refine ⟨by simp, .inl ⟨_, _, rfl, run_takeDeferred hK1, ?_⟩⟩
      refine ⟨_, results_tmp2 rfl _ _ _, a5, c5, rfl, h1, h2, ?_⟩
      rw [hbe.out, hq1]
      exact hF.putObj (fun c hc => by simp at hc; subst hc; exact Ch.row_cellsy _ _ _ _ _) _ (Nat.le_trans hlow hD) hK1 rfl
    · (with_reducible refine op_buildr_st (by kernel_rfl) hS hb1.out rfl rfl ?_; intro gs w1 hS1; clear hS; have hS := hS1; clear hS1)
      try clear hC
      refine hK.out _ _ _ (fun _ h => h) (by first | exact hS | exact hS.drop | exact hS.drop.drop | exact hS.drop.drop.drop | exact hS.drop.drop.drop.drop | exact hS.empty | exact hS.one 0 rfl | exact hS.one 1 rfl | exact hS.one 2 rfl | exact hS.one 3 rfl | exact hS.one 4 rfl | exact hS.one 5 rfl | exact hS.one 6 rfl | exact hS.one 7 rfl | exact hS.one 8 rfl | exact hS.one 9 rfl | exact hS.one 10 rfl | exact hS.one 11 rfl) (fun hC => ?_)
      clear hK K
      try simp only [List.getElem_toArray, List.getElem_cons_succ, List.getElem_cons_zero, Act.put, List.setIfInBounds_toArray, List.set_cons_zero, List.set_cons_succ]
      refine mixg_one 1 (by kernel_rfl) rfl (fun K hK => ?_)
      go_simp
      (go_at_call 56; (with_reducible refine (cC.out _ (hS.sl hsW.out)).mono ?_); rintro _ w9 ⟨a9, c9, rfl, hk9⟩; have hS1 := hS.made hk9; clear hk9 hS; have hS := hS1; clear hS1; simp only [List.cons_append, List.nil_append] at hS)
      try clear hC
      refine hK.out _ _ _ (fun _ h => h) (by first | exact hS | exact hS.drop | exact hS.drop.drop | exact hS.drop.drop.drop | exact hS.drop.drop.drop.drop | exact hS.empty | exact hS.one 0 rfl | exact hS.one 1 rfl | exact hS.one 2 rfl | exact hS.one 3 rfl | exact hS.one 4 rfl | exact hS.one 5 rfl | exact hS.one 6 rfl | exact hS.one 7 rfl | exact hS.one 8 rfl | exact hS.one 9 rfl | exact hS.one 10 rfl | exact hS.one 11 rfl) (fun hC => ?_)
      clear hK K
      try simp only [List.getElem_toArray, List.getElem_cons_succ, List.getElem_cons_zero, Act.put, List.setIfInBounds_toArray, List.set_cons_zero, List.set_cons_succ]
      refine mixg_one 8 (by kernel_rfl) rfl (fun K hK => ?_)
      ((with_reducible refine op_app_st (by kernel_rfl) 0 hS rfl rfl Tryd.underlying53 ew rfl (Src.slice Tryd.underlying53 (hS.blksl2 1 rfl) hrl) rfl hwo.out (by omega) (by unfold maxLen; omega) ?_); intro v5 w3 hS1; clear hS; have hS := hS1; clear hS1; simp only [List.set_cons_zero, List.set_cons_succ] at hS; obtain ⟨a5, c5, rfl, -⟩ := hS.row 0 rfl)
      try clear hC
      refine hK.out _ _ _ (fun _ h => h) (by first | exact hS | exact hS.drop | exact hS.drop.drop | exact hS.drop.drop.drop | exact hS.drop.drop.drop.drop | exact hS.empty | exact hS.one 0 rfl | exact hS.one 1 rfl | exact hS.one 2 rfl | exact hS.one 3 rfl | exact hS.one 4 rfl | exact hS.one 5 rfl | exact hS.one 6 rfl | exact hS.one 7 rfl | exact hS.one 8 rfl | exact hS.one 9 rfl | exact hS.one 10 rfl | exact hS.one 11 rfl) (fun hC => ?_)
      clear hK K
      try simp only [List.getElem_toArray, List.getElem_cons_succ, List.getElem_cons_zero, Act.put, List.setIfInBounds_toArray, List.set_cons_zero, List.set_cons_succ]
      refine mixg_take 9 (v := ?_) rfl (by kernel_rfl) (fun _ _ _ h => h) (by kernel_rfl) (by assumption) (fun s => ?hy) ?_; case hy => (go_simp <;> with_reducible rfl)
      try simp only [List.getElem_toArray, List.getElem_cons_succ, List.getElem_cons_zero, Act.put, List.setIfInBounds_toArray, List.set_cons_zero, List.set_cons_succ]
      refine mixg_take 10 (v := ?_) rfl (by kernel_rfl) (fun _ _ _ h => h) (by kernel_rfl) (by assumption) (fun s => ?hy) ?_; case hy => (go_simp <;> with_reducible rfl)
      try simp only [List.getElem_toArray, List.getElem_cons_succ, List.getElem_cons_zero, Act.put, List.setIfInBounds_toArray, List.set_cons_zero, List.set_cons_succ]
      refine wpAnyG_done (by kernel_rfl) ?_ _
      have hR := hS.one 0 rfl
      clear hS hC
      gi_wp2
      obtain ⟨_, _, e2, -, -, h1, h2⟩ := hR.row 0 rfl
      cases e2
      have hK1 := (hR.fr.block D (Array.getElem?_eq_some_iff.1 hK).1 (by simp)).trans hK
      have hF := (hS3.made hR).one 0 rfl
      refine ⟨by simp, .inl ⟨_, _, rfl, run_takeDeferred hK1, ?_⟩⟩
      refine ⟨_, results_tmp2 rfl _ _ _, a5, c5, rfl, h1, h2, ?_⟩
      rw [hbe.out, hq1]
      exact hF.putObj (fun c hc => by simp at hc; subst hc; exact Ch.row_cellsy _ _ _ _ _) _ (Nat.le_trans hlow hD) hK1 rfl
end Go.Proofs.YtplgpbbghhlbjaaDoor
end

section
/- A write put behind all: the other cases. -/
set_option linter.unusedSimpArgs false
set_option linter.unusedVariables false
namespace Go.Ofp
def pushQ (l : List Wr) (c : Cd) (p : Pt) : List Wr × Int :=
  if p.check ≠ 0 then ([], p.check) else if 12 ≤ l.length then ([], 8) else (l ++ [⟨c.id, nextBase c.ver (ofId l c.id), p⟩], 0)
end Go.Ofp
namespace Go.Proofs.YtplgpbbghhlbjaaDoor
open Go.RowKit Go.Ofp
set_option linter.unusedVariables false
set_option maxRecDepth 100000
set_option maxHeartbeats 4000000

theorem push_bad (c : Cd) (hc : c.f.length = 8) (p : Pt) (hpf : p.f.length = 8) (hpm : p.mask < 4294967296) (hpl : p.lab < 4294967296) (hck : p.check ≠ 0) (a : Option Addr) (n cap : Nat) (w : World) :
    Calls Tryd.prog 32 #[.slice a n cap, .agg (cdRow c).toArray, .agg (ptRow p).toArray] w fun e w' => e = .returned (.tuple #[.slice none 0 0, .int .i64 p.check]) ∧ Below w.heap.size w w' := by
  have hS := St.start w
  have cK := fun W : World => cp_any p hpf hpm hpl W
  have hnz : (p.check != 0) = true := by rw [bne_iff_ne]; exact hck
  generalize p.check = ch at *
  replace cK := Lib.hid cK
  have hpn : (ptRow p).length = 26 := by simp [ptRow, flRow_length, hpf]
  have hps : sizeB Tryd.prog 29 (ptRow p).toArray.size = true := by rw [List.size_toArray, hpn]; kernel_rfl
  clear hck
  refine (callsIn_wide (n := 10)).1 ?_
  refine callsIn_of_wp_marks Tryd.func32 rfl trivial ?_ rfl
  simp only [Tryd.ntmps32, List.size_toArray, List.length_cons, List.length_nil, Nat.reduceAdd, Nat.reduceSub, Array.replicate_succ, Array.replicate_zero, List.push_toArray, List.append_toArray, List.nil_append, List.cons_append]
  gi_wp2_with (first
    | (refine ⟨trivial, ?_⟩; gi_at_call 27; refine (callsIn_wide.2 (cK.out _)).mono ?_; rintro _ w9 ⟨rfl, hk9⟩; have hS1 := hS.keepB hk9; clear hk9 hS; have hS := hS1; clear hS1)
    | (with_reducible refine wpListIn_box_st (L := []) hS rfl rfl rfl ?_; intro b4 w1 _ hS1; clear hS; have hS := hS1; clear hS1)
    | (with_reducible refine wpListIn_box_st (L := [_]) hS rfl rfl rfl ?_; intro b5 w1 _ hS1; clear hS; have hS := hS1; clear hS1)
    | ((with_reducible refine wpListIn_loadall_st 0 hS rfl rfl rfl rfl ?_ hps ?_); focus (simp [rowB, go_sem]; done)))
  exact ⟨_, results_tmp2 rfl _ _ _, rfl, hS.below⟩

theorem push_full (c : Cd) (hc : c.f.length = 8) (p : Pt) (hpf : p.f.length = 8) (hpm : p.mask < 4294967296) (hpl : p.lab < 4294967296) (hck : p.check = 0) (a : Option Addr) (n cap : Nat) (hn : 12 ≤ n) (w : World) :
    Calls Tryd.prog 32 #[.slice a n cap, .agg (cdRow c).toArray, .agg (ptRow p).toArray] w fun e w' => e = .returned (.tuple #[.slice none 0 0, .int .i64 8]) ∧ Below w.heap.size w w' := by
  have hS := St.start w
  have cK := fun W : World => cp_any p hpf hpm hpl W
  rw [hck] at cK
  replace cK := Lib.hid cK
  have d12 : decide ((12 : Int) ≤ (n : Int)) = true := decide_eq_true (by omega)
  have hpn : (ptRow p).length = 26 := by simp [ptRow, flRow_length, hpf]
  have hps : sizeB Tryd.prog 29 (ptRow p).toArray.size = true := by rw [List.size_toArray, hpn]; kernel_rfl
  clear hck
  refine (callsIn_wide (n := 10)).1 ?_
  refine callsIn_of_wp_marks Tryd.func32 rfl trivial ?_ rfl
  simp only [Tryd.ntmps32, List.size_toArray, List.length_cons, List.length_nil, Nat.reduceAdd, Nat.reduceSub, Array.replicate_succ, Array.replicate_zero, List.push_toArray, List.append_toArray, List.nil_append, List.cons_append]
  gi_wp2_with (first
    | (refine ⟨trivial, ?_⟩; gi_at_call 27; refine (callsIn_wide.2 (cK.out _)).mono ?_; rintro _ w9 ⟨rfl, hk9⟩; have hS1 := hS.keepB hk9; clear hk9 hS; have hS := hS1; clear hS1)
    | (with_reducible refine wpListIn_box_st (L := []) hS rfl rfl rfl ?_; intro b4 w1 _ hS1; clear hS; have hS := hS1; clear hS1)
    | (with_reducible refine wpListIn_box_st (L := [_]) hS rfl rfl rfl ?_; intro b5 w1 _ hS1; clear hS; have hS := hS1; clear hS1)
    | ((with_reducible refine wpListIn_loadall_st 0 hS rfl rfl rfl rfl ?_ hps ?_); focus (simp [rowB, go_sem]; done)))
  exact ⟨_, results_tmp2 rfl _ _ _, rfl, hS.below⟩
/-- A slice of writes that came back: in old memory. -/
def SlQ (w' : World) (a : Option Addr) (c : Nat) (l : List Wr) : Prop := Sl w' a (qRow l) ∧ (a = none → l.length = 0 ∧ c = 0) ∧ l.length ≤ c ∧ c ≤ maxLen
theorem SlQ.below {w w' : World} {a : Option Addr} {c : Nat} {l : List Wr} (h : SlQ w a c l) (hb : Below w.heap.size w w') : SlQ w' a c l := ⟨h.1.below hb, h.2⟩
theorem SlQ.none (w : World) : SlQ w none 0 [] := ⟨Sl.nil _ _, fun _ => ⟨rfl, rfl⟩, Nat.le_refl _, Nat.zero_le _⟩
theorem SlQ.row {w0 w : World} {F : List Nat} {L : List Ch} {T : TypeId} {a : Option Addr} {n c : Nat} {l : List Wr} (hS : St w0 F L w) (i : Nat) (hn : l.length = n) (hi : L[i]? = some (Ch.row T 28 (.slice a n c) n (qRow l))) : SlQ w a c l := by
  obtain ⟨_, _, e9, -, -, h8, h9⟩ := hS.row i hi
  cases e9
  refine ⟨hS.rowsl i hi, fun ha => ?_, by omega, h9⟩
  subst ha
  obtain ⟨_, h2⟩ := hS.get i hi
  rcases h2 with ⟨h3, h4⟩ | ⟨g, cap, cur, h3, _⟩
  · cases h3
    exact ⟨hn, rfl⟩
  · cases h3
theorem push_any (c : Cd) (hc : c.f.length = 8) (p : Pt) (hpf : p.f.length = 8) (hpm : p.mask < 4294967296) (hpl : p.lab < 4294967296) (l : List Wr) (hl : ∀ q ∈ l, q.p.f.length = 8) (hlb : ∀ q ∈ l, -4611686018427387904 ≤ q.base ∧ q.base ≤ 4611686018427387904) (a : Option Addr) (n cap : Nat) (hn : l.length = n) (w : World) (hs : SlQ w a cap l) :
    Calls Tryd.prog 32 #[.slice a n cap, .agg (cdRow c).toArray, .agg (ptRow p).toArray] w fun e w' => ∃ a' c', e = .returned (.tuple #[.slice a' (pushQ l c p).1.length c', .int .i64 (pushQ l c p).2]) ∧ SlQ w' a' c' (pushQ l c p).1 ∧ Below w.heap.size w w' := by
  unfold pushQ
  by_cases hck : p.check = 0
  · rw [if_neg (by simpa using hck)]
    by_cases h12 : 12 ≤ l.length
    · rw [if_pos h12]
      exact (push_full c hc p hpf hpm hpl hck a n cap (by omega) w).mono fun e w' ⟨h1, h2⟩ => ⟨none, 0, h1, SlQ.none _, h2⟩
    · rw [if_neg h12]
      refine (push_main c hc p hpf hpm hpl hck l hl hlb a n cap hn (by omega) (fun ha => by have := hs.2.1 ha; omega) w hs.1).mono ?_
      rintro e w' ⟨a', c', h1, -, -, h4⟩
      have hlen : (l ++ [(⟨c.id, nextBase c.ver (ofId l c.id), p⟩ : Wr)]).length = n + 1 := by simp [hn]
      refine ⟨a', c', ?_, SlQ.row h4 0 hlen rfl, h4.below⟩
      rw [hlen]
      exact h1
  · rw [if_pos hck]
    exact (push_bad c hc p hpf hpm hpl hck a n cap w).mono fun e w' ⟨h1, h2⟩ => ⟨none, 0, h1, SlQ.none _, h2⟩
end Go.Proofs.YtplgpbbghhlbjaaDoor
end

section
/- Queues that are the same. -/
set_option linter.unusedSimpArgs false
set_option linter.unusedVariables false
namespace Go.Proofs.YtplgpbbghhlbjaaDoor
open Go.RowKit Go.Ofp
set_option linter.unusedVariables false
set_option maxRecDepth 100000
set_option maxHeartbeats 4000000

theorem eq_wr (d : Nat) (p q : Wr) (hf : p.p.f.length = 8) (hg : q.p.f.length = 8) (w : World) : (Op.equalIn (d + 5) 74 (.agg (wrRow p).toArray) (.agg (wrRow q).toArray)).run Tryd.prog w = .ok (decide (p = q)) w := by
  have hp : Tryd.prog.stoodInHeld 74 = false := by kernel_rfl
  have hff := fields_of Tryd.underlying74
  have hu : Tryd.prog.underlying 74 = some (.struct (Tryd.prog.fieldsOf 74)) := by rw [hff, Tryd.underlying74]
  rw [run_equalIn_struct w (d + 4) _ _ _ hu hp, hff]
  obtain ⟨a, b, f⟩ := p
  obtain ⟨a', b', g⟩ := q
  simp only at hf hg
  have e3 := eq_pt d f g hf hg w
  have h3 := Tryd.underlying3
  have e1 : ∀ x y : Int, (Op.equalIn (d + 4) 3 (.int .i64 x) (.int .i64 y)).run Tryd.prog w = .ok (x == y) w := fun x y => by simp [Op.equalIn, run_underlying h3]
  have pa : ∀ (x y : Int) (R : List Value), (part 3 (Value.int .i64 x :: .int .i64 y :: R).toArray 0).run Tryd.prog w = .ok (.int .i64 x) w := fun x y R => by go_simp
  have pb : ∀ (x y : Int) (R : List Value), (part 3 (Value.int .i64 x :: .int .i64 y :: R).toArray 1).run Tryd.prog w = .ok (.int .i64 y) w := fun x y R => by go_simp
  have pc : ∀ (x y : Int) (f : Pt), f.f.length = 8 → (part 29 (Value.int .i64 x :: .int .i64 y :: ptRow f).toArray 2).run Tryd.prog w = .ok (.agg (ptRow f).toArray) w := fun x y f hf => by
    have := run_part_row (P := Tryd.prog) (t := 29) (n := 26) (by kernel_rfl) (by kernel_rfl) (Value.int .i64 x :: .int .i64 y :: ptRow f).toArray 2 w
    rw [extract_list, List.drop_succ_cons, List.drop_succ_cons, List.drop_zero, List.take_of_length_le (by simp [ptRow, flRow_length, hf])] at this
    exact this
  simp only [wrRow]
  have pf := pc a b f hf
  have pg := pc a' b' g hg
  generalize ptRow f = RF at *
  generalize ptRow g = RG at *
  simp only [Op.eqFields, ne_eq, String.reduceEq, not_false_eq_true, if_true, Sem.run_bind, pa, pb, pf, pg, e1, e3, Result.andThen_ok]
  by_cases k2 : a = a'
  · subst k2
    by_cases k3 : b = b'
    · subst k3
      by_cases k4 : f = g <;> simp [pb, e1, pf, pg, e3, k4]
    · simp [pb, e1, k3]
  · simp [k2]
theorem neq_wr (p q : Wr) (hf : p.p.f.length = 8) (hg : q.p.f.length = 8) (w : World) : (binOp .neq 74 (.agg (wrRow p).toArray) (.agg (wrRow q).toArray)).run Tryd.prog w = .ok (.bool (!decide (p = q))) w := by
  rw [run_neq_struct, eq_wr 9995 p q hf hg w]
  rfl
theorem guard_wr (op : BinOp) (x y : Operand) (xs ys : Array Value) (w : World) : (eqGuard op 74 x y (.agg xs) (.agg ys)).run Tryd.prog w = .ok () w :=
  run_eqGuard_agg w op _ x y xs ys (by kernel_rfl)
theorem eq_wrR (d : Nat) (p q : Wr) (hf : p.p.f.length = 8) (hg : q.p.f.length = 8) (w : World) : (Op.equalIn (d + 5) 89 (.agg (wrRow p).toArray) (.agg (wrRow q).toArray)).run Tryd.prog w = .ok (decide (p = q)) w := by
  have hp : Tryd.prog.stoodInHeld 89 = false := by kernel_rfl
  have hff := fields_of Tryd.underlying89
  have hu : Tryd.prog.underlying 89 = some (.struct (Tryd.prog.fieldsOf 89)) := by rw [hff, Tryd.underlying89]
  rw [run_equalIn_struct w (d + 4) _ _ _ hu hp, hff]
  obtain ⟨a, b, f⟩ := p
  obtain ⟨a', b', g⟩ := q
  simp only at hf hg
  have e3 := eq_pt d f g hf hg w
  have h3 := Tryd.underlying3
  have e1 : ∀ x y : Int, (Op.equalIn (d + 4) 3 (.int .i64 x) (.int .i64 y)).run Tryd.prog w = .ok (x == y) w := fun x y => by simp [Op.equalIn, run_underlying h3]
  have pa : ∀ (x y : Int) (R : List Value), (part 3 (Value.int .i64 x :: .int .i64 y :: R).toArray 0).run Tryd.prog w = .ok (.int .i64 x) w := fun x y R => by go_simp
  have pb : ∀ (x y : Int) (R : List Value), (part 3 (Value.int .i64 x :: .int .i64 y :: R).toArray 1).run Tryd.prog w = .ok (.int .i64 y) w := fun x y R => by go_simp
  have pc : ∀ (x y : Int) (f : Pt), f.f.length = 8 → (part 29 (Value.int .i64 x :: .int .i64 y :: ptRow f).toArray 2).run Tryd.prog w = .ok (.agg (ptRow f).toArray) w := fun x y f hf => by
    have := run_part_row (P := Tryd.prog) (t := 29) (n := 26) (by kernel_rfl) (by kernel_rfl) (Value.int .i64 x :: .int .i64 y :: ptRow f).toArray 2 w
    rw [extract_list, List.drop_succ_cons, List.drop_succ_cons, List.drop_zero, List.take_of_length_le (by simp [ptRow, flRow_length, hf])] at this
    exact this
  simp only [wrRow]
  have pf := pc a b f hf
  have pg := pc a' b' g hg
  generalize ptRow f = RF at *
  generalize ptRow g = RG at *
  simp only [Op.eqFields, ne_eq, String.reduceEq, not_false_eq_true, if_true, Sem.run_bind, pa, pb, pf, pg, e1, e3, Result.andThen_ok]
  by_cases k2 : a = a'
  · subst k2
    by_cases k3 : b = b'
    · subst k3
      by_cases k4 : f = g <;> simp [pb, e1, pf, pg, e3, k4]
    · simp [pb, e1, k3]
  · simp [k2]
theorem neq_wrR (p q : Wr) (hf : p.p.f.length = 8) (hg : q.p.f.length = 8) (w : World) : (binOp .neq 89 (.agg (wrRow p).toArray) (.agg (wrRow q).toArray)).run Tryd.prog w = .ok (.bool (!decide (p = q))) w := by
  rw [run_neq_struct, eq_wrR 9995 p q hf hg w]
  rfl
theorem guard_wrR (op : BinOp) (x y : Operand) (xs ys : Array Value) (w : World) : (eqGuard op 89 x y (.agg xs) (.agg ys)).run Tryd.prog w = .ok () w :=
  run_eqGuard_agg w op _ x y xs ys (by kernel_rfl)
theorem rsame_any (a b : Option Addr) (l m : List Wr) (hl : ∀ q ∈ l, q.p.f.length = 8) (hm : ∀ q ∈ m, q.p.f.length = 8) (n k ca cb : Nat) (hn : l.length = n) (hk : m.length = k) (hn1 : n ≤ 1000) (w : World) (hs : Sl w a (qRow l)) (ht : Sl w b (qRow m)) :
    Calls Tryd.prog 34 #[.slice a n ca, .slice b k cb] w fun e w' => e = .returned (.bool (decide (l = m))) ∧ Below w.heap.size w w' := by
  have hS := St.start w
  generalize hR : decide (l = m) = R
  by_cases hnm : n = k
  · subst hnm
    replace hR := Lib.hid hR
    replace hs := Lib.hid hs
    replace ht := Lib.hid ht
    replace hl := Lib.hid hl
    replace hm := Lib.hid hm
    replace hn := Lib.hid hn
    replace hk := Lib.hid hk
    have hG := guard_wrR
    go_enter Tryd.func34, Tryd.ntmps34
    go_wp2_with fail
    go_loopg [5] n (fun gk vx wr => ∃ k : Nat, k + gk = n ∧ vx = .int .i64 k ∧ Hid (l.take k = m.take k) ∧ St w [] [] wr)
    case atStart => exact ⟨0, Nat.zero_add _, rfl, Lib.hid rfl, hS⟩
    case round =>
      clear hS
      obtain ⟨k, hkn, rfl, hr, hS⟩ := hrel
      by_cases hlt : k < n
      · have hkA : k < l.length := by rw [hn.out]; exact hlt
        have hkB : k < m.length := by rw [hk.out]; exact hlt
        have q1 := qRow_at l hl.out k hkA
        have q2 := qRow_at m hm.out k hkB
        have fa := hl.out _ (List.getElem_mem hkA)
        have fb := hm.out _ (List.getElem_mem hkB)
        have hE := fun W : World => neq_wrR l[k] m[k] fa fb W
        have ra := wrRow_len _ fa
        have rb := wrRow_len _ fb
        obtain ⟨g1, o1, ha⟩ := Sl.cells hs.out (by intro e; have := congrArg List.length e; rw [qRow_len l hl.out] at this; simp at this; omega)
        obtain ⟨g2, o2, hb⟩ := Sl.cells ht.out (by intro e; have := congrArg List.length e; rw [qRow_len m hm.out] at this; simp at this; omega)
        subst ha
        subst hb
        have hnx : l[k] = m[k] → l.take (k + 1) = m.take (k + 1) := by
          intro e
          rw [List.take_succ_eq_append_getElem hkA, List.take_succ_eq_append_getElem hkB, hr.out, e]
        have hno : l[k] ≠ m[k] → decide (l = m) = false := by
          intro e
          refine decide_eq_false fun e2 => e ?_
          subst e2
          rfl
        have hS2 := St.start wr
        have kA := hS2.koldrow (P := Tryd.prog) (sl_range (hS.sl hs.out) q1) (t := 89) (by kernel_rfl) (n := 28) (by kernel_rfl) ra
        have kB := hS2.koldrow (P := Tryd.prog) (sl_range (hS.sl ht.out) q2) (t := 89) (by kernel_rfl) (n := 28) (by kernel_rfl) rb
        have hbw := Lib.hid hS.below
        clear hS
        have hS := hS2
        clear hS2
        by_cases he : l[k] = m[k]
        · rw [decide_eq_true he] at hE
          replace hnx := Lib.hid (hnx he)
          clear hno he q1 q2
          generalize wrRow l[k] = RA at *
          generalize wrRow m[k] = RB at *
          go_wp2_with fail
          refine mixs_begin (by kernel_rfl) hS ?_
          clear hS
          intro w2 hS
          refine mixs_take 0 (v := ?_) rfl (by kernel_rfl) (fun _ _ _ h => h) (by kernel_rfl) (by assumption) (fun s => ?hy) ?_; case hy => (go_simp <;> with_reducible rfl)
          try simp only [List.getElem_toArray, List.getElem_cons_succ, List.getElem_cons_zero, Act.put, List.setIfInBounds_toArray, List.set_cons_zero, List.set_cons_succ]
          refine mixs_take 1 (v := ?_) rfl (by kernel_rfl) (fun _ _ _ h => h) (by kernel_rfl) (by assumption) (fun s => ?hy) ?_; case hy => (go_simp <;> with_reducible rfl)
          try simp only [List.getElem_toArray, List.getElem_cons_succ, List.getElem_cons_zero, Act.put, List.setIfInBounds_toArray, List.set_cons_zero, List.set_cons_succ]
          refine mixs_take 2 (v := ?_) rfl (by kernel_rfl) (fun _ _ _ h => h) (by kernel_rfl) (by assumption) (fun s => ?hy) ?_; case hy => (go_simp <;> with_reducible rfl)
          try simp only [List.getElem_toArray, List.getElem_cons_succ, List.getElem_cons_zero, Act.put, List.setIfInBounds_toArray, List.set_cons_zero, List.set_cons_succ]
          refine mixs_take 3 (v := ?_) rfl (by kernel_rfl) (fun _ _ _ h => h) (by kernel_rfl) (by assumption) (fun s => ?hy) ?_; case hy => (refine Eq.trans (take_loadrow s rfl rfl kA) ?_; with_reducible rfl)
          try simp only [List.getElem_toArray, List.getElem_cons_succ, List.getElem_cons_zero, Act.put, List.setIfInBounds_toArray, List.set_cons_zero, List.set_cons_succ]
          refine mixs_take 4 (v := ?_) rfl (by kernel_rfl) (fun _ _ _ h => h) (by kernel_rfl) (by assumption) (fun s => ?hy) ?_; case hy => (go_simp <;> with_reducible rfl)
          try simp only [List.getElem_toArray, List.getElem_cons_succ, List.getElem_cons_zero, Act.put, List.setIfInBounds_toArray, List.set_cons_zero, List.set_cons_succ]
          refine mixs_take 5 (v := ?_) rfl (by kernel_rfl) (fun _ _ _ h => h) (by kernel_rfl) (by assumption) (fun s => ?hy) ?_; case hy => (go_simp <;> with_reducible rfl)
          try simp only [List.getElem_toArray, List.getElem_cons_succ, List.getElem_cons_zero, Act.put, List.setIfInBounds_toArray, List.set_cons_zero, List.set_cons_succ]
          refine mixs_take 6 (v := ?_) rfl (by kernel_rfl) (fun _ _ _ h => h) (by kernel_rfl) (by assumption) (fun s => ?hy) ?_; case hy => (go_simp <;> with_reducible rfl)
          try simp only [List.getElem_toArray, List.getElem_cons_succ, List.getElem_cons_zero, Act.put, List.setIfInBounds_toArray, List.set_cons_zero, List.set_cons_succ]
          refine mixs_take 7 (v := ?_) rfl (by kernel_rfl) (fun _ _ _ h => h) (by kernel_rfl) (by assumption) (fun s => ?hy) ?_; case hy => (refine Eq.trans (take_loadrow s rfl rfl kB) ?_; with_reducible rfl)
          try simp only [List.getElem_toArray, List.getElem_cons_succ, List.getElem_cons_zero, Act.put, List.setIfInBounds_toArray, List.set_cons_zero, List.set_cons_succ]
          refine mixs_take 8 (v := ?_) rfl (by kernel_rfl) (fun _ _ _ h => h) (by kernel_rfl) (by assumption) (fun s => ?hy) ?_; case hy => (go_simp <;> with_reducible rfl)
          try simp only [List.getElem_toArray, List.getElem_cons_succ, List.getElem_cons_zero, Act.put, List.setIfInBounds_toArray, List.set_cons_zero, List.set_cons_succ]
          refine wpAnyH_done (by kernel_rfl) ?_ _
          clear kA kB
          go_wp2_with fail
          go_roundg (n - (k + 1))
          case measure => omega
          case rel => exact ⟨k + 1, by omega, by go_num, hnx, ⟨Fr.of_below (hbw.out.trans (hS.below.mono hbw.out.size)), by simp, by simp⟩⟩
        · rw [decide_eq_false he] at hE
          obtain rfl : R = false := hR.out.symm.trans (hno he)
          clear hnx he q1 q2
          generalize wrRow l[k] = RA at *
          generalize wrRow m[k] = RB at *
          go_wp2_with fail
          refine mixs_begin (by kernel_rfl) hS ?_
          clear hS
          intro w2 hS
          refine mixs_take 0 (v := ?_) rfl (by kernel_rfl) (fun _ _ _ h => h) (by kernel_rfl) (by assumption) (fun s => ?hy) ?_; case hy => (go_simp <;> with_reducible rfl)
          try simp only [List.getElem_toArray, List.getElem_cons_succ, List.getElem_cons_zero, Act.put, List.setIfInBounds_toArray, List.set_cons_zero, List.set_cons_succ]
          refine mixs_take 1 (v := ?_) rfl (by kernel_rfl) (fun _ _ _ h => h) (by kernel_rfl) (by assumption) (fun s => ?hy) ?_; case hy => (go_simp <;> with_reducible rfl)
          try simp only [List.getElem_toArray, List.getElem_cons_succ, List.getElem_cons_zero, Act.put, List.setIfInBounds_toArray, List.set_cons_zero, List.set_cons_succ]
          refine mixs_take 2 (v := ?_) rfl (by kernel_rfl) (fun _ _ _ h => h) (by kernel_rfl) (by assumption) (fun s => ?hy) ?_; case hy => (go_simp <;> with_reducible rfl)
          try simp only [List.getElem_toArray, List.getElem_cons_succ, List.getElem_cons_zero, Act.put, List.setIfInBounds_toArray, List.set_cons_zero, List.set_cons_succ]
          refine mixs_take 3 (v := ?_) rfl (by kernel_rfl) (fun _ _ _ h => h) (by kernel_rfl) (by assumption) (fun s => ?hy) ?_; case hy => (refine Eq.trans (take_loadrow s rfl rfl kA) ?_; with_reducible rfl)
          try simp only [List.getElem_toArray, List.getElem_cons_succ, List.getElem_cons_zero, Act.put, List.setIfInBounds_toArray, List.set_cons_zero, List.set_cons_succ]
          refine mixs_take 4 (v := ?_) rfl (by kernel_rfl) (fun _ _ _ h => h) (by kernel_rfl) (by assumption) (fun s => ?hy) ?_; case hy => (go_simp <;> with_reducible rfl)
          try simp only [List.getElem_toArray, List.getElem_cons_succ, List.getElem_cons_zero, Act.put, List.setIfInBounds_toArray, List.set_cons_zero, List.set_cons_succ]
          refine mixs_take 5 (v := ?_) rfl (by kernel_rfl) (fun _ _ _ h => h) (by kernel_rfl) (by assumption) (fun s => ?hy) ?_; case hy => (go_simp <;> with_reducible rfl)
          try simp only [List.getElem_toArray, List.getElem_cons_succ, List.getElem_cons_zero, Act.put, List.setIfInBounds_toArray, List.set_cons_zero, List.set_cons_succ]
          refine mixs_take 6 (v := ?_) rfl (by kernel_rfl) (fun _ _ _ h => h) (by kernel_rfl) (by assumption) (fun s => ?hy) ?_; case hy => (go_simp <;> with_reducible rfl)
          try simp only [List.getElem_toArray, List.getElem_cons_succ, List.getElem_cons_zero, Act.put, List.setIfInBounds_toArray, List.set_cons_zero, List.set_cons_succ]
          refine mixs_take 7 (v := ?_) rfl (by kernel_rfl) (fun _ _ _ h => h) (by kernel_rfl) (by assumption) (fun s => ?hy) ?_; case hy => (refine Eq.trans (take_loadrow s rfl rfl kB) ?_; with_reducible rfl)
          try simp only [List.getElem_toArray, List.getElem_cons_succ, List.getElem_cons_zero, Act.put, List.setIfInBounds_toArray, List.set_cons_zero, List.set_cons_succ]
          refine mixs_take 8 (v := ?_) rfl (by kernel_rfl) (fun _ _ _ h => h) (by kernel_rfl) (by assumption) (fun s => ?hy) ?_; case hy => (go_simp <;> with_reducible rfl)
          try simp only [List.getElem_toArray, List.getElem_cons_succ, List.getElem_cons_zero, Act.put, List.setIfInBounds_toArray, List.set_cons_zero, List.set_cons_succ]
          refine wpAnyH_done (by kernel_rfl) ?_ _
          clear kA kB
          go_wp2_with fail
          go_ret
          exact ⟨rfl, hbw.out.trans (hS.below.mono hbw.out.size)⟩
      · obtain rfl : k = n := by omega
        have hr2 := hr.out
        rw [List.take_of_length_le (by rw [hn.out]; exact Nat.le_refl _), List.take_of_length_le (by rw [hk.out]; exact Nat.le_refl _)] at hr2
        obtain rfl : R = true := hR.out.symm.trans (decide_eq_true hr2)
        go_wp2_with fail
        go_ret
        exact ⟨rfl, hS.below⟩
  · have d1 : R = false := hR.symm.trans (decide_eq_false fun e => hnm (by rw [← hn, ← hk, e]))
    subst d1
    go_enter Tryd.func34, Tryd.ntmps34
    go_wp2_with fail
    go_ret
    exact ⟨rfl, hS.below⟩
end Go.Proofs.YtplgpbbghhlbjaaDoor
end

section
/- Queues that are the same: the program. -/
set_option linter.unusedSimpArgs false
set_option linter.unusedVariables false
namespace Go.Proofs.YtplgpbbghhlbjaaDoor
open Go.RowKit Go.Ofp
set_option linter.unusedVariables false
set_option maxRecDepth 100000
set_option maxHeartbeats 4000000

theorem equal_any (a b : Option Addr) (l m : List Wr) (hl : ∀ q ∈ l, q.p.f.length = 8) (hm : ∀ q ∈ m, q.p.f.length = 8) (n k ca cb : Nat) (hn : l.length = n) (hk : m.length = k) (hn1 : n ≤ 1000) (w : World) (hs : Sl w a (qRow l)) (ht : Sl w b (qRow m)) :
    Calls Tryd.prog 60 #[.slice a n ca, .slice b k cb] w fun e w' => e = .returned (.bool (decide (l = m))) ∧ Below w.heap.size w w' := by
  have hS := St.start w
  generalize hR : decide (l = m) = R
  by_cases hnm : n = k
  · subst hnm
    replace hR := Lib.hid hR
    replace hs := Lib.hid hs
    replace ht := Lib.hid ht
    replace hl := Lib.hid hl
    replace hm := Lib.hid hm
    replace hn := Lib.hid hn
    replace hk := Lib.hid hk
    have hG := guard_wr
    go_enter Tryd.func60, Tryd.ntmps60
    go_wp2_with fail
    go_loopg [13] n (fun gk vx wr => ∃ k : Nat, k + gk = n ∧ vx = .int .i64 k ∧ Hid (l.take k = m.take k) ∧ St w [] [] wr)
    case atStart => exact ⟨0, Nat.zero_add _, rfl, Lib.hid rfl, hS⟩
    case round =>
      clear hS
      obtain ⟨k, hkn, rfl, hr, hS⟩ := hrel
      by_cases hlt : k < n
      · have hkA : k < l.length := by rw [hn.out]; exact hlt
        have hkB : k < m.length := by rw [hk.out]; exact hlt
        have q1 := qRow_at l hl.out k hkA
        have q2 := qRow_at m hm.out k hkB
        have fa := hl.out _ (List.getElem_mem hkA)
        have fb := hm.out _ (List.getElem_mem hkB)
        have hE := fun W : World => neq_wr l[k] m[k] fa fb W
        have ra := wrRow_len _ fa
        have rb := wrRow_len _ fb
        obtain ⟨g1, o1, ha⟩ := Sl.cells hs.out (by intro e; have := congrArg List.length e; rw [qRow_len l hl.out] at this; simp at this; omega)
        obtain ⟨g2, o2, hb⟩ := Sl.cells ht.out (by intro e; have := congrArg List.length e; rw [qRow_len m hm.out] at this; simp at this; omega)
        subst ha
        subst hb
        have hnx : l[k] = m[k] → l.take (k + 1) = m.take (k + 1) := by
          intro e
          rw [List.take_succ_eq_append_getElem hkA, List.take_succ_eq_append_getElem hkB, hr.out, e]
        have hno : l[k] ≠ m[k] → decide (l = m) = false := by
          intro e
          refine decide_eq_false fun e2 => e ?_
          subst e2
          rfl
        have hS2 := St.start wr
        have kA := hS2.koldrow (P := Tryd.prog) (sl_range (hS.sl hs.out) q1) (t := 74) (by kernel_rfl) (n := 28) (by kernel_rfl) ra
        have kB := hS2.koldrow (P := Tryd.prog) (sl_range (hS.sl ht.out) q2) (t := 74) (by kernel_rfl) (n := 28) (by kernel_rfl) rb
        have hbw := Lib.hid hS.below
        clear hS
        have hS := hS2
        clear hS2
        by_cases he : l[k] = m[k]
        · rw [decide_eq_true he] at hE
          replace hnx := Lib.hid (hnx he)
          clear hno he q1 q2
          generalize wrRow l[k] = RA at *
          generalize wrRow m[k] = RB at *
          go_wp2_with fail
          refine mixs_begin (by kernel_rfl) hS ?_
          clear hS
          intro w2 hS
          refine mixs_take 0 (v := ?_) rfl (by kernel_rfl) (fun _ _ _ h => h) (by kernel_rfl) (by assumption) (fun s => ?hy) ?_; case hy => (go_simp <;> with_reducible rfl)
          try simp only [List.getElem_toArray, List.getElem_cons_succ, List.getElem_cons_zero, Act.put, List.setIfInBounds_toArray, List.set_cons_zero, List.set_cons_succ]
          refine mixs_take 1 (v := ?_) rfl (by kernel_rfl) (fun _ _ _ h => h) (by kernel_rfl) (by assumption) (fun s => ?hy) ?_; case hy => (go_simp <;> with_reducible rfl)
          try simp only [List.getElem_toArray, List.getElem_cons_succ, List.getElem_cons_zero, Act.put, List.setIfInBounds_toArray, List.set_cons_zero, List.set_cons_succ]
          refine mixs_take 2 (v := ?_) rfl (by kernel_rfl) (fun _ _ _ h => h) (by kernel_rfl) (by assumption) (fun s => ?hy) ?_; case hy => (go_simp <;> with_reducible rfl)
          try simp only [List.getElem_toArray, List.getElem_cons_succ, List.getElem_cons_zero, Act.put, List.setIfInBounds_toArray, List.set_cons_zero, List.set_cons_succ]
          refine mixs_take 3 (v := ?_) rfl (by kernel_rfl) (fun _ _ _ h => h) (by kernel_rfl) (by assumption) (fun s => ?hy) ?_; case hy => (refine Eq.trans (take_loadrow s rfl rfl kA) ?_; with_reducible rfl)
          try simp only [List.getElem_toArray, List.getElem_cons_succ, List.getElem_cons_zero, Act.put, List.setIfInBounds_toArray, List.set_cons_zero, List.set_cons_succ]
          refine mixs_take 4 (v := ?_) rfl (by kernel_rfl) (fun _ _ _ h => h) (by kernel_rfl) (by assumption) (fun s => ?hy) ?_; case hy => (go_simp <;> with_reducible rfl)
          try simp only [List.getElem_toArray, List.getElem_cons_succ, List.getElem_cons_zero, Act.put, List.setIfInBounds_toArray, List.set_cons_zero, List.set_cons_succ]
          refine mixs_take 5 (v := ?_) rfl (by kernel_rfl) (fun _ _ _ h => h) (by kernel_rfl) (by assumption) (fun s => ?hy) ?_; case hy => (go_simp <;> with_reducible rfl)
          try simp only [List.getElem_toArray, List.getElem_cons_succ, List.getElem_cons_zero, Act.put, List.setIfInBounds_toArray, List.set_cons_zero, List.set_cons_succ]
          refine mixs_take 6 (v := ?_) rfl (by kernel_rfl) (fun _ _ _ h => h) (by kernel_rfl) (by assumption) (fun s => ?hy) ?_; case hy => (go_simp <;> with_reducible rfl)
          try simp only [List.getElem_toArray, List.getElem_cons_succ, List.getElem_cons_zero, Act.put, List.setIfInBounds_toArray, List.set_cons_zero, List.set_cons_succ]
          refine mixs_take 7 (v := ?_) rfl (by kernel_rfl) (fun _ _ _ h => h) (by kernel_rfl) (by assumption) (fun s => ?hy) ?_; case hy => (refine Eq.trans (take_loadrow s rfl rfl kB) ?_; with_reducible rfl)
          try simp only [List.getElem_toArray, List.getElem_cons_succ, List.getElem_cons_zero, Act.put, List.setIfInBounds_toArray, List.set_cons_zero, List.set_cons_succ]
          refine mixs_take 8 (v := ?_) rfl (by kernel_rfl) (fun _ _ _ h => h) (by kernel_rfl) (by assumption) (fun s => ?hy) ?_; case hy => (go_simp <;> with_reducible rfl)
          try simp only [List.getElem_toArray, List.getElem_cons_succ, List.getElem_cons_zero, Act.put, List.setIfInBounds_toArray, List.set_cons_zero, List.set_cons_succ]
          refine wpAnyH_done (by kernel_rfl) ?_ _
          all_goals
            clear kA kB
            go_wp2_with fail
            go_roundg (n - (k + 1))
            case measure => omega
            case rel => exact ⟨k + 1, by omega, by go_num, hnx, ⟨Fr.of_below (hbw.out.trans (hS.below.mono hbw.out.size)), by simp, by simp⟩⟩
        · rw [decide_eq_false he] at hE
          obtain rfl : R = false := hR.out.symm.trans (hno he)
          clear hnx he q1 q2
          generalize wrRow l[k] = RA at *
          generalize wrRow m[k] = RB at *
          go_wp2_with fail
          refine mixs_begin (by kernel_rfl) hS ?_
          clear hS
          intro w2 hS
          refine mixs_take 0 (v := ?_) rfl (by kernel_rfl) (fun _ _ _ h => h) (by kernel_rfl) (by assumption) (fun s => ?hy) ?_; case hy => (go_simp <;> with_reducible rfl)
          try simp only [List.getElem_toArray, List.getElem_cons_succ, List.getElem_cons_zero, Act.put, List.setIfInBounds_toArray, List.set_cons_zero, List.set_cons_succ]
          refine mixs_take 1 (v := ?_) rfl (by kernel_rfl) (fun _ _ _ h => h) (by kernel_rfl) (by assumption) (fun s => ?hy) ?_; case hy => (go_simp <;> with_reducible rfl)
          try simp only [List.getElem_toArray, List.getElem_cons_succ, List.getElem_cons_zero, Act.put, List.setIfInBounds_toArray, List.set_cons_zero, List.set_cons_succ]
          refine mixs_take 2 (v := ?_) rfl (by kernel_rfl) (fun _ _ _ h => h) (by kernel_rfl) (by assumption) (fun s => ?hy) ?_; case hy => (go_simp <;> with_reducible rfl)
          try simp only [List.getElem_toArray, List.getElem_cons_succ, List.getElem_cons_zero, Act.put, List.setIfInBounds_toArray, List.set_cons_zero, List.set_cons_succ]
          refine mixs_take 3 (v := ?_) rfl (by kernel_rfl) (fun _ _ _ h => h) (by kernel_rfl) (by assumption) (fun s => ?hy) ?_; case hy => (refine Eq.trans (take_loadrow s rfl rfl kA) ?_; with_reducible rfl)
          try simp only [List.getElem_toArray, List.getElem_cons_succ, List.getElem_cons_zero, Act.put, List.setIfInBounds_toArray, List.set_cons_zero, List.set_cons_succ]
          refine mixs_take 4 (v := ?_) rfl (by kernel_rfl) (fun _ _ _ h => h) (by kernel_rfl) (by assumption) (fun s => ?hy) ?_; case hy => (go_simp <;> with_reducible rfl)
          try simp only [List.getElem_toArray, List.getElem_cons_succ, List.getElem_cons_zero, Act.put, List.setIfInBounds_toArray, List.set_cons_zero, List.set_cons_succ]
          refine mixs_take 5 (v := ?_) rfl (by kernel_rfl) (fun _ _ _ h => h) (by kernel_rfl) (by assumption) (fun s => ?hy) ?_; case hy => (go_simp <;> with_reducible rfl)
          try simp only [List.getElem_toArray, List.getElem_cons_succ, List.getElem_cons_zero, Act.put, List.setIfInBounds_toArray, List.set_cons_zero, List.set_cons_succ]
          refine mixs_take 6 (v := ?_) rfl (by kernel_rfl) (fun _ _ _ h => h) (by kernel_rfl) (by assumption) (fun s => ?hy) ?_; case hy => (go_simp <;> with_reducible rfl)
          try simp only [List.getElem_toArray, List.getElem_cons_succ, List.getElem_cons_zero, Act.put, List.setIfInBounds_toArray, List.set_cons_zero, List.set_cons_succ]
          refine mixs_take 7 (v := ?_) rfl (by kernel_rfl) (fun _ _ _ h => h) (by kernel_rfl) (by assumption) (fun s => ?hy) ?_; case hy => (refine Eq.trans (take_loadrow s rfl rfl kB) ?_; with_reducible rfl)
          try simp only [List.getElem_toArray, List.getElem_cons_succ, List.getElem_cons_zero, Act.put, List.setIfInBounds_toArray, List.set_cons_zero, List.set_cons_succ]
          refine mixs_take 8 (v := ?_) rfl (by kernel_rfl) (fun _ _ _ h => h) (by kernel_rfl) (by assumption) (fun s => ?hy) ?_; case hy => (go_simp <;> with_reducible rfl)
          try simp only [List.getElem_toArray, List.getElem_cons_succ, List.getElem_cons_zero, Act.put, List.setIfInBounds_toArray, List.set_cons_zero, List.set_cons_succ]
          refine wpAnyH_done (by kernel_rfl) ?_ _
          all_goals
            clear kA kB
            go_wp2_with fail
            go_ret
            exact ⟨rfl, hbw.out.trans (hS.below.mono hbw.out.size)⟩
      · obtain rfl : k = n := by omega
        have hr2 := hr.out
        rw [List.take_of_length_le (by rw [hn.out]; exact Nat.le_refl _), List.take_of_length_le (by rw [hk.out]; exact Nat.le_refl _)] at hr2
        obtain rfl : R = true := hR.out.symm.trans (decide_eq_true hr2)
        go_wp2_with fail
        go_ret
        exact ⟨rfl, hS.below⟩
  · have d1 : R = false := hR.symm.trans (decide_eq_false fun e => hnm (by rw [← hn, ← hk, e]))
    subst d1
    go_enter Tryd.func60, Tryd.ntmps60
    go_wp2_with fail
    go_ret
    exact ⟨rfl, hS.below⟩
theorem qsame_any (a b : Option Addr) (l m : List Wr) (hl : ∀ q ∈ l, q.p.f.length = 8) (hm : ∀ q ∈ m, q.p.f.length = 8) (n k ca cb : Nat) (hn : l.length = n) (hk : m.length = k) (hn1 : n ≤ 1000) (w : World) (hs : Sl w a (qRow l)) (ht : Sl w b (qRow m)) :
    Calls Tryd.prog 42 #[.slice a n ca, .slice b k cb] w fun e w' => e = .returned (.bool (decide (l = m))) ∧ Below w.heap.size w w' := by
  have hS := St.start w
  have cE := equal_any a b l m hl hm n k ca cb hn hk hn1 w hs ht
  generalize decide (l = m) = R at *
  replace cE := Lib.hid cE
  clear hl hm hn hk hs ht
  go_enter Tryd.func42, Tryd.ntmps42
  go_wp2_with (go_at_call 60; (with_reducible refine cE.out.mono ?_); rintro _ w9 ⟨rfl, hk9⟩; have hS1 := hS.keepB hk9; clear hk9 hS; have hS := hS1; clear hS1)
  go_ret
  exact ⟨rfl, hS.below⟩
end Go.Proofs.YtplgpbbghhlbjaaDoor
end

section
/- The reference's queue: Waits. -/
set_option linter.unusedSimpArgs false
set_option linter.unusedVariables false
namespace Go.Ofp
theorem waits_next (l : List Wr) (id : Int) (k : Nat) (hk : k < l.length) : waitsQ (l.take (k + 1)) id = waitsQ (l.take k) id + (if l[k].id = id then 1 else 0) := by
  unfold waitsQ
  rw [List.take_succ_eq_append_getElem hk, ofId_snoc]
  split <;> simp
end Go.Ofp
namespace Go.Proofs.YtplgpbbghhlbjaaDoor
open Go.RowKit Go.Ofp
set_option linter.unusedVariables false
set_option maxRecDepth 100000
set_option maxHeartbeats 4000000

theorem rwaits_any (l : List Wr) (hl : ∀ q ∈ l, q.p.f.length = 8) (a : Option Addr) (n cap : Nat) (id : Int) (hn : l.length = n) (hn1 : n ≤ 1000) (w : World) (hs : Sl w a (qRow l)) :
    Calls Tryd.prog 39 #[.slice a n cap, .int .i64 id] w fun e w' => e = .returned (.int .i64 (waitsQ l id : Nat)) ∧ w = w' := by
  generalize hR : waitsQ l id = R
  replace hR := Lib.hid hR
  replace hs := Lib.hid hs
  replace hl := Lib.hid hl
  replace hn := Lib.hid hn
  go_enter Tryd.func39, Tryd.ntmps39
  go_wp2_with fail
  go_loopg [5, 6] n (fun gk vc vx wr => ∃ k c : Nat, k + gk = n ∧ vx = .int .i64 k ∧ vc = .int .i64 c ∧ c ≤ k ∧ Hid (c = waitsQ (l.take k) id) ∧ w = wr)
  case atStart => exact ⟨0, 0, Nat.zero_add _, rfl, rfl, Nat.le_refl _, Lib.hid rfl, rfl⟩
  case round =>
    obtain ⟨k, c, hkn, rfl, rfl, hck, hc, rfl⟩ := hrel
    by_cases hlt : k < n
    · have hkl : k < l.length := by rw [hn.out]; exact hlt
      have q1 := qRow_at l hl.out k hkl
      obtain ⟨g1, o1, ha⟩ := Sl.cells hs.out (by intro e; have := congrArg List.length e; rw [qRow_len l hl.out] at this; simp at this; omega)
      subst ha
      have hr := sl_range hs.out q1
      have hnx := waits_next l id k hkl
      generalize l[k] = q at *
      obtain ⟨qi, qb, qp⟩ := q
      have c0 : w.cell? ⟨g1, o1 + k * 28, none⟩ = some (.int .i64 qi) := hr 0 _ rfl
      clear q1 hr
      by_cases hid : qi = id
      · rw [if_pos hid, ← hc.out] at hnx
        replace hnx := Lib.hid hnx
        subst hid
        go_wp2_with fail
        go_roundg (n - (k + 1))
        case measure => omega
        case rel => exact ⟨k + 1, c + 1, by omega, by go_num, by go_num, by omega, Lib.hid hnx.out.symm, rfl⟩
      · rw [if_neg hid, Nat.add_zero, ← hc.out] at hnx
        have hib : (qi == id) = false := by rw [beq_eq_false_iff_ne]; exact hid
        replace hnx := Lib.hid hnx
        clear hid
        go_wp2_with fail
        go_roundg (n - (k + 1))
        case measure => omega
        case rel => exact ⟨k + 1, c, by omega, by go_num, rfl, by omega, Lib.hid hnx.out.symm, rfl⟩
    · obtain rfl : k = n := by omega
      have hc2 := hc.out
      rw [List.take_of_length_le (by rw [hn.out]; exact Nat.le_refl _), hR.out] at hc2
      subst hc2
      go_wp2_with fail
      go_ret
      exact ⟨rfl, rfl⟩
end Go.Proofs.YtplgpbbghhlbjaaDoor
end

section
/- The reference's queue: Push. -/
set_option linter.unusedSimpArgs false
set_option linter.unusedVariables false
namespace Go.Ofp
theorem nextBase_next (b : Int) (l : List Wr) (id : Int) (k : Nat) (hk : k < l.length) : nextBase b (ofId (l.take (k + 1)) id) = if l[k].id = id then l[k].base + 1 else nextBase b (ofId (l.take k) id) := by
  rw [List.take_succ_eq_append_getElem hk, ofId_snoc]
  split
  · rw [nextBase_snoc]
  · rw [List.append_nil]
open Go.RowKit
section
variable {P : Program} {w w0 : World} {F : List Nat} {L : List Ch} {ops : Array Oper} {rest : List Oper} {o : Oper} {a : Act} {Q : Exit → Act → World → Prop} {K : Act → World → Prop}
theorem op_build0q_st (hw : Region.wanted o (yielded ops a.tmps) = true) (hS : St w0 F L w) {t : TypeId} (ho : o.op = .buildSlice t 0 #[]) {e : TypeId} (ht : P.underlying t = some (.slice e)) {z : Value} {size bytes : Nat} (he : Elem P e z size bytes)
    (h : ∀ g w', St w0 F (Ch.row e size (.slice (some ⟨g, 0, none⟩) 0 0) 0 [] :: L) w' → K (a.put o.dst (.slice (some ⟨g, 0, none⟩) 0 0)) w') : if Region.wanted o (yielded ops a.tmps) = true then Oper.wp P o a w K Q else K (a.put o.dst undef) w := by
  rw [if_pos hw]
  have hr := run_build0 (P := P) w t e ht he
  unfold Oper.wp execOp
  simp only [ho, List.map_toArray, List.map_nil, Sem.run_bind, hr, Result.andThen_ok, Sem.run_pure]
  exact h _ _ (hS.build0 e size)
end
end Go.Ofp
namespace Go.Proofs.YtplgpbbghhlbjaaDoor
open Go.RowKit Go.Ofp
set_option linter.unusedVariables false
set_option maxRecDepth 100000
set_option maxHeartbeats 4000000

theorem rpush_main (c : Cd) (hc : c.f.length = 8) (p : Pt) (hpf : p.f.length = 8) (hpm : p.mask < 4294967296) (hpl : p.lab < 4294967296) (hck : p.check = 0) (l : List Wr) (hl : ∀ q ∈ l, q.p.f.length = 8) (hlb : ∀ q ∈ l, -4611686018427387904 ≤ q.base ∧ q.base ≤ 4611686018427387904) (a : Option Addr) (n cap : Nat) (hn : l.length = n) (hn12 : n < 12) (w : World) (hs : Sl w a (qRow l)) :
    Calls Tryd.prog 33 #[.slice a n cap, .agg (cdRow c).toArray, .agg (ptRow p).toArray] w fun e w' => ∃ a' c', e = .returned (.tuple #[.slice a' (n + 1) c', .int .i64 0]) ∧ n + 1 ≤ c' ∧ c' ≤ maxLen ∧ St w [] [Ch.row 89 28 (.slice a' (n + 1) c') (n + 1) (qRow (l ++ [⟨c.id, nextBase c.ver (ofId l c.id), p⟩]))] w' := by
  have hS := St.start w
  have cK := fun W : World => rcp_any p hpf hpm hpl W
  rw [hck] at cK
  replace cK := Lib.hid cK
  have ew := elem_rwr
  have d12 : decide ((12 : Int) ≤ (n : Int)) = false := decide_eq_false (by omega)
  have hpn : (ptRow p).length = 26 := by simp [ptRow, flRow_length, hpf]
  have hqo := qRow_one l
  have hql := qRow_len l hl
  rw [hn] at hql
  obtain ⟨id, ver, lab, f⟩ := c
  simp only [cdRow] at *
  have hps : sizeB Tryd.prog 29 (ptRow p).toArray.size = true := by rw [List.size_toArray, hpn]; kernel_rfl
  replace hl := Lib.hid hl
  replace hlb := Lib.hid hlb
  replace hs := Lib.hid hs
  replace hn := Lib.hid hn
  replace hqo := Lib.hid hqo
  replace hql := Lib.hid hql
  clear hck hpm hpl
  go_enter Tryd.func33, Tryd.ntmps33
  go_wp2_with (first
    | (go_at_call 19; (with_reducible refine (cK.out _).mono ?_); rintro _ w9 ⟨rfl, hk9⟩; have hS1 := hS.keepB hk9; clear hk9 hS; have hS := hS1; clear hS1)
    | (with_reducible refine wpList_box_st (L := []) hS rfl rfl rfl ?_; intro b4 w1 hS1; clear hS; have hS := hS1; clear hS1)
    | (with_reducible refine wpList_box_st (L := [_]) hS rfl rfl rfl ?_; intro b5 w1 hS1; clear hS; have hS := hS1; clear hS1)
    | ((with_reducible refine wpList_loadall_st 0 hS rfl rfl rfl rfl ?_ hps ?_); focus (simp [rowB, go_sem]; done))
    | ((with_reducible refine wpList_load_st 1 hS rfl rfl rfl rfl ?_ rfl ?_); focus (simp [scalarB, go_sem]; done)))
  go_loopg [9, 10] n (fun gk vb vx wr => ∃ (k : Nat), k + gk = n ∧ vx = .int .i64 k ∧ vb = .int .i64 (nextBase ver (ofId (l.take k) id)) ∧ St w [] [Ch.blk b5 29 (ptRow p).toArray, Ch.blk b4 27 (Value.int .i64 id :: .int .i64 ver :: .int .u32 lab :: flRow f).toArray] wr)
  case atStart => exact ⟨0, Nat.zero_add _, rfl, rfl, hS⟩
  case round =>
    clear hS
    obtain ⟨k, hkn, rfl, rfl, hS⟩ := hrel
    have c4 := hS.cell 1 rfl 0
    simp only [List.getElem?_toArray, List.getElem?_cons_zero] at c4
    by_cases hlt : k < n
    · have hkl : k < l.length := by rw [hn.out]; exact hlt
      have q1 := qRow_at l hl.out k hkl
      obtain ⟨g1, o1, ha⟩ := Sl.cells hs.out (by intro e; have := congrArg List.length e; rw [qRow_len l hl.out] at this; simp at this; omega)
      subst ha
      have hr := sl_range (hS.sl hs.out) q1
      have hnx := nextBase_next ver l id k hkl
      obtain ⟨hb1, hb2⟩ := hlb.out _ (List.getElem_mem hkl)
      generalize l[k] = q at *
      obtain ⟨qi, qb, qp⟩ := q
      have c0 : wr.cell? ⟨g1, o1 + k * 28, none⟩ = some (.int .i64 qi) := hr 0 _ rfl
      have c1 : wr.cell? ⟨g1, o1 + k * 28 + 1, none⟩ = some (.int .i64 qb) := hr 1 _ rfl
      clear q1 hr
      simp only at hb1 hb2
      by_cases hid : qi = id
      · rw [if_pos hid] at hnx
        replace hnx := Lib.hid hnx
        subst hid
        generalize nextBase ver (ofId (l.take k) qi) = bs at *
        go_wp2_with fail
        go_quiet (fail)
        go_wp2_with fail
        go_roundg (n - (k + 1))
        case measure => omega
        case rel => exact ⟨k + 1, by omega, by go_num, by rw [hnx.out], hS.keep (Fr.drewN _ _)⟩
      · rw [if_neg hid] at hnx
        have hib : (qi == id) = false := by rw [beq_eq_false_iff_ne]; exact hid
        replace hnx := Lib.hid hnx
        clear hid
        generalize nextBase ver (ofId (l.take k) id) = bs at *
        go_wp2_with fail
        go_quiet (fail)
        go_wp2_with fail
        go_roundg (n - (k + 1))
        case measure => omega
        case rel => exact ⟨k + 1, by omega, by go_num, by rw [hnx.out], hS.keep (Fr.drewN _ _)⟩
    · obtain rfl : k = n := by omega
      rw [List.take_of_length_le (by rw [hn.out]; exact Nat.le_refl _)]
      generalize hbe : nextBase ver (ofId l id) = base at *
      have hq1 : qRow (l ++ [⟨id, base, p⟩]) = qRow l ++ (Value.int .i64 id :: .int .i64 base :: ptRow p) := qRow_snoc l ⟨id, base, p⟩
      have hfw := fill_wr 89 id base (ptRow p) hpn
      have hwl : (Value.int .i64 id :: .int .i64 base :: ptRow p).length = 28 := by simp [hpn]
      have hwo : ∀ u ∈ (Value.int .i64 id :: .int .i64 base :: ptRow p), u.oneCell' = true := fun u hu => List.all_eq_true.1 (wrRow_one ⟨id, base, p⟩) u hu
      have hb1 := fun W : World => run_build1 (P := Tryd.prog) W 54 _ Tryd.underlying54 ew (v := .agg (Value.int .i64 id :: .int .i64 base :: ptRow p).toArray) (by simp [Value.cells, hpn]) (by decide)
      have hrl : (Value.int .i64 id :: .int .i64 base :: ptRow p).length = 1 * 28 := hwl
      have kP := hS.krow (P := Tryd.prog) (j := 0) 0 rfl (t := 29) (by kernel_rfl) (n := 26) (by kernel_rfl) (List.take_of_length_le (Nat.le_of_eq hpn)) hpn
      have k4 := hS.kblk 1 rfl
      replace hb1 := Lib.hid hb1
      replace hwo := Lib.hid hwo
      replace hq1 := Lib.hid hq1
      replace hbe := Lib.hid hbe
      clear hwl
      generalize hRW : (Value.int .i64 id :: .int .i64 base :: ptRow p) = RW at *
      generalize ptRow p = RP at *
      clear hRW c4
      go_wp2_with fail
      refine mixs_begin (by kernel_rfl) hS ?_
      clear hS
      intro w2 hS
      refine mixs_take 1 (v := ?_) rfl (by kernel_rfl) (fun _ _ _ h => h) (by kernel_rfl) (by assumption) (fun s => ?hy) ?_; case hy => (go_simp <;> with_reducible rfl)
      try simp only [List.getElem_toArray, List.getElem_cons_succ, List.getElem_cons_zero, Act.put, List.setIfInBounds_toArray, List.set_cons_zero, List.set_cons_succ]
      refine mixs_take 3 (v := ?_) rfl (by kernel_rfl) (fun _ _ _ h => h) (by kernel_rfl) (by assumption) (fun s => ?hy) ?_; case hy => (go_simp <;> with_reducible rfl)
      try simp only [List.getElem_toArray, List.getElem_cons_succ, List.getElem_cons_zero, Act.put, List.setIfInBounds_toArray, List.set_cons_zero, List.set_cons_succ]
      refine mixs_take 4 (v := ?_) rfl (by kernel_rfl) (fun _ _ _ h => h) (by kernel_rfl) (by assumption) (fun s => ?hy) ?_; case hy => (go_simp <;> with_reducible rfl)
      try simp only [List.getElem_toArray, List.getElem_cons_succ, List.getElem_cons_zero, Act.put, List.setIfInBounds_toArray, List.set_cons_zero, List.set_cons_succ]
      refine mixs_take 5 (v := ?_) rfl (by kernel_rfl) (fun _ _ _ h => h) (by kernel_rfl) (by assumption) (fun s => ?hy) ?_; case hy => (go_simp <;> with_reducible rfl)
      try simp only [List.getElem_toArray, List.getElem_cons_succ, List.getElem_cons_zero, Act.put, List.setIfInBounds_toArray, List.set_cons_zero, List.set_cons_succ]
      refine mixs_take 6 (v := ?_) rfl (by kernel_rfl) (fun _ _ _ h => h) (by kernel_rfl) (by assumption) (fun s => ?hy) ?_; case hy => (refine Eq.trans (take_loadrow s rfl rfl kP) ?_; with_reducible rfl)
      try simp only [List.getElem_toArray, List.getElem_cons_succ, List.getElem_cons_zero, Act.put, List.setIfInBounds_toArray, List.set_cons_zero, List.set_cons_succ]
      refine mixs_take 7 (v := ?_) rfl (by kernel_rfl) (fun _ _ _ h => h) (by kernel_rfl) (by assumption) (fun s => ?hy) ?_; case hy => (go_simp <;> with_reducible rfl)
      try simp only [List.getElem_toArray, List.getElem_cons_succ, List.getElem_cons_zero, Act.put, List.setIfInBounds_toArray, List.set_cons_zero, List.set_cons_succ]
      refine mixs_two 0 8 (by kernel_rfl) rfl rfl (fun K hK => ?_) (fun K hK => ?_)
      ·
        ( first | ((with_reducible refine op_build0q_st (by kernel_rfl) hS rfl Tryd.underlying54 ew ?_); intro g3 w3 hS1; clear hS; have hS := hS1; clear hS1) | (with_reducible refine op_buildr_st (by kernel_rfl) hS hb1.out rfl rfl ?_; intro gs w1 hS1; clear hS; have hS := hS1; clear hS1) | ((with_reducible refine op_app_st (by kernel_rfl) 0 hS rfl rfl Tryd.underlying54 ew rfl (Src.slice Tryd.underlying54 (hS.sl hs.out) hql.out) rfl hqo.out (by omega) (by unfold maxLen; omega) ?_); intro v5 w3 hS1; clear hS; have hS := hS1; clear hS1; simp only [List.set_cons_zero, List.set_cons_succ, Nat.zero_add, List.nil_append] at hS; obtain ⟨a5, c5, rfl, -⟩ := hS.row 0 rfl) | ((with_reducible refine op_app_st (by kernel_rfl) 1 hS rfl rfl Tryd.underlying54 ew rfl (Src.slice Tryd.underlying54 (hS.sl hs.out) hql.out) rfl hqo.out (by omega) (by unfold maxLen; omega) ?_); intro v5 w3 hS1; clear hS; have hS := hS1; clear hS1; simp only [List.set_cons_zero, List.set_cons_succ, Nat.zero_add, List.nil_append] at hS; obtain ⟨a5, c5, rfl, -⟩ := hS.row 1 rfl) | ((with_reducible refine op_app_st (by kernel_rfl) 0 hS rfl rfl Tryd.underlying54 ew rfl (Src.slice Tryd.underlying54 (hS.blksl2 1 rfl) hrl) rfl hwo.out (by omega) (by unfold maxLen; omega) ?_); intro v5 w3 hS1; clear hS; have hS := hS1; clear hS1; simp only [List.set_cons_zero, List.set_cons_succ] at hS; obtain ⟨a6, c6, rfl, -⟩ := hS.row 0 rfl) | ((with_reducible refine op_app_st (by kernel_rfl) 1 hS rfl rfl Tryd.underlying54 ew rfl (Src.slice Tryd.underlying54 (hS.blksl2 0 rfl) hrl) rfl hwo.out (by omega) (by unfold maxLen; omega) ?_); intro v5 w3 hS1; clear hS; have hS := hS1; clear hS1; simp only [List.set_cons_zero, List.set_cons_succ] at hS; obtain ⟨a6, c6, rfl, -⟩ := hS.row 1 rfl) )
        try clear hC
        refine hK.out _ _ _ (fun _ h => h) (by first | exact hS | exact hS.drop | exact hS.drop.drop | exact hS.drop.drop.drop | exact hS.drop.drop.drop.drop | exact hS.empty | exact hS.one 0 rfl | exact hS.one 1 rfl | exact hS.one 2 rfl | exact hS.one 3 rfl | exact hS.one 4 rfl | exact hS.one 5 rfl | exact hS.one 6 rfl | exact hS.one 7 rfl | exact hS.one 8 rfl | exact hS.one 9 rfl | exact hS.one 10 rfl | exact hS.one 11 rfl) (fun hC => ?_)
        clear hK K
        try simp only [List.getElem_toArray, List.getElem_cons_succ, List.getElem_cons_zero, Act.put, List.setIfInBounds_toArray, List.set_cons_zero, List.set_cons_succ]
        refine mixs_two 2 8 (by kernel_rfl) rfl rfl (fun K hK => ?_) (fun K hK => ?_)
        ·
          ( first | ((with_reducible refine op_build0q_st (by kernel_rfl) hS rfl Tryd.underlying54 ew ?_); intro g3 w3 hS1; clear hS; have hS := hS1; clear hS1) | (with_reducible refine op_buildr_st (by kernel_rfl) hS hb1.out rfl rfl ?_; intro gs w1 hS1; clear hS; have hS := hS1; clear hS1) | ((with_reducible refine op_app_st (by kernel_rfl) 0 hS rfl rfl Tryd.underlying54 ew rfl (Src.slice Tryd.underlying54 (hS.sl hs.out) hql.out) rfl hqo.out (by omega) (by unfold maxLen; omega) ?_); intro v5 w3 hS1; clear hS; have hS := hS1; clear hS1; simp only [List.set_cons_zero, List.set_cons_succ, Nat.zero_add, List.nil_append] at hS; obtain ⟨a5, c5, rfl, -⟩ := hS.row 0 rfl) | ((with_reducible refine op_app_st (by kernel_rfl) 1 hS rfl rfl Tryd.underlying54 ew rfl (Src.slice Tryd.underlying54 (hS.sl hs.out) hql.out) rfl hqo.out (by omega) (by unfold maxLen; omega) ?_); intro v5 w3 hS1; clear hS; have hS := hS1; clear hS1; simp only [List.set_cons_zero, List.set_cons_succ, Nat.zero_add, List.nil_append] at hS; obtain ⟨a5, c5, rfl, -⟩ := hS.row 1 rfl) | ((with_reducible refine op_app_st (by kernel_rfl) 0 hS rfl rfl Tryd.underlying54 ew rfl (Src.slice Tryd.underlying54 (hS.blksl2 1 rfl) hrl) rfl hwo.out (by omega) (by unfold maxLen; omega) ?_); intro v5 w3 hS1; clear hS; have hS := hS1; clear hS1; simp only [List.set_cons_zero, List.set_cons_succ] at hS; obtain ⟨a6, c6, rfl, -⟩ := hS.row 0 rfl) | ((with_reducible refine op_app_st (by kernel_rfl) 1 hS rfl rfl Tryd.underlying54 ew rfl (Src.slice Tryd.underlying54 (hS.blksl2 0 rfl) hrl) rfl hwo.out (by omega) (by unfold maxLen; omega) ?_); intro v5 w3 hS1; clear hS; have hS := hS1; clear hS1; simp only [List.set_cons_zero, List.set_cons_succ] at hS; obtain ⟨a6, c6, rfl, -⟩ := hS.row 1 rfl) )
          try clear hC
          refine hK.out _ _ _ (fun _ h => h) (by first | exact hS | exact hS.drop | exact hS.drop.drop | exact hS.drop.drop.drop | exact hS.drop.drop.drop.drop | exact hS.empty | exact hS.one 0 rfl | exact hS.one 1 rfl | exact hS.one 2 rfl | exact hS.one 3 rfl | exact hS.one 4 rfl | exact hS.one 5 rfl | exact hS.one 6 rfl | exact hS.one 7 rfl | exact hS.one 8 rfl | exact hS.one 9 rfl | exact hS.one 10 rfl | exact hS.one 11 rfl) (fun hC => ?_)
          clear hK K
          try simp only [List.getElem_toArray, List.getElem_cons_succ, List.getElem_cons_zero, Act.put, List.setIfInBounds_toArray, List.set_cons_zero, List.set_cons_succ]
          refine mixs_one 8 (by kernel_rfl) rfl (fun K hK => ?_)
          ( first | ((with_reducible refine op_build0q_st (by kernel_rfl) hS rfl Tryd.underlying54 ew ?_); intro g3 w3 hS1; clear hS; have hS := hS1; clear hS1) | (with_reducible refine op_buildr_st (by kernel_rfl) hS hb1.out rfl rfl ?_; intro gs w1 hS1; clear hS; have hS := hS1; clear hS1) | ((with_reducible refine op_app_st (by kernel_rfl) 0 hS rfl rfl Tryd.underlying54 ew rfl (Src.slice Tryd.underlying54 (hS.sl hs.out) hql.out) rfl hqo.out (by omega) (by unfold maxLen; omega) ?_); intro v5 w3 hS1; clear hS; have hS := hS1; clear hS1; simp only [List.set_cons_zero, List.set_cons_succ, Nat.zero_add, List.nil_append] at hS; obtain ⟨a5, c5, rfl, -⟩ := hS.row 0 rfl) | ((with_reducible refine op_app_st (by kernel_rfl) 1 hS rfl rfl Tryd.underlying54 ew rfl (Src.slice Tryd.underlying54 (hS.sl hs.out) hql.out) rfl hqo.out (by omega) (by unfold maxLen; omega) ?_); intro v5 w3 hS1; clear hS; have hS := hS1; clear hS1; simp only [List.set_cons_zero, List.set_cons_succ, Nat.zero_add, List.nil_append] at hS; obtain ⟨a5, c5, rfl, -⟩ := hS.row 1 rfl) | ((with_reducible refine op_app_st (by kernel_rfl) 0 hS rfl rfl Tryd.underlying54 ew rfl (Src.slice Tryd.underlying54 (hS.blksl2 1 rfl) hrl) rfl hwo.out (by omega) (by unfold maxLen; omega) ?_); intro v5 w3 hS1; clear hS; have hS := hS1; clear hS1; simp only [List.set_cons_zero, List.set_cons_succ] at hS; obtain ⟨a6, c6, rfl, -⟩ := hS.row 0 rfl) | ((with_reducible refine op_app_st (by kernel_rfl) 1 hS rfl rfl Tryd.underlying54 ew rfl (Src.slice Tryd.underlying54 (hS.blksl2 0 rfl) hrl) rfl hwo.out (by omega) (by unfold maxLen; omega) ?_); intro v5 w3 hS1; clear hS; have hS := hS1; clear hS1; simp only [List.set_cons_zero, List.set_cons_succ] at hS; obtain ⟨a6, c6, rfl, -⟩ := hS.row 1 rfl) )
          try clear hC
          refine hK.out _ _ _ (fun _ h => h) (by first | exact hS | exact hS.drop | exact hS.drop.drop | exact hS.drop.drop.drop | exact hS.drop.drop.drop.drop | exact hS.empty | exact hS.one 0 rfl | exact hS.one 1 rfl | exact hS.one 2 rfl | exact hS.one 3 rfl | exact hS.one 4 rfl | exact hS.one 5 rfl | exact hS.one 6 rfl | exact hS.one 7 rfl | exact hS.one 8 rfl | exact hS.one 9 rfl | exact hS.one 10 rfl | exact hS.one 11 rfl) (fun hC => ?_)
          clear hK K
          try simp only [List.getElem_toArray, List.getElem_cons_succ, List.getElem_cons_zero, Act.put, List.setIfInBounds_toArray, List.set_cons_zero, List.set_cons_succ]
          refine mixs_one 9 (by kernel_rfl) rfl (fun K hK => ?_)
          ( first | ((with_reducible refine op_build0q_st (by kernel_rfl) hS rfl Tryd.underlying54 ew ?_); intro g3 w3 hS1; clear hS; have hS := hS1; clear hS1) | (with_reducible refine op_buildr_st (by kernel_rfl) hS hb1.out rfl rfl ?_; intro gs w1 hS1; clear hS; have hS := hS1; clear hS1) | ((with_reducible refine op_app_st (by kernel_rfl) 0 hS rfl rfl Tryd.underlying54 ew rfl (Src.slice Tryd.underlying54 (hS.sl hs.out) hql.out) rfl hqo.out (by omega) (by unfold maxLen; omega) ?_); intro v5 w3 hS1; clear hS; have hS := hS1; clear hS1; simp only [List.set_cons_zero, List.set_cons_succ, Nat.zero_add, List.nil_append] at hS; obtain ⟨a5, c5, rfl, -⟩ := hS.row 0 rfl) | ((with_reducible refine op_app_st (by kernel_rfl) 1 hS rfl rfl Tryd.underlying54 ew rfl (Src.slice Tryd.underlying54 (hS.sl hs.out) hql.out) rfl hqo.out (by omega) (by unfold maxLen; omega) ?_); intro v5 w3 hS1; clear hS; have hS := hS1; clear hS1; simp only [List.set_cons_zero, List.set_cons_succ, Nat.zero_add, List.nil_append] at hS; obtain ⟨a5, c5, rfl, -⟩ := hS.row 1 rfl) | ((with_reducible refine op_app_st (by kernel_rfl) 0 hS rfl rfl Tryd.underlying54 ew rfl (Src.slice Tryd.underlying54 (hS.blksl2 1 rfl) hrl) rfl hwo.out (by omega) (by unfold maxLen; omega) ?_); intro v5 w3 hS1; clear hS; have hS := hS1; clear hS1; simp only [List.set_cons_zero, List.set_cons_succ] at hS; obtain ⟨a6, c6, rfl, -⟩ := hS.row 0 rfl) | ((with_reducible refine op_app_st (by kernel_rfl) 1 hS rfl rfl Tryd.underlying54 ew rfl (Src.slice Tryd.underlying54 (hS.blksl2 0 rfl) hrl) rfl hwo.out (by omega) (by unfold maxLen; omega) ?_); intro v5 w3 hS1; clear hS; have hS := hS1; clear hS1; simp only [List.set_cons_zero, List.set_cons_succ] at hS; obtain ⟨a6, c6, rfl, -⟩ := hS.row 1 rfl) )
          try clear hC
          refine hK.out _ _ _ (fun _ h => h) (by first | exact hS | exact hS.drop | exact hS.drop.drop | exact hS.drop.drop.drop | exact hS.drop.drop.drop.drop | exact hS.empty | exact hS.one 0 rfl | exact hS.one 1 rfl | exact hS.one 2 rfl | exact hS.one 3 rfl | exact hS.one 4 rfl | exact hS.one 5 rfl | exact hS.one 6 rfl | exact hS.one 7 rfl | exact hS.one 8 rfl | exact hS.one 9 rfl | exact hS.one 10 rfl | exact hS.one 11 rfl) (fun hC => ?_)
          clear hK K
          try simp only [List.getElem_toArray, List.getElem_cons_succ, List.getElem_cons_zero, Act.put, List.setIfInBounds_toArray, List.set_cons_zero, List.set_cons_succ]
          refine mixs_take 10 (v := ?_) rfl (by kernel_rfl) (fun _ _ _ h => h) (by kernel_rfl) (by assumption) (fun s => ?hy) ?_; case hy => (go_simp <;> with_reducible rfl)
          try simp only [List.getElem_toArray, List.getElem_cons_succ, List.getElem_cons_zero, Act.put, List.setIfInBounds_toArray, List.set_cons_zero, List.set_cons_succ]
          refine mixs_take 11 (v := ?_) rfl (by kernel_rfl) (fun _ _ _ h => h) (by kernel_rfl) (by assumption) (fun s => ?hy) ?_; case hy => (go_simp <;> with_reducible rfl)
          try simp only [List.getElem_toArray, List.getElem_cons_succ, List.getElem_cons_zero, Act.put, List.setIfInBounds_toArray, List.set_cons_zero, List.set_cons_succ]
          refine wpAnyH_done (by kernel_rfl) ?_ _
          first
            | (have hR := hS.one 0 rfl; obtain ⟨_, _, e2, -, -, h1, h2⟩ := hR.row 0 rfl)
            | (have hR := hS.one 1 rfl; obtain ⟨_, _, e2, -, -, h1, h2⟩ := hR.row 0 rfl)
          cases e2
          clear hS hC kP k4
          go_wp2_with fail
          go_ret2
          exact ⟨_, _, rfl, h1, h2, by rw [hbe.out, hq1.out]; exact hR⟩
        ·
          ( first | ((with_reducible refine op_build0q_st (by kernel_rfl) hS rfl Tryd.underlying54 ew ?_); intro g3 w3 hS1; clear hS; have hS := hS1; clear hS1) | (with_reducible refine op_buildr_st (by kernel_rfl) hS hb1.out rfl rfl ?_; intro gs w1 hS1; clear hS; have hS := hS1; clear hS1) | ((with_reducible refine op_app_st (by kernel_rfl) 0 hS rfl rfl Tryd.underlying54 ew rfl (Src.slice Tryd.underlying54 (hS.sl hs.out) hql.out) rfl hqo.out (by omega) (by unfold maxLen; omega) ?_); intro v5 w3 hS1; clear hS; have hS := hS1; clear hS1; simp only [List.set_cons_zero, List.set_cons_succ, Nat.zero_add, List.nil_append] at hS; obtain ⟨a5, c5, rfl, -⟩ := hS.row 0 rfl) | ((with_reducible refine op_app_st (by kernel_rfl) 1 hS rfl rfl Tryd.underlying54 ew rfl (Src.slice Tryd.underlying54 (hS.sl hs.out) hql.out) rfl hqo.out (by omega) (by unfold maxLen; omega) ?_); intro v5 w3 hS1; clear hS; have hS := hS1; clear hS1; simp only [List.set_cons_zero, List.set_cons_succ, Nat.zero_add, List.nil_append] at hS; obtain ⟨a5, c5, rfl, -⟩ := hS.row 1 rfl) | ((with_reducible refine op_app_st (by kernel_rfl) 0 hS rfl rfl Tryd.underlying54 ew rfl (Src.slice Tryd.underlying54 (hS.blksl2 1 rfl) hrl) rfl hwo.out (by omega) (by unfold maxLen; omega) ?_); intro v5 w3 hS1; clear hS; have hS := hS1; clear hS1; simp only [List.set_cons_zero, List.set_cons_succ] at hS; obtain ⟨a6, c6, rfl, -⟩ := hS.row 0 rfl) | ((with_reducible refine op_app_st (by kernel_rfl) 1 hS rfl rfl Tryd.underlying54 ew rfl (Src.slice Tryd.underlying54 (hS.blksl2 0 rfl) hrl) rfl hwo.out (by omega) (by unfold maxLen; omega) ?_); intro v5 w3 hS1; clear hS; have hS := hS1; clear hS1; simp only [List.set_cons_zero, List.set_cons_succ] at hS; obtain ⟨a6, c6, rfl, -⟩ := hS.row 1 rfl) )
          try clear hC
          refine hK.out _ _ _ (fun _ h => h) (by first | exact hS | exact hS.drop | exact hS.drop.drop | exact hS.drop.drop.drop | exact hS.drop.drop.drop.drop | exact hS.empty | exact hS.one 0 rfl | exact hS.one 1 rfl | exact hS.one 2 rfl | exact hS.one 3 rfl | exact hS.one 4 rfl | exact hS.one 5 rfl | exact hS.one 6 rfl | exact hS.one 7 rfl | exact hS.one 8 rfl | exact hS.one 9 rfl | exact hS.one 10 rfl | exact hS.one 11 rfl) (fun hC => ?_)
          clear hK K
          try simp only [List.getElem_toArray, List.getElem_cons_succ, List.getElem_cons_zero, Act.put, List.setIfInBounds_toArray, List.set_cons_zero, List.set_cons_succ]
          refine mixs_one 2 (by kernel_rfl) rfl (fun K hK => ?_)
          ( first | ((with_reducible refine op_build0q_st (by kernel_rfl) hS rfl Tryd.underlying54 ew ?_); intro g3 w3 hS1; clear hS; have hS := hS1; clear hS1) | (with_reducible refine op_buildr_st (by kernel_rfl) hS hb1.out rfl rfl ?_; intro gs w1 hS1; clear hS; have hS := hS1; clear hS1) | ((with_reducible refine op_app_st (by kernel_rfl) 0 hS rfl rfl Tryd.underlying54 ew rfl (Src.slice Tryd.underlying54 (hS.sl hs.out) hql.out) rfl hqo.out (by omega) (by unfold maxLen; omega) ?_); intro v5 w3 hS1; clear hS; have hS := hS1; clear hS1; simp only [List.set_cons_zero, List.set_cons_succ, Nat.zero_add, List.nil_append] at hS; obtain ⟨a5, c5, rfl, -⟩ := hS.row 0 rfl) | ((with_reducible refine op_app_st (by kernel_rfl) 1 hS rfl rfl Tryd.underlying54 ew rfl (Src.slice Tryd.underlying54 (hS.sl hs.out) hql.out) rfl hqo.out (by omega) (by unfold maxLen; omega) ?_); intro v5 w3 hS1; clear hS; have hS := hS1; clear hS1; simp only [List.set_cons_zero, List.set_cons_succ, Nat.zero_add, List.nil_append] at hS; obtain ⟨a5, c5, rfl, -⟩ := hS.row 1 rfl) | ((with_reducible refine op_app_st (by kernel_rfl) 0 hS rfl rfl Tryd.underlying54 ew rfl (Src.slice Tryd.underlying54 (hS.blksl2 1 rfl) hrl) rfl hwo.out (by omega) (by unfold maxLen; omega) ?_); intro v5 w3 hS1; clear hS; have hS := hS1; clear hS1; simp only [List.set_cons_zero, List.set_cons_succ] at hS; obtain ⟨a6, c6, rfl, -⟩ := hS.row 0 rfl) | ((with_reducible refine op_app_st (by kernel_rfl) 1 hS rfl rfl Tryd.underlying54 ew rfl (Src.slice Tryd.underlying54 (hS.blksl2 0 rfl) hrl) rfl hwo.out (by omega) (by unfold maxLen; omega) ?_); intro v5 w3 hS1; clear hS; have hS := hS1; clear hS1; simp only [List.set_cons_zero, List.set_cons_succ] at hS; obtain ⟨a6, c6, rfl, -⟩ := hS.row 1 rfl) )
          try clear hC
          refine hK.out _ _ _ (fun _ h => h) (by first | exact hS | exact hS.drop | exact hS.drop.drop | exact hS.drop.drop.drop | exact hS.drop.drop.drop.drop | exact hS.empty | exact hS.one 0 rfl | exact hS.one 1 rfl | exact hS.one 2 rfl | exact hS.one 3 rfl | exact hS.one 4 rfl | exact hS.one 5 rfl | exact hS.one 6 rfl | exact hS.one 7 rfl | exact hS.one 8 rfl | exact hS.one 9 rfl | exact hS.one 10 rfl | exact hS.one 11 rfl) (fun hC => ?_)
          clear hK K
          try simp only [List.getElem_toArray, List.getElem_cons_succ, List.getElem_cons_zero, Act.put, List.setIfInBounds_toArray, List.set_cons_zero, List.set_cons_succ]
          refine mixs_one 9 (by kernel_rfl) rfl (fun K hK => ?_)
          ( first | ((with_reducible refine op_build0q_st (by kernel_rfl) hS rfl Tryd.underlying54 ew ?_); intro g3 w3 hS1; clear hS; have hS := hS1; clear hS1) | (with_reducible refine op_buildr_st (by kernel_rfl) hS hb1.out rfl rfl ?_; intro gs w1 hS1; clear hS; have hS := hS1; clear hS1) | ((with_reducible refine op_app_st (by kernel_rfl) 0 hS rfl rfl Tryd.underlying54 ew rfl (Src.slice Tryd.underlying54 (hS.sl hs.out) hql.out) rfl hqo.out (by omega) (by unfold maxLen; omega) ?_); intro v5 w3 hS1; clear hS; have hS := hS1; clear hS1; simp only [List.set_cons_zero, List.set_cons_succ, Nat.zero_add, List.nil_append] at hS; obtain ⟨a5, c5, rfl, -⟩ := hS.row 0 rfl) | ((with_reducible refine op_app_st (by kernel_rfl) 1 hS rfl rfl Tryd.underlying54 ew rfl (Src.slice Tryd.underlying54 (hS.sl hs.out) hql.out) rfl hqo.out (by omega) (by unfold maxLen; omega) ?_); intro v5 w3 hS1; clear hS; have hS := hS1; clear hS1; simp only [List.set_cons_zero, List.set_cons_succ, Nat.zero_add, List.nil_append] at hS; obtain ⟨a5, c5, rfl, -⟩ := hS.row 1 rfl) | ((with_reducible refine op_app_st (by kernel_rfl) 0 hS rfl rfl Tryd.underlying54 ew rfl (Src.slice Tryd.underlying54 (hS.blksl2 1 rfl) hrl) rfl hwo.out (by omega) (by unfold maxLen; omega) ?_); intro v5 w3 hS1; clear hS; have hS := hS1; clear hS1; simp only [List.set_cons_zero, List.set_cons_succ] at hS; obtain ⟨a6, c6, rfl, -⟩ := hS.row 0 rfl) | ((with_reducible refine op_app_st (by kernel_rfl) 1 hS rfl rfl Tryd.underlying54 ew rfl (Src.slice Tryd.underlying54 (hS.blksl2 0 rfl) hrl) rfl hwo.out (by omega) (by unfold maxLen; omega) ?_); intro v5 w3 hS1; clear hS; have hS := hS1; clear hS1; simp only [List.set_cons_zero, List.set_cons_succ] at hS; obtain ⟨a6, c6, rfl, -⟩ := hS.row 1 rfl) )
          try clear hC
          refine hK.out _ _ _ (fun _ h => h) (by first | exact hS | exact hS.drop | exact hS.drop.drop | exact hS.drop.drop.drop | exact hS.drop.drop.drop.drop | exact hS.empty | exact hS.one 0 rfl | exact hS.one 1 rfl | exact hS.one 2 rfl | exact hS.one 3 rfl | exact hS.one 4 rfl | exact hS.one 5 rfl | exact hS.one 6 rfl | exact hS.one 7 rfl | exact hS.one 8 rfl | exact hS.one 9 rfl | exact hS.one 10 rfl | exact hS.one 11 rfl) (fun hC => ?_)
          clear hK K
          try simp only [List.getElem_toArray, List.getElem_cons_succ, List.getElem_cons_zero, Act.put, List.setIfInBounds_toArray, List.set_cons_zero, List.set_cons_succ]
          refine mixs_take 10 (v := ?_) rfl (by kernel_rfl) (fun _ _ _ h => h) (by kernel_rfl) (by assumption) (fun s => ?hy) ?_; case hy => (go_simp <;> with_reducible rfl)
          try simp only [List.getElem_toArray, List.getElem_cons_succ, List.getElem_cons_zero, Act.put, List.setIfInBounds_toArray, List.set_cons_zero, List.set_cons_succ]
          refine mixs_take 11 (v := ?_) rfl (by kernel_rfl) (fun _ _ _ h => h) (by kernel_rfl) (by assumption) (fun s => ?hy) ?_; case hy => (go_simp <;> with_reducible rfl)
          try simp only [List.getElem_toArray, List.getElem_cons_succ, List.getElem_cons_zero, Act.put, List.setIfInBounds_toArray, List.set_cons_zero, List.set_cons_succ]
          refine wpAnyH_done (by kernel_rfl) ?_ _
          first
            | (have hR := hS.one 0 rfl; obtain ⟨_, _, e2, -, -, h1, h2⟩ := hR.row 0 rfl)
            | (have hR := hS.one 1 rfl; obtain ⟨_, _, e2, -, -, h1, h2⟩ := hR.row 0 rfl)
          cases e2
          clear hS hC kP k4
          go_wp2_with fail
          go_ret2
          exact ⟨_, _, rfl, h1, h2, by rw [hbe.out, hq1.out]; exact hR⟩
      ·
        ( first | ((with_reducible refine op_build0q_st (by kernel_rfl) hS rfl Tryd.underlying54 ew ?_); intro g3 w3 hS1; clear hS; have hS := hS1; clear hS1) | (with_reducible refine op_buildr_st (by kernel_rfl) hS hb1.out rfl rfl ?_; intro gs w1 hS1; clear hS; have hS := hS1; clear hS1) | ((with_reducible refine op_app_st (by kernel_rfl) 0 hS rfl rfl Tryd.underlying54 ew rfl (Src.slice Tryd.underlying54 (hS.sl hs.out) hql.out) rfl hqo.out (by omega) (by unfold maxLen; omega) ?_); intro v5 w3 hS1; clear hS; have hS := hS1; clear hS1; simp only [List.set_cons_zero, List.set_cons_succ, Nat.zero_add, List.nil_append] at hS; obtain ⟨a5, c5, rfl, -⟩ := hS.row 0 rfl) | ((with_reducible refine op_app_st (by kernel_rfl) 1 hS rfl rfl Tryd.underlying54 ew rfl (Src.slice Tryd.underlying54 (hS.sl hs.out) hql.out) rfl hqo.out (by omega) (by unfold maxLen; omega) ?_); intro v5 w3 hS1; clear hS; have hS := hS1; clear hS1; simp only [List.set_cons_zero, List.set_cons_succ, Nat.zero_add, List.nil_append] at hS; obtain ⟨a5, c5, rfl, -⟩ := hS.row 1 rfl) | ((with_reducible refine op_app_st (by kernel_rfl) 0 hS rfl rfl Tryd.underlying54 ew rfl (Src.slice Tryd.underlying54 (hS.blksl2 1 rfl) hrl) rfl hwo.out (by omega) (by unfold maxLen; omega) ?_); intro v5 w3 hS1; clear hS; have hS := hS1; clear hS1; simp only [List.set_cons_zero, List.set_cons_succ] at hS; obtain ⟨a6, c6, rfl, -⟩ := hS.row 0 rfl) | ((with_reducible refine op_app_st (by kernel_rfl) 1 hS rfl rfl Tryd.underlying54 ew rfl (Src.slice Tryd.underlying54 (hS.blksl2 0 rfl) hrl) rfl hwo.out (by omega) (by unfold maxLen; omega) ?_); intro v5 w3 hS1; clear hS; have hS := hS1; clear hS1; simp only [List.set_cons_zero, List.set_cons_succ] at hS; obtain ⟨a6, c6, rfl, -⟩ := hS.row 1 rfl) )
        try clear hC
        refine hK.out _ _ _ (fun _ h => h) (by first | exact hS | exact hS.drop | exact hS.drop.drop | exact hS.drop.drop.drop | exact hS.drop.drop.drop.drop | exact hS.empty | exact hS.one 0 rfl | exact hS.one 1 rfl | exact hS.one 2 rfl | exact hS.one 3 rfl | exact hS.one 4 rfl | exact hS.one 5 rfl | exact hS.one 6 rfl | exact hS.one 7 rfl | exact hS.one 8 rfl | exact hS.one 9 rfl | exact hS.one 10 rfl | exact hS.one 11 rfl) (fun hC => ?_)
        clear hK K
        try simp only [List.getElem_toArray, List.getElem_cons_succ, List.getElem_cons_zero, Act.put, List.setIfInBounds_toArray, List.set_cons_zero, List.set_cons_succ]
        refine mixs_one 0 (by kernel_rfl) rfl (fun K hK => ?_)
        ( first | ((with_reducible refine op_build0q_st (by kernel_rfl) hS rfl Tryd.underlying54 ew ?_); intro g3 w3 hS1; clear hS; have hS := hS1; clear hS1) | (with_reducible refine op_buildr_st (by kernel_rfl) hS hb1.out rfl rfl ?_; intro gs w1 hS1; clear hS; have hS := hS1; clear hS1) | ((with_reducible refine op_app_st (by kernel_rfl) 0 hS rfl rfl Tryd.underlying54 ew rfl (Src.slice Tryd.underlying54 (hS.sl hs.out) hql.out) rfl hqo.out (by omega) (by unfold maxLen; omega) ?_); intro v5 w3 hS1; clear hS; have hS := hS1; clear hS1; simp only [List.set_cons_zero, List.set_cons_succ, Nat.zero_add, List.nil_append] at hS; obtain ⟨a5, c5, rfl, -⟩ := hS.row 0 rfl) | ((with_reducible refine op_app_st (by kernel_rfl) 1 hS rfl rfl Tryd.underlying54 ew rfl (Src.slice Tryd.underlying54 (hS.sl hs.out) hql.out) rfl hqo.out (by omega) (by unfold maxLen; omega) ?_); intro v5 w3 hS1; clear hS; have hS := hS1; clear hS1; simp only [List.set_cons_zero, List.set_cons_succ, Nat.zero_add, List.nil_append] at hS; obtain ⟨a5, c5, rfl, -⟩ := hS.row 1 rfl) | ((with_reducible refine op_app_st (by kernel_rfl) 0 hS rfl rfl Tryd.underlying54 ew rfl (Src.slice Tryd.underlying54 (hS.blksl2 1 rfl) hrl) rfl hwo.out (by omega) (by unfold maxLen; omega) ?_); intro v5 w3 hS1; clear hS; have hS := hS1; clear hS1; simp only [List.set_cons_zero, List.set_cons_succ] at hS; obtain ⟨a6, c6, rfl, -⟩ := hS.row 0 rfl) | ((with_reducible refine op_app_st (by kernel_rfl) 1 hS rfl rfl Tryd.underlying54 ew rfl (Src.slice Tryd.underlying54 (hS.blksl2 0 rfl) hrl) rfl hwo.out (by omega) (by unfold maxLen; omega) ?_); intro v5 w3 hS1; clear hS; have hS := hS1; clear hS1; simp only [List.set_cons_zero, List.set_cons_succ] at hS; obtain ⟨a6, c6, rfl, -⟩ := hS.row 1 rfl) )
        try clear hC
        refine hK.out _ _ _ (fun _ h => h) (by first | exact hS | exact hS.drop | exact hS.drop.drop | exact hS.drop.drop.drop | exact hS.drop.drop.drop.drop | exact hS.empty | exact hS.one 0 rfl | exact hS.one 1 rfl | exact hS.one 2 rfl | exact hS.one 3 rfl | exact hS.one 4 rfl | exact hS.one 5 rfl | exact hS.one 6 rfl | exact hS.one 7 rfl | exact hS.one 8 rfl | exact hS.one 9 rfl | exact hS.one 10 rfl | exact hS.one 11 rfl) (fun hC => ?_)
        clear hK K
        try simp only [List.getElem_toArray, List.getElem_cons_succ, List.getElem_cons_zero, Act.put, List.setIfInBounds_toArray, List.set_cons_zero, List.set_cons_succ]
        refine mixs_one 2 (by kernel_rfl) rfl (fun K hK => ?_)
        ( first | ((with_reducible refine op_build0q_st (by kernel_rfl) hS rfl Tryd.underlying54 ew ?_); intro g3 w3 hS1; clear hS; have hS := hS1; clear hS1) | (with_reducible refine op_buildr_st (by kernel_rfl) hS hb1.out rfl rfl ?_; intro gs w1 hS1; clear hS; have hS := hS1; clear hS1) | ((with_reducible refine op_app_st (by kernel_rfl) 0 hS rfl rfl Tryd.underlying54 ew rfl (Src.slice Tryd.underlying54 (hS.sl hs.out) hql.out) rfl hqo.out (by omega) (by unfold maxLen; omega) ?_); intro v5 w3 hS1; clear hS; have hS := hS1; clear hS1; simp only [List.set_cons_zero, List.set_cons_succ, Nat.zero_add, List.nil_append] at hS; obtain ⟨a5, c5, rfl, -⟩ := hS.row 0 rfl) | ((with_reducible refine op_app_st (by kernel_rfl) 1 hS rfl rfl Tryd.underlying54 ew rfl (Src.slice Tryd.underlying54 (hS.sl hs.out) hql.out) rfl hqo.out (by omega) (by unfold maxLen; omega) ?_); intro v5 w3 hS1; clear hS; have hS := hS1; clear hS1; simp only [List.set_cons_zero, List.set_cons_succ, Nat.zero_add, List.nil_append] at hS; obtain ⟨a5, c5, rfl, -⟩ := hS.row 1 rfl) | ((with_reducible refine op_app_st (by kernel_rfl) 0 hS rfl rfl Tryd.underlying54 ew rfl (Src.slice Tryd.underlying54 (hS.blksl2 1 rfl) hrl) rfl hwo.out (by omega) (by unfold maxLen; omega) ?_); intro v5 w3 hS1; clear hS; have hS := hS1; clear hS1; simp only [List.set_cons_zero, List.set_cons_succ] at hS; obtain ⟨a6, c6, rfl, -⟩ := hS.row 0 rfl) | ((with_reducible refine op_app_st (by kernel_rfl) 1 hS rfl rfl Tryd.underlying54 ew rfl (Src.slice Tryd.underlying54 (hS.blksl2 0 rfl) hrl) rfl hwo.out (by omega) (by unfold maxLen; omega) ?_); intro v5 w3 hS1; clear hS; have hS := hS1; clear hS1; simp only [List.set_cons_zero, List.set_cons_succ] at hS; obtain ⟨a6, c6, rfl, -⟩ := hS.row 1 rfl) )
        try clear hC
        refine hK.out _ _ _ (fun _ h => h) (by first | exact hS | exact hS.drop | exact hS.drop.drop | exact hS.drop.drop.drop | exact hS.drop.drop.drop.drop | exact hS.empty | exact hS.one 0 rfl | exact hS.one 1 rfl | exact hS.one 2 rfl | exact hS.one 3 rfl | exact hS.one 4 rfl | exact hS.one 5 rfl | exact hS.one 6 rfl | exact hS.one 7 rfl | exact hS.one 8 rfl | exact hS.one 9 rfl | exact hS.one 10 rfl | exact hS.one 11 rfl) (fun hC => ?_)
        clear hK K
        try simp only [List.getElem_toArray, List.getElem_cons_succ, List.getElem_cons_zero, Act.put, List.setIfInBounds_toArray, List.set_cons_zero, List.set_cons_succ]
        refine mixs_one 9 (by kernel_rfl) rfl (fun K hK => ?_)
        ( first | ((with_reducible refine op_build0q_st (by kernel_rfl) hS rfl Tryd.underlying54 ew ?_); intro g3 w3 hS1; clear hS; have hS := hS1; clear hS1) | (with_reducible refine op_buildr_st (by kernel_rfl) hS hb1.out rfl rfl ?_; intro gs w1 hS1; clear hS; have hS := hS1; clear hS1) | ((with_reducible refine op_app_st (by kernel_rfl) 0 hS rfl rfl Tryd.underlying54 ew rfl (Src.slice Tryd.underlying54 (hS.sl hs.out) hql.out) rfl hqo.out (by omega) (by unfold maxLen; omega) ?_); intro v5 w3 hS1; clear hS; have hS := hS1; clear hS1; simp only [List.set_cons_zero, List.set_cons_succ, Nat.zero_add, List.nil_append] at hS; obtain ⟨a5, c5, rfl, -⟩ := hS.row 0 rfl) | ((with_reducible refine op_app_st (by kernel_rfl) 1 hS rfl rfl Tryd.underlying54 ew rfl (Src.slice Tryd.underlying54 (hS.sl hs.out) hql.out) rfl hqo.out (by omega) (by unfold maxLen; omega) ?_); intro v5 w3 hS1; clear hS; have hS := hS1; clear hS1; simp only [List.set_cons_zero, List.set_cons_succ, Nat.zero_add, List.nil_append] at hS; obtain ⟨a5, c5, rfl, -⟩ := hS.row 1 rfl) | ((with_reducible refine op_app_st (by kernel_rfl) 0 hS rfl rfl Tryd.underlying54 ew rfl (Src.slice Tryd.underlying54 (hS.blksl2 1 rfl) hrl) rfl hwo.out (by omega) (by unfold maxLen; omega) ?_); intro v5 w3 hS1; clear hS; have hS := hS1; clear hS1; simp only [List.set_cons_zero, List.set_cons_succ] at hS; obtain ⟨a6, c6, rfl, -⟩ := hS.row 0 rfl) | ((with_reducible refine op_app_st (by kernel_rfl) 1 hS rfl rfl Tryd.underlying54 ew rfl (Src.slice Tryd.underlying54 (hS.blksl2 0 rfl) hrl) rfl hwo.out (by omega) (by unfold maxLen; omega) ?_); intro v5 w3 hS1; clear hS; have hS := hS1; clear hS1; simp only [List.set_cons_zero, List.set_cons_succ] at hS; obtain ⟨a6, c6, rfl, -⟩ := hS.row 1 rfl) )
        try clear hC
        refine hK.out _ _ _ (fun _ h => h) (by first | exact hS | exact hS.drop | exact hS.drop.drop | exact hS.drop.drop.drop | exact hS.drop.drop.drop.drop | exact hS.empty | exact hS.one 0 rfl | exact hS.one 1 rfl | exact hS.one 2 rfl | exact hS.one 3 rfl | exact hS.one 4 rfl | exact hS.one 5 rfl | exact hS.one 6 rfl | exact hS.one 7 rfl | exact hS.one 8 rfl | exact hS.one 9 rfl | exact hS.one 10 rfl | exact hS.one 11 rfl) (fun hC => ?_)
        clear hK K
        try simp only [List.getElem_toArray, List.getElem_cons_succ, List.getElem_cons_zero, Act.put, List.setIfInBounds_toArray, List.set_cons_zero, List.set_cons_succ]
        refine mixs_take 10 (v := ?_) rfl (by kernel_rfl) (fun _ _ _ h => h) (by kernel_rfl) (by assumption) (fun s => ?hy) ?_; case hy => (go_simp <;> with_reducible rfl)
        try simp only [List.getElem_toArray, List.getElem_cons_succ, List.getElem_cons_zero, Act.put, List.setIfInBounds_toArray, List.set_cons_zero, List.set_cons_succ]
        refine mixs_take 11 (v := ?_) rfl (by kernel_rfl) (fun _ _ _ h => h) (by kernel_rfl) (by assumption) (fun s => ?hy) ?_; case hy => (go_simp <;> with_reducible rfl)
        try simp only [List.getElem_toArray, List.getElem_cons_succ, List.getElem_cons_zero, Act.put, List.setIfInBounds_toArray, List.set_cons_zero, List.set_cons_succ]
        refine wpAnyH_done (by kernel_rfl) ?_ _
        first
          | (have hR := hS.one 0 rfl; obtain ⟨_, _, e2, -, -, h1, h2⟩ := hR.row 0 rfl)
          | (have hR := hS.one 1 rfl; obtain ⟨_, _, e2, -, -, h1, h2⟩ := hR.row 0 rfl)
        cases e2
        clear hS hC kP k4
        go_wp2_with fail
        go_ret2
        exact ⟨_, _, rfl, h1, h2, by rw [hbe.out, hq1.out]; exact hR⟩

theorem rpush_bad (c : Cd) (hc : c.f.length = 8) (p : Pt) (hpf : p.f.length = 8) (hpm : p.mask < 4294967296) (hpl : p.lab < 4294967296) (hck : p.check ≠ 0) (a : Option Addr) (n cap : Nat) (w : World) :
    Calls Tryd.prog 33 #[.slice a n cap, .agg (cdRow c).toArray, .agg (ptRow p).toArray] w fun e w' => e = .returned (.tuple #[.slice none 0 0, .int .i64 p.check]) ∧ Below w.heap.size w w' := by
  have hS := St.start w
  have cK := fun W : World => rcp_any p hpf hpm hpl W
  have hnz : (p.check != 0) = true := by rw [bne_iff_ne]; exact hck
  generalize p.check = ch at *
  replace cK := Lib.hid cK
  have hpn : (ptRow p).length = 26 := by simp [ptRow, flRow_length, hpf]
  have hps : sizeB Tryd.prog 29 (ptRow p).toArray.size = true := by rw [List.size_toArray, hpn]; kernel_rfl
  clear hck
  go_enter Tryd.func33, Tryd.ntmps33
  go_wp2_with (first
    | (go_at_call 19; (with_reducible refine (cK.out _).mono ?_); rintro _ w9 ⟨rfl, hk9⟩; have hS1 := hS.keepB hk9; clear hk9 hS; have hS := hS1; clear hS1)
    | (with_reducible refine wpList_box_st (L := []) hS rfl rfl rfl ?_; intro b4 w1 hS1; clear hS; have hS := hS1; clear hS1)
    | (with_reducible refine wpList_box_st (L := [_]) hS rfl rfl rfl ?_; intro b5 w1 hS1; clear hS; have hS := hS1; clear hS1)
    | ((with_reducible refine wpList_loadall_st 0 hS rfl rfl rfl rfl ?_ hps ?_); focus (simp [rowB, go_sem]; done)))
  go_ret2
  exact ⟨rfl, hS.below⟩
theorem rpush_full (c : Cd) (hc : c.f.length = 8) (p : Pt) (hpf : p.f.length = 8) (hpm : p.mask < 4294967296) (hpl : p.lab < 4294967296) (hck : p.check = 0) (a : Option Addr) (n cap : Nat) (hn : 12 ≤ n) (w : World) :
    Calls Tryd.prog 33 #[.slice a n cap, .agg (cdRow c).toArray, .agg (ptRow p).toArray] w fun e w' => e = .returned (.tuple #[.slice none 0 0, .int .i64 8]) ∧ Below w.heap.size w w' := by
  have hS := St.start w
  have cK := fun W : World => rcp_any p hpf hpm hpl W
  rw [hck] at cK
  replace cK := Lib.hid cK
  have d12 : decide ((12 : Int) ≤ (n : Int)) = true := decide_eq_true (by omega)
  have hpn : (ptRow p).length = 26 := by simp [ptRow, flRow_length, hpf]
  have hps : sizeB Tryd.prog 29 (ptRow p).toArray.size = true := by rw [List.size_toArray, hpn]; kernel_rfl
  clear hck
  go_enter Tryd.func33, Tryd.ntmps33
  go_wp2_with (first
    | (go_at_call 19; (with_reducible refine (cK.out _).mono ?_); rintro _ w9 ⟨rfl, hk9⟩; have hS1 := hS.keepB hk9; clear hk9 hS; have hS := hS1; clear hS1)
    | (with_reducible refine wpList_box_st (L := []) hS rfl rfl rfl ?_; intro b4 w1 hS1; clear hS; have hS := hS1; clear hS1)
    | (with_reducible refine wpList_box_st (L := [_]) hS rfl rfl rfl ?_; intro b5 w1 hS1; clear hS; have hS := hS1; clear hS1)
    | ((with_reducible refine wpList_loadall_st 0 hS rfl rfl rfl rfl ?_ hps ?_); focus (simp [rowB, go_sem]; done)))
  go_ret2
  exact ⟨rfl, hS.below⟩
theorem rpush_any (c : Cd) (hc : c.f.length = 8) (p : Pt) (hpf : p.f.length = 8) (hpm : p.mask < 4294967296) (hpl : p.lab < 4294967296) (l : List Wr) (hl : ∀ q ∈ l, q.p.f.length = 8) (hlb : ∀ q ∈ l, -4611686018427387904 ≤ q.base ∧ q.base ≤ 4611686018427387904) (a : Option Addr) (n cap : Nat) (hn : l.length = n) (w : World) (hs : SlQ w a cap l) :
    Calls Tryd.prog 33 #[.slice a n cap, .agg (cdRow c).toArray, .agg (ptRow p).toArray] w fun e w' => ∃ a' c', e = .returned (.tuple #[.slice a' (pushQ l c p).1.length c', .int .i64 (pushQ l c p).2]) ∧ SlQ w' a' c' (pushQ l c p).1 ∧ Below w.heap.size w w' := by
  unfold pushQ
  by_cases hck : p.check = 0
  · rw [if_neg (by simpa using hck)]
    by_cases h12 : 12 ≤ l.length
    · rw [if_pos h12]
      exact (rpush_full c hc p hpf hpm hpl hck a n cap (by omega) w).mono fun e w' ⟨h1, h2⟩ => ⟨none, 0, h1, SlQ.none _, h2⟩
    · rw [if_neg h12]
      refine (rpush_main c hc p hpf hpm hpl hck l hl hlb a n cap hn (by omega) w hs.1).mono ?_
      rintro e w' ⟨a', c', h1, -, -, h4⟩
      have hlen : (l ++ [(⟨c.id, nextBase c.ver (ofId l c.id), p⟩ : Wr)]).length = n + 1 := by simp [hn]
      refine ⟨a', c', ?_, SlQ.row h4 0 hlen rfl, h4.below⟩
      rw [hlen]
      exact h1
  · rw [if_pos hck]
    exact (rpush_bad c hc p hpf hpm hpl hck a n cap w).mono fun e w' ⟨h1, h2⟩ => ⟨none, 0, h1, SlQ.none _, h2⟩
end Go.Proofs.YtplgpbbghhlbjaaDoor
end
