/- Texts laid together: ShelfPlays. -/
import Derived.Test.YtneolmnpebiifaaDoorM14
import Derived.Test.YtneolmnpebiifaaDoorM2
import Derived.Test.YtneolmnpebiifaaDoorM6
section
/- The law ShelfPlays. -/
set_option linter.unusedSimpArgs false
set_option linter.unusedVariables false
namespace Go.Proofs.YtneolmnpebiifaaDoor
open Go.RowKit Go.Ofp
set_option linter.unusedVariables false
set_option maxRecDepth 100000
set_option maxHeartbeats 8000000
theorem build_rs1 (w : World) : (Instr.build 50 #[(0, .int .i64 1)]).run Tryd.prog w = .ok (.agg #[.int .i64 1, .slice none 0 0, .slice none 0 0]) w := by kernel_rfl
theorem zero_rs (w0 : World) : RsL w0 ShS.new none 0 none 0 [] := RsL.old ⟨Sl.nil _ _, rfl, Nat.le_refl _, by decide, by simp [ShS.new]⟩ ⟨Sl.nil _ _, rfl, Nat.le_refl _, by decide, by simp [ShS.new]⟩
theorem plays18_any (a : Option Addr) (n c : Nat) (l : List Sa) (w : World) (hl : Lst saRow SaIn w a n c l) (ht : Tab w) :
    Calls Tryd.prog 4 #[.slice a n c] w fun e w' => e = .returned (.bool true) ∧ Below w.heap.size w w' := by
  have hS := St.start w
  have ec := elem_card
  have hB1 := build_rs1
  have hB2 := build_pt1
  have cN := Lib.hid fun W => snew_any W
  have cA := Lib.hid fun W h => awake18_any W h
  have cL := Lib.hid fun f hf W => large6_any f hf W
  have z1 := Lib.hid fun W => strim_nil 9 W
  have z2 := Lib.hid (show ∀ W, Calls Tryd.prog 10 #[.pointer none, .agg #[.int .u32 1, .int .u32 0, .int .i64 0, .int .i64 0, .string ⟨#[]⟩, .int .i64 0, .int .i64 0, .string ⟨#[]⟩, .int .i64 0, .int .i64 0, .string ⟨#[]⟩, .int .i64 0, .int .i64 0, .string ⟨#[]⟩, .int .i64 0, .int .i64 0, .string ⟨#[]⟩, .int .i64 0, .int .i64 0, .string ⟨#[]⟩, .int .i64 0, .int .i64 0, .string ⟨#[]⟩, .int .i64 0, .int .i64 0, .string ⟨#[]⟩]] W fun e w' => e = .returned (.tuple #[.agg #[.int .i64 0, .int .i64 0, .int .u32 0, .int .i64 0, .int .i64 0, .string ⟨#[]⟩, .int .i64 0, .int .i64 0, .string ⟨#[]⟩, .int .i64 0, .int .i64 0, .string ⟨#[]⟩, .int .i64 0, .int .i64 0, .string ⟨#[]⟩, .int .i64 0, .int .i64 0, .string ⟨#[]⟩, .int .i64 0, .int .i64 0, .string ⟨#[]⟩, .int .i64 0, .int .i64 0, .string ⟨#[]⟩, .int .i64 0, .int .i64 0, .string ⟨#[]⟩], .int .i64 14]) ∧ Below W.heap.size W w' from fun W => sadd_nil exZ W)
  have z3 := Lib.hid (show ∀ W, Calls Tryd.prog 12 #[.pointer none, .int .i64 1, .agg #[.int .u32 1, .int .u32 0, .int .i64 0, .int .i64 0, .string ⟨#[]⟩, .int .i64 0, .int .i64 0, .string ⟨#[]⟩, .int .i64 0, .int .i64 0, .string ⟨#[]⟩, .int .i64 0, .int .i64 0, .string ⟨#[]⟩, .int .i64 0, .int .i64 0, .string ⟨#[]⟩, .int .i64 0, .int .i64 0, .string ⟨#[]⟩, .int .i64 0, .int .i64 0, .string ⟨#[]⟩, .int .i64 0, .int .i64 0, .string ⟨#[]⟩]] W fun e w' => e = .returned (.tuple #[.agg #[.int .i64 0, .int .i64 0, .int .u32 0, .int .i64 0, .int .i64 0, .string ⟨#[]⟩, .int .i64 0, .int .i64 0, .string ⟨#[]⟩, .int .i64 0, .int .i64 0, .string ⟨#[]⟩, .int .i64 0, .int .i64 0, .string ⟨#[]⟩, .int .i64 0, .int .i64 0, .string ⟨#[]⟩, .int .i64 0, .int .i64 0, .string ⟨#[]⟩, .int .i64 0, .int .i64 0, .string ⟨#[]⟩, .int .i64 0, .int .i64 0, .string ⟨#[]⟩], .int .i64 14]) ∧ Below W.heap.size W w' from fun W => swrite_nil 1 exZ W)
  have z4 := Lib.hid (show ∀ W, Calls Tryd.prog 11 #[.pointer none, .int .i64 1] W fun e w' => e = .returned (.tuple #[.agg #[.int .i64 0, .int .i64 0, .int .u32 0, .int .i64 0, .int .i64 0, .string ⟨#[]⟩, .int .i64 0, .int .i64 0, .string ⟨#[]⟩, .int .i64 0, .int .i64 0, .string ⟨#[]⟩, .int .i64 0, .int .i64 0, .string ⟨#[]⟩, .int .i64 0, .int .i64 0, .string ⟨#[]⟩, .int .i64 0, .int .i64 0, .string ⟨#[]⟩, .int .i64 0, .int .i64 0, .string ⟨#[]⟩, .int .i64 0, .int .i64 0, .string ⟨#[]⟩], .int .i64 14]) ∧ Below W.heap.size W w' from fun W => sget_nil 1 W)
  have z5 := Lib.hid fun W => sdrop_nil 1 1 W
  have z6 := Lib.hid fun W => snext_nil W
  have z7 := Lib.hid fun W => scards_nil W
  have z8 := Lib.hid fun W => sdead_nil W
  have hlen := Lib.hid hl.len
  have hlens := Lib.hid (show ∀ x ∈ l, (saRow x).length = 29 from fun x hx => saRow_len x (hl.mem x hx).p.len)
  have hbase := Lib.hid (hl.base (by decide) hlens.out)
  have hmem := Lib.hid hl.mem
  have hle := hl.le
  have hcm := hl.cm
  replace hl := Lib.hid hl
  replace ht := Lib.hid ht
  go_enter Tryd.func4, Tryd.ntmps4
  go_wp2_with (first
    | (go_at_call 6; (with_reducible refine (cN.out _).mono ?_); rintro _ w3 ⟨g, gm, rfl, hk9⟩; have hS1 := hS.made hk9; clear hS hk9; have hS : St w [] (shA g gm ShS.new none 0) w3 := hS1; clear hS1))
  obtain ⟨g2, w1, e1, e2, hS1⟩ := hS.new _ _
  rw [e2, e1]
  clear hS e1 e2
  replace hS := hS1
  clear hS1
  have hS1 : St w [] (shA g gm ShS.new none 0 ++ [rsB g2 ShS.new none 0 none 0]) w1 := St.rot (A := [_]) (B := shA g gm ShS.new none 0) hS
  clear hS
  have hS := hS1
  clear hS1
  go_loopg [5] n (fun gk vx wr => ∃ (j : Nat) (s : ShS) (da : Option Addr) (dc : Nat) (ca : Option Addr) (cc : Nat) (ra : Option Addr) (rc : Nat) (R : List Ch), j + gk = n ∧ vx = .int .i64 j ∧ Hid (ShOk s) ∧ Hid (RsL w s ca cc ra rc R) ∧ St w [] (shA g gm s da dc ++ (rsB g2 s ca cc ra rc :: R)) wr)
  case atStart => exact ⟨0, ShS.new, none, 0, none, 0, none, 0, [], Nat.zero_add _, rfl, Lib.hid ShOk.new, Lib.hid (zero_rs w), hS⟩
  case round =>
    clear hS
    obtain ⟨j, s, da, dc, ca, cc, ra, rc, R, hj, rfl, hok, hRL, hS⟩ := hrel
    by_cases hlt : j < n
    case neg =>
      have hS1 := hS.empty
      clear hS
      have hS := hS1
      clear hS1
      go_wp2_with (first
        | (go_at_call 17; (with_reducible refine (z1.out _).mono ?_); rintro _ w3 ⟨rfl, hk9⟩; have hS1 := hS.keepB hk9; clear hk9 hS; have hS := hS1; clear hS1)
        | (go_at_call 10; (with_reducible refine (z2.out _).mono ?_); rintro _ w3 ⟨rfl, hk9⟩; have hS1 := hS.keepB hk9; clear hk9 hS; have hS := hS1; clear hS1)
        | (go_at_call 12; (with_reducible refine (z3.out _).mono ?_); rintro _ w3 ⟨rfl, hk9⟩; have hS1 := hS.keepB hk9; clear hk9 hS; have hS := hS1; clear hS1)
        | (go_at_call 11; (with_reducible refine (z4.out _).mono ?_); rintro _ w3 ⟨rfl, hk9⟩; have hS1 := hS.keepB hk9; clear hk9 hS; have hS := hS1; clear hS1)
        | (go_at_call 14; (with_reducible refine (z5.out _).mono ?_); rintro _ w3 ⟨rfl, hk9⟩; have hS1 := hS.keepB hk9; clear hk9 hS; have hS := hS1; clear hS1)
        | (go_at_call 18; (with_reducible refine (z6.out _).mono ?_); rintro _ w3 ⟨rfl, hk9⟩; have hS1 := hS.keepB hk9; clear hk9 hS; have hS := hS1; clear hS1)
        | (go_at_call 9; (with_reducible refine (z7.out _).mono ?_); rintro _ w3 ⟨rfl, hk9⟩; have hS1 := hS.keepB hk9; clear hk9 hS; have hS := hS1; clear hS1)
        | (go_at_call 19; (with_reducible refine (z8.out _).mono ?_); rintro _ w3 ⟨rfl, hk9⟩; have hS1 := hS.keepB hk9; clear hk9 hS; have hS := hS1; clear hS1)
        | (go_at_call 8; (with_reducible refine (cA.out _ (ht.out.fr hS.fr (by simp))).mono ?_); rintro _ w3 ⟨rfl, hk9⟩; have hS1 := hS.keepB hk9; clear hk9 hS; have hS := hS1; clear hS1)
        | (with_reducible refine wpList_box_st hS rfl rfl rfl ?_; intro g1 w1 hS1; clear hS; replace hS := hS1; clear hS1) | (with_reducible refine wpList_box1_st hS rfl rfl rfl ?_; intro g1 w1 hS1; clear hS; replace hS := hS1; clear hS1) | (with_reducible refine wpList_alloc_st hS rfl rfl (by assumption) ?_; intro g1 w1 hS1; clear hS; replace hS := hS1; clear hS1) | (with_reducible refine wpList_alloc1_st hS rfl rfl (by assumption) rfl ?_; intro g1 w1 hS1; clear hS; replace hS := hS1; clear hS1) | ((with_reducible refine wpList_load_st 0 hS rfl rfl rfl rfl ?_ rfl ?_); focus (simp [scalarB, go_sem]; done)) | ((with_reducible refine wpList_loadall_st 0 hS rfl rfl rfl rfl ?_ (by kernel_rfl) ?_); focus (simp [rowB, go_sem]; done)) | ((with_reducible refine wpList_store_st 0 hS rfl rfl rfl rfl (by kernel_rfl) rfl rfl ?_); intro w1 hS1; clear hS; replace hS := hS1; clear hS1; try simp only [List.set_cons_zero, List.set_cons_succ, List.setIfInBounds_toArray, List.take_succ_cons, List.take_zero, List.drop_succ_cons, List.drop_zero, List.nil_append, List.cons_append, List.append_nil, List.drop_nil, List.take_nil, List.length_cons, List.length_nil, Nat.zero_add, Nat.add_zero, Nat.reduceAdd] at hS) | ((with_reducible refine wpList_storerow_st 0 hS rfl rfl rfl rfl (by kernel_rfl) rfl rfl rfl rfl ?_); intro w1 hS1; clear hS; replace hS := hS1; clear hS1; try simp only [List.set_cons_zero, List.set_cons_succ, List.setIfInBounds_toArray, List.take_succ_cons, List.take_zero, List.drop_succ_cons, List.drop_zero, List.nil_append, List.cons_append, List.append_nil, List.drop_nil, List.take_nil, List.length_cons, List.length_nil, Nat.zero_add, Nat.add_zero, Nat.reduceAdd] at hS))
      go_ret
      exact ⟨rfl, hS.below⟩
    by_cases h200 : j < 200
    case neg =>
      have d2 : decide ((j : Int) < 200) = false := decide_eq_false (by omega)
      have d3 : decide (j < 200) = false := decide_eq_false (by omega)
      clear h200
      have hS1 := hS.empty
      clear hS
      have hS := hS1
      clear hS1
      go_wp2_with (first
        | (go_at_call 17; (with_reducible refine (z1.out _).mono ?_); rintro _ w3 ⟨rfl, hk9⟩; have hS1 := hS.keepB hk9; clear hk9 hS; have hS := hS1; clear hS1)
        | (go_at_call 10; (with_reducible refine (z2.out _).mono ?_); rintro _ w3 ⟨rfl, hk9⟩; have hS1 := hS.keepB hk9; clear hk9 hS; have hS := hS1; clear hS1)
        | (go_at_call 12; (with_reducible refine (z3.out _).mono ?_); rintro _ w3 ⟨rfl, hk9⟩; have hS1 := hS.keepB hk9; clear hk9 hS; have hS := hS1; clear hS1)
        | (go_at_call 11; (with_reducible refine (z4.out _).mono ?_); rintro _ w3 ⟨rfl, hk9⟩; have hS1 := hS.keepB hk9; clear hk9 hS; have hS := hS1; clear hS1)
        | (go_at_call 14; (with_reducible refine (z5.out _).mono ?_); rintro _ w3 ⟨rfl, hk9⟩; have hS1 := hS.keepB hk9; clear hk9 hS; have hS := hS1; clear hS1)
        | (go_at_call 18; (with_reducible refine (z6.out _).mono ?_); rintro _ w3 ⟨rfl, hk9⟩; have hS1 := hS.keepB hk9; clear hk9 hS; have hS := hS1; clear hS1)
        | (go_at_call 9; (with_reducible refine (z7.out _).mono ?_); rintro _ w3 ⟨rfl, hk9⟩; have hS1 := hS.keepB hk9; clear hk9 hS; have hS := hS1; clear hS1)
        | (go_at_call 19; (with_reducible refine (z8.out _).mono ?_); rintro _ w3 ⟨rfl, hk9⟩; have hS1 := hS.keepB hk9; clear hk9 hS; have hS := hS1; clear hS1)
        | (go_at_call 8; (with_reducible refine (cA.out _ (ht.out.fr hS.fr (by simp))).mono ?_); rintro _ w3 ⟨rfl, hk9⟩; have hS1 := hS.keepB hk9; clear hk9 hS; have hS := hS1; clear hS1)
        | (with_reducible refine wpList_box_st hS rfl rfl rfl ?_; intro g1 w1 hS1; clear hS; replace hS := hS1; clear hS1) | (with_reducible refine wpList_box1_st hS rfl rfl rfl ?_; intro g1 w1 hS1; clear hS; replace hS := hS1; clear hS1) | (with_reducible refine wpList_alloc_st hS rfl rfl (by assumption) ?_; intro g1 w1 hS1; clear hS; replace hS := hS1; clear hS1) | (with_reducible refine wpList_alloc1_st hS rfl rfl (by assumption) rfl ?_; intro g1 w1 hS1; clear hS; replace hS := hS1; clear hS1) | ((with_reducible refine wpList_load_st 0 hS rfl rfl rfl rfl ?_ rfl ?_); focus (simp [scalarB, go_sem]; done)) | ((with_reducible refine wpList_loadall_st 0 hS rfl rfl rfl rfl ?_ (by kernel_rfl) ?_); focus (simp [rowB, go_sem]; done)) | ((with_reducible refine wpList_store_st 0 hS rfl rfl rfl rfl (by kernel_rfl) rfl rfl ?_); intro w1 hS1; clear hS; replace hS := hS1; clear hS1; try simp only [List.set_cons_zero, List.set_cons_succ, List.setIfInBounds_toArray, List.take_succ_cons, List.take_zero, List.drop_succ_cons, List.drop_zero, List.nil_append, List.cons_append, List.append_nil, List.drop_nil, List.take_nil, List.length_cons, List.length_nil, Nat.zero_add, Nat.add_zero, Nat.reduceAdd] at hS) | ((with_reducible refine wpList_storerow_st 0 hS rfl rfl rfl rfl (by kernel_rfl) rfl rfl rfl rfl ?_); intro w1 hS1; clear hS; replace hS := hS1; clear hS1; try simp only [List.set_cons_zero, List.set_cons_succ, List.setIfInBounds_toArray, List.take_succ_cons, List.take_zero, List.drop_succ_cons, List.drop_zero, List.nil_append, List.cons_append, List.append_nil, List.drop_nil, List.take_nil, List.length_cons, List.length_nil, Nat.zero_add, Nat.add_zero, Nat.reduceAdd] at hS))
      go_ret
      exact ⟨rfl, hS.below⟩
    have d2 : decide ((j : Int) < 200) = true := decide_eq_true (by omega)
    have d3 : decide (j < 200) = true := decide_eq_true (by omega)
    replace h200 := Lib.hid h200
    have hjl : j < l.length := by rw [hlen.out]; exact hlt
    obtain ⟨b, off, rfl⟩ := hbase.out (by omega)
    have hrow := hl.out.rowb hlens.out j hjl
    have hin := hmem.out _ (List.getElem_mem hjl)
    generalize l[j] = x at *
    obtain ⟨kd, id, sq, p⟩ := x
    have hpin : PtIn p := hin.p
    have hid : I64 id := hin.id
    have hsq : I64 sq := hin.seq
    have cL1 := fun W => cL.out p.f hpin.len W
    have cD := fun W hA hT h1 h2 => does18_any g gm g2 s da dc ca cc ra rc kd id sq p hid hsq hpin W hA hok.out hT h1 h2
    have hok1 := Lib.hid (hok.out.act kd id sq p hpin.lab)
    have cSa := fun da1 dc1 ca1 cc1 ra1 rc1 W h1 h2 h3 h4 => same18_any g gm (s.act kd id sq p) da1 dc1 ca1 cc1 ra1 rc1 id hid W h1 h2 h3 h4 hok1.out
    have hfl : (flRow p.f).length = 24 := by rw [flRow_length, hpin.len]
    have hfo := flRow_one p.f
    obtain ⟨FR, hFR⟩ : ∃ FR, flRow p.f = FR := ⟨_, rfl⟩
    have hSR : saRow ⟨kd, id, sq, p⟩ = .int .i64 kd :: .int .i64 id :: .int .i64 sq :: .int .u32 p.mask :: .int .u32 p.lab :: FR := by rw [← hFR]; rfl
    rw [hFR] at hfl hfo cL1
    have zp : w.rangeAt b (off + j * 29) (saRow ⟨kd, id, sq, p⟩) := hrow
    rw [hSR] at zp cD
    have hsl : (Value.int .i64 kd :: .int .i64 id :: .int .i64 sq :: .int .u32 p.mask :: .int .u32 p.lab :: FR).length = 29 := by simp [hfl]
    have z1x : w.cell? ⟨b, off + j * 29 + 1, none⟩ = some (.int .i64 id) := zp 1 _ rfl
    have zF : w.rangeAt b (off + j * 29 + 5) FR := fun k v hk => by
      have := zp (5 + k) v (by rw [Nat.add_comm]; exact hk)
      rw [← Nat.add_assoc] at this
      exact this
    have hsz : sizeB Tryd.prog 32 29 = true := by kernel_rfl
    replace cL1 := Lib.hid cL1
    replace cD := Lib.hid cD
    replace cSa := Lib.hid cSa
    replace hpin := Lib.hid hpin
    clear hrow hSR hin
    generalize (s.act kd id sq p) = s1 at *
    generalize hlg : largeF p.f = lg at *
    cases lg
    case true =>
      go_wp2_with (first
        | (go_at_call 8; (with_reducible refine (cA.out _ (ht.out.fr hS.fr (by simp))).mono ?_); rintro _ w3 ⟨rfl, hk9⟩; have hS1 := hS.keepB hk9; clear hk9 hS; have hS := hS1; clear hS1)
        | (go_at_call 7; (with_reducible refine (cL1.out _).mono ?_); rintro _ w3 ⟨rfl, hk9⟩; have hS1 := hS.keepB hk9; clear hk9 hS; have hS := hS1; clear hS1)
        | (with_reducible refine wpList_rangerow (t := 28) (n := 24) (range_old hS zF) rfl rfl rfl (by kernel_rfl) (by kernel_rfl) hfl ?_))
      go_ret
      exact ⟨rfl, hS.below⟩
    clear hlg
    go_wp2_with (first
      | (go_at_call 7; (with_reducible refine (cL1.out _).mono ?_); rintro _ w3 ⟨rfl, hk9⟩; have hS1 := hS.keepB hk9; clear hk9 hS; have hS := hS1; clear hS1)
      | (with_reducible refine wpList_rangerow (t := 28) (n := 24) (range_old hS zF) rfl rfl rfl (by kernel_rfl) (by kernel_rfl) hfl ?_))
    have kz := hS.empty.kold0 z1x
    have kr := hS.empty.kold_row (P := Tryd.prog) (t := 32) zp (by kernel_rfl) hsz hsl
    refine mixs_beginE (by kernel_rfl) hS ?_
    clear hS
    intro w2 hS hC
    refine mixs_take 0 (v := ?_) rfl (by kernel_rfl) (fun _ _ _ h => h) (by kernel_rfl) (by assumption) (fun s => ?hy) ?_; case hy => (go_simp <;> with_reducible rfl)
    try simp only [List.getElem_toArray, List.getElem_cons_succ, List.getElem_cons_zero, Act.put, List.setIfInBounds_toArray, List.set_cons_zero, List.set_cons_succ]
    refine mixs_take 1 (v := ?_) rfl (by kernel_rfl) (fun _ _ _ h => h) (by kernel_rfl) (by assumption) (fun s => ?hy) ?_; case hy => (go_simp <;> with_reducible rfl)
    try simp only [List.getElem_toArray, List.getElem_cons_succ, List.getElem_cons_zero, Act.put, List.setIfInBounds_toArray, List.set_cons_zero, List.set_cons_succ]
    refine mixs_take 2 (v := ?_) rfl (by kernel_rfl) (fun _ _ _ h => h) (by kernel_rfl) (by assumption) (fun s => ?hy) ?_; case hy => (go_simp <;> with_reducible rfl)
    try simp only [List.getElem_toArray, List.getElem_cons_succ, List.getElem_cons_zero, Act.put, List.setIfInBounds_toArray, List.set_cons_zero, List.set_cons_succ]
    refine mixs_take 3 (v := ?_) rfl (by kernel_rfl) (fun _ _ _ h => h) (by kernel_rfl) (by assumption) (fun s => ?hy) ?_; case hy => (go_simp <;> with_reducible rfl)
    try simp only [List.getElem_toArray, List.getElem_cons_succ, List.getElem_cons_zero, Act.put, List.setIfInBounds_toArray, List.set_cons_zero, List.set_cons_succ]
    refine mixs_take 4 (v := ?_) rfl (by kernel_rfl) (fun _ _ _ h => h) (by kernel_rfl) (by assumption) (fun s => ?hy) ?_; case hy => (go_simp <;> with_reducible rfl)
    try simp only [List.getElem_toArray, List.getElem_cons_succ, List.getElem_cons_zero, Act.put, List.setIfInBounds_toArray, List.set_cons_zero, List.set_cons_succ]
    refine mixs_take 5 (v := ?_) rfl (by kernel_rfl) (fun _ _ _ h => h) (by kernel_rfl) (by assumption) (fun s => ?hy) ?_; case hy => (refine Eq.trans (take_loadrow s rfl rfl kr) ?_; with_reducible rfl)
    try simp only [List.getElem_toArray, List.getElem_cons_succ, List.getElem_cons_zero, Act.put, List.setIfInBounds_toArray, List.set_cons_zero, List.set_cons_succ]
    refine mixs_one 6 (by kernel_rfl) rfl (fun K hK => ?_)
    go_simp
    ( first | (go_at_call 15; (with_reducible refine (cD.out _ (hS.preM (A := []) (B := shA g gm s da dc ++ [rsB g2 s ca cc ra rc]) (R := R)) (ht.out.fr hS.fr (by simp)) (tab_feet (A := []) (B := shA g gm s da dc ++ [rsB g2 s ca cc ra rc]) (R := R) hS ht.out) (fun W k => hRL.out.at (A := []) (hS.offM (A := []) (B := shA g gm s da dc ++ [rsB g2 s ca cc ra rc]) (R := R) k))).mono ?_); rintro _ w3 ⟨rfl, da1, dc1, ca1, cc1, ra1, rc1, L1, hk9, hKL⟩; have hRL1 := Lib.hid (hRL.out.step hKL); clear hKL; have hS1 : St w [] (shA g gm s1 da1 dc1 ++ (rsB g2 s1 ca1 cc1 ra1 rc1 :: (L1 ++ R))) w3 := hS.callM (A := []) (B := shA g gm s da dc ++ [rsB g2 s ca cc ra rc]) (R := R) hk9; clear hS hk9; have hS := hS1; clear hS1) | (go_at_call 16; have q1 := hRL1.out.at (A := shA g gm s1 da1 dc1 ++ [rsB g2 s1 ca1 cc1 ra1 rc1]) hS; have q2 := shAt_st hS 0 1 2 rfl rfl rfl; have q3 : World.cell? _ ⟨g, 0, none⟩ = some (.int .i64 s1.next) := hS.cell 0 rfl 0; (with_reducible refine (cSa.out _ _ _ _ _ _ _ q2 q3 q1.1 q1.2).mono ?_); clear q1 q2 q3; rintro _ w3 ⟨rfl, hk9⟩; have hS1 := hS.keepB hk9; clear hk9 hS; have hS := hS1; clear hS1) )
    try clear hC
    refine hK.out _ _ _ (fun _ h => h) (by first | exact hS | exact hS.drop | exact hS.drop.drop | exact hS.drop.drop.drop | exact hS.drop.drop.drop.drop | exact hS.empty | exact hS.one 0 rfl | exact hS.one 1 rfl | exact hS.one 2 rfl | exact hS.one 3 rfl | exact hS.one 4 rfl | exact hS.one 5 rfl | exact hS.one 6 rfl | exact hS.one 7 rfl | exact hS.one 8 rfl | exact hS.one 9 rfl | exact hS.one 10 rfl | exact hS.one 11 rfl) (fun hC => ?_)
    clear hK K
    try simp only [List.getElem_toArray, List.getElem_cons_succ, List.getElem_cons_zero, Act.put, List.setIfInBounds_toArray, List.set_cons_zero, List.set_cons_succ]
    refine mixs_take 7 (v := ?_) rfl (by kernel_rfl) (fun _ _ _ h => h) (by kernel_rfl) (by assumption) (fun s => ?hy) ?_; case hy => (go_simp <;> with_reducible rfl)
    try simp only [List.getElem_toArray, List.getElem_cons_succ, List.getElem_cons_zero, Act.put, List.setIfInBounds_toArray, List.set_cons_zero, List.set_cons_succ]
    refine mixs_take 8 (v := ?_) rfl (by kernel_rfl) (fun _ _ _ h => h) (by kernel_rfl) (by assumption) (fun s => ?hy) ?_; case hy => (go_simp <;> with_reducible rfl)
    try simp only [List.getElem_toArray, List.getElem_cons_succ, List.getElem_cons_zero, Act.put, List.setIfInBounds_toArray, List.set_cons_zero, List.set_cons_succ]
    refine mixs_take 9 (v := ?_) rfl (by kernel_rfl) (fun _ _ _ h => h) (by kernel_rfl) (by assumption) (fun s => ?hy) ?_; case hy => (go_simp <;> with_reducible rfl)
    try simp only [List.getElem_toArray, List.getElem_cons_succ, List.getElem_cons_zero, Act.put, List.setIfInBounds_toArray, List.set_cons_zero, List.set_cons_succ]
    refine mixs_take 10 (v := ?_) rfl (by kernel_rfl) (fun _ _ _ h => h) (by kernel_rfl) (by assumption) (fun s => ?hy) ?_; case hy => (go_simp <;> with_reducible rfl)
    try simp only [List.getElem_toArray, List.getElem_cons_succ, List.getElem_cons_zero, Act.put, List.setIfInBounds_toArray, List.set_cons_zero, List.set_cons_succ]
    refine mixs_take 11 (v := ?_) rfl (by kernel_rfl) (fun _ _ _ h => h) (by kernel_rfl) (by assumption) (fun s => ?hy) ?_; case hy => (go_simp <;> with_reducible rfl)
    try simp only [List.getElem_toArray, List.getElem_cons_succ, List.getElem_cons_zero, Act.put, List.setIfInBounds_toArray, List.set_cons_zero, List.set_cons_succ]
    refine mixs_take 13 (v := ?_) rfl (by kernel_rfl) (fun _ _ _ h => h) (by kernel_rfl) (by assumption) (fun s => ?hy) ?_; case hy => (go_simp <;> with_reducible rfl)
    try simp only [List.getElem_toArray, List.getElem_cons_succ, List.getElem_cons_zero, Act.put, List.setIfInBounds_toArray, List.set_cons_zero, List.set_cons_succ]
    refine mixs_take 14 (v := ?_) rfl (by kernel_rfl) (fun _ _ _ h => h) (by kernel_rfl) (by assumption) (fun s => ?hy) ?_; case hy => (go_simp <;> with_reducible rfl)
    try simp only [List.getElem_toArray, List.getElem_cons_succ, List.getElem_cons_zero, Act.put, List.setIfInBounds_toArray, List.set_cons_zero, List.set_cons_succ]
    refine mixs_take 15 (v := ?_) rfl (by kernel_rfl) (fun _ _ _ h => h) (by kernel_rfl) (by assumption) (fun s => ?hy) ?_; case hy => (go_simp <;> with_reducible rfl)
    try simp only [List.getElem_toArray, List.getElem_cons_succ, List.getElem_cons_zero, Act.put, List.setIfInBounds_toArray, List.set_cons_zero, List.set_cons_succ]
    refine mixs_take 16 (v := ?_) rfl (by kernel_rfl) (fun _ _ _ h => h) (by kernel_rfl) (by assumption) (fun s => ?hy) ?_; case hy => (go_simp <;> with_reducible rfl)
    try simp only [List.getElem_toArray, List.getElem_cons_succ, List.getElem_cons_zero, Act.put, List.setIfInBounds_toArray, List.set_cons_zero, List.set_cons_succ]
    refine mixs_take 17 (v := ?_) rfl (by kernel_rfl) (fun _ _ _ h => h) (by kernel_rfl) (by assumption) (fun s => ?hy) ?_; case hy => (go_simp <;> with_reducible rfl)
    try simp only [List.getElem_toArray, List.getElem_cons_succ, List.getElem_cons_zero, Act.put, List.setIfInBounds_toArray, List.set_cons_zero, List.set_cons_succ]
    refine mixs_one 12 (by kernel_rfl) rfl (fun K hK => ?_)
    refine op_loadall_st (by kernel_rfl) 3 hS rfl rfl rfl (by simp [rowB, go_sem]) (by kernel_rfl) ?_
    try clear hC
    refine hK.out _ _ _ (fun _ h => h) (by first | exact hS | exact hS.drop | exact hS.drop.drop | exact hS.drop.drop.drop | exact hS.drop.drop.drop.drop | exact hS.empty | exact hS.one 0 rfl | exact hS.one 1 rfl | exact hS.one 2 rfl | exact hS.one 3 rfl | exact hS.one 4 rfl | exact hS.one 5 rfl | exact hS.one 6 rfl | exact hS.one 7 rfl | exact hS.one 8 rfl | exact hS.one 9 rfl | exact hS.one 10 rfl | exact hS.one 11 rfl) (fun hC => ?_)
    clear hK K
    try simp only [List.getElem_toArray, List.getElem_cons_succ, List.getElem_cons_zero, Act.put, List.setIfInBounds_toArray, List.set_cons_zero, List.set_cons_succ]
    refine mixs_one 18 (by kernel_rfl) rfl (fun K hK => ?_)
    go_simp
    ( first | (go_at_call 15; (with_reducible refine (cD.out _ (hS.preM (A := []) (B := shA g gm s da dc ++ [rsB g2 s ca cc ra rc]) (R := R)) (ht.out.fr hS.fr (by simp)) (tab_feet (A := []) (B := shA g gm s da dc ++ [rsB g2 s ca cc ra rc]) (R := R) hS ht.out) (fun W k => hRL.out.at (A := []) (hS.offM (A := []) (B := shA g gm s da dc ++ [rsB g2 s ca cc ra rc]) (R := R) k))).mono ?_); rintro _ w3 ⟨rfl, da1, dc1, ca1, cc1, ra1, rc1, L1, hk9, hKL⟩; have hRL1 := Lib.hid (hRL.out.step hKL); clear hKL; have hS1 : St w [] (shA g gm s1 da1 dc1 ++ (rsB g2 s1 ca1 cc1 ra1 rc1 :: (L1 ++ R))) w3 := hS.callM (A := []) (B := shA g gm s da dc ++ [rsB g2 s ca cc ra rc]) (R := R) hk9; clear hS hk9; have hS := hS1; clear hS1) | (go_at_call 16; have q1 := hRL1.out.at (A := shA g gm s1 da1 dc1 ++ [rsB g2 s1 ca1 cc1 ra1 rc1]) hS; have q2 := shAt_st hS 0 1 2 rfl rfl rfl; have q3 : World.cell? _ ⟨g, 0, none⟩ = some (.int .i64 s1.next) := hS.cell 0 rfl 0; (with_reducible refine (cSa.out _ _ _ _ _ _ _ q2 q3 q1.1 q1.2).mono ?_); clear q1 q2 q3; rintro _ w3 ⟨rfl, hk9⟩; have hS1 := hS.keepB hk9; clear hk9 hS; have hS := hS1; clear hS1) )
    try clear hC
    refine hK.out _ _ _ (fun _ h => h) (by first | exact hS | exact hS.drop | exact hS.drop.drop | exact hS.drop.drop.drop | exact hS.drop.drop.drop.drop | exact hS.empty | exact hS.one 0 rfl | exact hS.one 1 rfl | exact hS.one 2 rfl | exact hS.one 3 rfl | exact hS.one 4 rfl | exact hS.one 5 rfl | exact hS.one 6 rfl | exact hS.one 7 rfl | exact hS.one 8 rfl | exact hS.one 9 rfl | exact hS.one 10 rfl | exact hS.one 11 rfl) (fun hC => ?_)
    clear hK K
    try simp only [List.getElem_toArray, List.getElem_cons_succ, List.getElem_cons_zero, Act.put, List.setIfInBounds_toArray, List.set_cons_zero, List.set_cons_succ]
    refine mixs_take 19 (v := ?_) rfl (by kernel_rfl) (fun _ _ _ h => h) (by kernel_rfl) (by assumption) (fun s => ?hy) ?_; case hy => (go_simp <;> with_reducible rfl)
    try simp only [List.getElem_toArray, List.getElem_cons_succ, List.getElem_cons_zero, Act.put, List.setIfInBounds_toArray, List.set_cons_zero, List.set_cons_succ]
    refine mixs_take 20 (v := ?_) rfl (by kernel_rfl) (fun _ _ _ h => h) (by kernel_rfl) (by assumption) (fun s => ?hy) ?_; case hy => (go_simp <;> with_reducible rfl)
    try simp only [List.getElem_toArray, List.getElem_cons_succ, List.getElem_cons_zero, Act.put, List.setIfInBounds_toArray, List.set_cons_zero, List.set_cons_succ]
    refine wpAnyH_done (by kernel_rfl) ?_ _
    clear kz kr
    go_wp2_with fail
    go_roundg (n - (j + 1))
    case measure => omega
    case rel => exact ⟨j + 1, s1, da1, dc1, ca1, cc1, ra1, rc1, L1 ++ R, by omega, (by
      have h2 := h200.out
      have h3 : wrap64 ((j : Int) + 1) = (j : Int) + 1 := by rw [← IntWalk.i64_left, IntWalk.i64_in _ (by omega)]
      first | go_num | (simp only [IntWalk.i64_left, h3]; rfl) | (rw [h3]; rfl) | (simp [h3])), hok1, hRL1, hS⟩
end Go.Proofs.YtneolmnpebiifaaDoor
end
