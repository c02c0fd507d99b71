/- Texts laid together: ShelfOnce. -/
import Derived.Deep.CutRange
import Derived.Deep.CutBlock
import Derived.Test.YtneolmnpebiifaaDoorM2
import Derived.Test.YtneolmnpebiifaaDoorM6
import Derived.Test.YtneolmnpebiifaaDoorM7
import Derived.Test.YtneolmnpebiifaaDoorM9
section
/- The law ShelfOnce. -/
set_option linter.unusedSimpArgs false
set_option linter.unusedVariables false
namespace Go.Ofp
open Go.RowKit
/-- What a shelf's act leaves. -/
structure Left18 (s s1 : ShS) (aid last : Int) : Prop where
  ok : ShOk s1
  last : 0 ≤ last ∧ last < s1.next
  keep : ∀ c ∈ s.m, c.id ≠ aid → lookC s1.m c.id = some c
end Go.Ofp
namespace Go.Proofs.YtneolmnpebiifaaDoor
open Go.RowKit Go.Ofp
set_option linter.unusedVariables false
set_option maxRecDepth 100000
set_option maxHeartbeats 8000000
theorem elem_sa : Elem Tryd.prog 32 (.agg #[.int .i64 0, .int .i64 0, .int .i64 0, .int .u32 0, .int .u32 0, .int .i64 0, .int .i64 0, .string ⟨#[]⟩, .int .i64 0, .int .i64 0, .string ⟨#[]⟩, .int .i64 0, .int .i64 0, .string ⟨#[]⟩, .int .i64 0, .int .i64 0, .string ⟨#[]⟩, .int .i64 0, .int .i64 0, .string ⟨#[]⟩, .int .i64 0, .int .i64 0, .string ⟨#[]⟩, .int .i64 0, .int .i64 0, .string ⟨#[]⟩, .int .i64 0, .int .i64 0, .string ⟨#[]⟩]) 29 288 := Elem.mk (by kernel_rfl) (by rfl) (by decide)
theorem cds_ok {s : ShS} (h : ShOk s) : ∀ c ∈ s.m, CdOk c := fun c hc => ⟨h.fl c hc, by have := h.id c hc; have := h.next; omega⟩
theorem ShAt.below {w w' : World} {g gm : Nat} {s : ShS} {da : Option Addr} {dc : Nat} (h : ShAt w g gm s da dc) (k : Below w.heap.size w w') : ShAt w' g gm s da dc :=
  ⟨(Fr.of_below k).cell h.c1 (by simp), (Fr.of_below k).cell h.c2 (by simp), h.im.below k, h.dl.below k⟩
theorem once18_any (a : Option Addr) (n c : Nat) (l : List Sa) (w : World) (hl : Lst saRow SaIn w a n c l) (ht : Tab w) :
    Calls Tryd.prog 3 #[.slice a n c] w fun e w' => e = .returned (.bool true) ∧ Below w.heap.size w w' := by
  have hS := St.start w
  have ec := elem_card
  have ea := elem_sa
  have hG := guard_cd
  have cN := Lib.hid fun W => snew_any W
  have cA := Lib.hid fun W h => awake18_any W h
  have cL := Lib.hid fun f hf W => large6_any f hf W
  have cC := Lib.hid fun g gm n M W h1 h2 h3 h4 h5 => scards_any g gm n M W h1 h2 h3 h4 h5
  have hlen := Lib.hid hl.len
  have hlens := Lib.hid (show ∀ x ∈ l, (saRow x).length = 29 from fun x hx => saRow_len x (hl.mem x hx).p.len)
  have hbase := Lib.hid (hl.base (by decide) hlens.out)
  have hmem := Lib.hid hl.mem
  have hle := hl.le
  have hcm := hl.cm
  replace hl := Lib.hid hl
  replace ht := Lib.hid ht
  go_enter Tryd.func3, Tryd.ntmps3
  go_wp2_with (first
    | (go_at_call 6; (with_reducible refine (cN.out _).mono ?_); rintro _ w3 ⟨g, gm, rfl, hk9⟩; have hS1 := hS.made hk9; clear hS hk9; have hS : St w [] (shA g gm ShS.new none 0 ++ []) w3 := hS1; clear hS1))
  go_loopg [4, 5] n (fun gk vl vx wr => ∃ (j : Nat) (s : ShS) (da : Option Addr) (dc : Nat) (last : Int), j + gk = n ∧ vx = .int .i64 j ∧ vl = .int .i64 last ∧ Hid (ShOk s) ∧ Hid (0 ≤ last ∧ last < s.next) ∧ St w [] (shA g gm s da dc ++ []) wr)
  case atStart => exact ⟨0, ShS.new, none, 0, 0, Nat.zero_add _, rfl, rfl, Lib.hid ShOk.new, Lib.hid ⟨by decide, by decide⟩, hS⟩
  case round =>
    clear hS
    obtain ⟨j, s, da, dc, last, hj, rfl, rfl, hok, hls, hS⟩ := hrel
    by_cases hlt : j < n
    case neg =>
      go_wp2_with (go_at_call 8; (with_reducible refine (cA.out _ (ht.out.fr hS.fr (by simp))).mono ?_); rintro _ w3 ⟨rfl, hk9⟩; have hS1 := hS.keepB hk9; clear hk9 hS; have hS := hS1; clear hS1)
      go_ret
      exact ⟨rfl, hS.below⟩
    by_cases h200 : j < 200
    case neg =>
      have d2 : decide ((j : Int) < 200) = false := decide_eq_false (by omega)
      have d3 : decide (j < 200) = false := decide_eq_false (by omega)
      clear h200
      go_wp2_with (go_at_call 8; (with_reducible refine (cA.out _ (ht.out.fr hS.fr (by simp))).mono ?_); rintro _ w3 ⟨rfl, hk9⟩; have hS1 := hS.keepB hk9; clear hk9 hS; have hS := hS1; clear hS1)
      go_ret
      exact ⟨rfl, hS.below⟩
    have d2 : decide ((j : Int) < 200) = true := decide_eq_true (by omega)
    have d3 : decide (j < 200) = true := decide_eq_true (by omega)
    replace h200 := Lib.hid h200
    have hjl : j < l.length := by rw [hlen.out]; exact hlt
    obtain ⟨b, off, rfl⟩ := hbase.out (by omega)
    have hrow := hl.out.rowb hlens.out j hjl
    have hin := hmem.out _ (List.getElem_mem hjl)
    generalize l[j] = x at *
    obtain ⟨kd, id, sq, p⟩ := x
    have hpin : PtIn p := hin.p
    have hid : I64 id := hin.id
    have hsq : I64 sq := hin.seq
    have cL1 := fun W => cL.out p.f hpin.len W
    have hfl : (flRow p.f).length = 24 := by rw [flRow_length, hpin.len]
    have hfo := flRow_one p.f
    obtain ⟨FR, hFR⟩ : ∃ FR, flRow p.f = FR := ⟨_, rfl⟩
    have hSR : saRow ⟨kd, id, sq, p⟩ = .int .i64 kd :: .int .i64 id :: .int .i64 sq :: .int .u32 p.mask :: .int .u32 p.lab :: FR := by rw [← hFR]; rfl
    have hPR : ptRow p = .int .u32 p.mask :: .int .u32 p.lab :: FR := by rw [← hFR]; rfl
    rw [hFR] at hfl hfo cL1
    have zp : w.rangeAt b (off + j * 29) (saRow ⟨kd, id, sq, p⟩) := hrow
    rw [hSR] at zp
    have hsl : (Value.int .i64 kd :: .int .i64 id :: .int .i64 sq :: .int .u32 p.mask :: .int .u32 p.lab :: FR).length = 29 := by simp [hfl]
    have hso : (Value.int .i64 kd :: .int .i64 id :: .int .i64 sq :: .int .u32 p.mask :: .int .u32 p.lab :: FR).all Value.oneCell' = true := by simp only [List.all_cons, hfo]; rfl
    have hrF : ((Value.int .i64 kd :: .int .i64 id :: .int .i64 sq :: .int .u32 p.mask :: .int .u32 p.lab :: FR).toArray.toList.drop 5).take 24 = FR := by simp [← hfl]
    have hrP : ((Value.int .i64 kd :: .int .i64 id :: .int .i64 sq :: .int .u32 p.mask :: .int .u32 p.lab :: FR).toArray.toList.drop 3).take 26 = .int .u32 p.mask :: .int .u32 p.lab :: FR := by simp [← hfl]
    have hpl : (Value.int .u32 p.mask :: .int .u32 p.lab :: FR).length = 26 := by simp [hfl]
    replace cL1 := Lib.hid cL1
    replace hpin := Lib.hid hpin
    replace hPR := Lib.hid hPR
    clear hrow hSR hin
    have hcs := Lib.hid fun (w0 w1 : World) (F : List Nat) (A : Ch) (h : St w0 F (A :: (shA g gm s da dc ++ [])) w1) => (⟨(h.preM (A := [A]) (B := shA g gm s da dc) (R := [])).cell 0 rfl 1, (h.preM (A := [A]) (B := shA g gm s da dc) (R := [])).get 1 rfl⟩ : w1.cell? ⟨g, 1, none⟩ = some (.map (some gm)) ∧ IMap Tryd.prog 3 w1 gm s.m.length (cdM cdRow s.m))
    generalize hlg : largeF p.f = lg at *
    cases lg
    case true =>
      go_wp2_with (first
        | (go_at_call 8; (with_reducible refine (cA.out _ (ht.out.fr hS.fr (by simp))).mono ?_); rintro _ w3 ⟨rfl, hk9⟩; have hS1 := hS.keepB hk9; clear hk9 hS; have hS := hS1; clear hS1)
        | (go_at_call 7; (with_reducible refine (cL1.out _).mono ?_); rintro _ w3 ⟨rfl, hk9⟩; have hS1 := hS.keepB hk9; clear hk9 hS; have hS := hS1; clear hS1) | (with_reducible refine wpList_rangerow (t := 32) (n := 29) (range_old hS zp) rfl rfl rfl (by kernel_rfl) (by kernel_rfl) hsl ?_) | (with_reducible refine wpList_alloc_st (t := 32) hS rfl rfl ea ?_; intro ga w1 hS1; clear hS; have hS := hS1; clear hS1) | ((with_reducible refine wpList_storerow_st (t := 32) (n := 29) (vs := Value.int .i64 kd :: .int .i64 id :: .int .i64 sq :: .int .u32 p.mask :: .int .u32 p.lab :: FR) 0 hS rfl rfl rfl rfl (by kernel_rfl) rfl hsl hso (by kernel_rfl) ?_); intro w1 hS1; clear hS; have hS := hS1; clear hS1; try simp only [List.set_cons_zero, List.set_cons_succ, List.setIfInBounds_toArray, List.take_succ_cons, List.take_zero, List.drop_succ_cons, List.drop_zero, List.nil_append, List.cons_append, List.append_nil, List.drop_nil, List.take_nil, List.length_cons, List.length_nil, Nat.zero_add, Nat.add_zero, Nat.reduceAdd] at hS) | ((with_reducible refine wpList_loadrow_st (t := 28) (n := 24) (j := 5) (vs := FR) 0 hS rfl rfl rfl rfl (by kernel_rfl) (by kernel_rfl) hrF hfl ?_)) | (go_at_call 9; (with_reducible refine (cC.out g gm _ _ _ (hcs.out _ _ _ _ hS).1 (hcs.out _ _ _ _ hS).2 hok.out.ris (cds_ok hok.out) (by have := hok.out.len; omega)).mono ?_); rintro _ w3 ⟨wa, wk, rfl, hk9⟩; have hS1 := hS.made hk9; clear hS hk9; have hS := hS1; clear hS1))
      go_ret
      exact ⟨rfl, hS.below⟩
    clear hlg
    go_upto_block 2 with (first
      | (go_at_call 7; (with_reducible refine (cL1.out _).mono ?_); rintro _ w3 ⟨rfl, hk9⟩; have hS1 := hS.keepB hk9; clear hk9 hS; have hS := hS1; clear hS1) | (with_reducible refine wpList_rangerow (t := 32) (n := 29) (range_old hS zp) rfl rfl rfl (by kernel_rfl) (by kernel_rfl) hsl ?_) | (with_reducible refine wpList_alloc_st (t := 32) hS rfl rfl ea ?_; intro ga w1 hS1; clear hS; have hS := hS1; clear hS1) | ((with_reducible refine wpList_storerow_st (t := 32) (n := 29) (vs := Value.int .i64 kd :: .int .i64 id :: .int .i64 sq :: .int .u32 p.mask :: .int .u32 p.lab :: FR) 0 hS rfl rfl rfl rfl (by kernel_rfl) rfl hsl hso (by kernel_rfl) ?_); intro w1 hS1; clear hS; have hS := hS1; clear hS1; try simp only [List.set_cons_zero, List.set_cons_succ, List.setIfInBounds_toArray, List.take_succ_cons, List.take_zero, List.drop_succ_cons, List.drop_zero, List.nil_append, List.cons_append, List.append_nil, List.drop_nil, List.take_nil, List.length_cons, List.length_nil, Nat.zero_add, Nat.add_zero, Nat.reduceAdd] at hS) | ((with_reducible refine wpList_loadrow_st (t := 28) (n := 24) (j := 5) (vs := FR) 0 hS rfl rfl rfl rfl (by kernel_rfl) (by kernel_rfl) hrF hfl ?_)) | (go_at_call 9; (with_reducible refine (cC.out g gm _ _ _ (hcs.out _ _ _ _ hS).1 (hcs.out _ _ _ _ hS).2 hok.out.ris (cds_ok hok.out) (by have := hok.out.len; omega)).mono ?_); rintro _ w3 ⟨wa, wk, rfl, hk9⟩; have hS1 := hS.made hk9; clear hS hk9; have hS := hS1; clear hS1)
      | (with_reducible refine wpList_box_st hS rfl rfl rfl ?_; intro g1 w1 hS1; clear hS; replace hS := hS1; clear hS1) | (with_reducible refine wpList_box1_st hS rfl rfl rfl ?_; intro g1 w1 hS1; clear hS; replace hS := hS1; clear hS1) | (with_reducible refine wpList_alloc_st hS rfl rfl (by assumption) ?_; intro g1 w1 hS1; clear hS; replace hS := hS1; clear hS1) | (with_reducible refine wpList_alloc1_st hS rfl rfl (by assumption) rfl ?_; intro g1 w1 hS1; clear hS; replace hS := hS1; clear hS1) | ((with_reducible refine wpList_load_st 0 hS rfl rfl rfl rfl ?_ rfl ?_); focus (simp [scalarB, go_sem]; done)) | ((with_reducible refine wpList_loadall_st 0 hS rfl rfl rfl rfl ?_ (by kernel_rfl) ?_); focus (simp [rowB, go_sem]; done)) | ((with_reducible refine wpList_store_st 0 hS rfl rfl rfl rfl (by kernel_rfl) rfl rfl ?_); intro w1 hS1; clear hS; replace hS := hS1; clear hS1; try simp only [List.set_cons_zero, List.set_cons_succ, List.setIfInBounds_toArray, List.take_succ_cons, List.take_zero, List.drop_succ_cons, List.drop_zero, List.nil_append, List.cons_append, List.append_nil, List.drop_nil, List.take_nil, List.length_cons, List.length_nil, Nat.zero_add, Nat.add_zero, Nat.reduceAdd] at hS) | ((with_reducible refine wpList_storerow_st 0 hS rfl rfl rfl rfl (by kernel_rfl) rfl rfl rfl rfl ?_); intro w1 hS1; clear hS; replace hS := hS1; clear hS1; try simp only [List.set_cons_zero, List.set_cons_succ, List.setIfInBounds_toArray, List.take_succ_cons, List.take_zero, List.drop_succ_cons, List.drop_zero, List.nil_append, List.cons_append, List.append_nil, List.drop_nil, List.take_nil, List.length_cons, List.length_nil, Nat.zero_add, Nat.add_zero, Nat.reduceAdd] at hS) | ((with_reducible refine wpList_load_st 1 hS rfl rfl rfl rfl ?_ rfl ?_); focus (simp [scalarB, go_sem]; done)) | ((with_reducible refine wpList_loadall_st 1 hS rfl rfl rfl rfl ?_ (by kernel_rfl) ?_); focus (simp [rowB, go_sem]; done)) | ((with_reducible refine wpList_store_st 1 hS rfl rfl rfl rfl (by kernel_rfl) rfl rfl ?_); intro w1 hS1; clear hS; replace hS := hS1; clear hS1; try simp only [List.set_cons_zero, List.set_cons_succ, List.setIfInBounds_toArray, List.take_succ_cons, List.take_zero, List.drop_succ_cons, List.drop_zero, List.nil_append, List.cons_append, List.append_nil, List.drop_nil, List.take_nil, List.length_cons, List.length_nil, Nat.zero_add, Nat.add_zero, Nat.reduceAdd] at hS) | ((with_reducible refine wpList_storerow_st 1 hS rfl rfl rfl rfl (by kernel_rfl) rfl rfl rfl rfl ?_); intro w1 hS1; clear hS; replace hS := hS1; clear hS1; try simp only [List.set_cons_zero, List.set_cons_succ, List.setIfInBounds_toArray, List.take_succ_cons, List.take_zero, List.drop_succ_cons, List.drop_zero, List.nil_append, List.cons_append, List.append_nil, List.drop_nil, List.take_nil, List.length_cons, List.length_nil, Nat.zero_add, Nat.add_zero, Nat.reduceAdd] at hS))
    go_simp
    go_cut [4, 8, 9, 10, 11, 12, 13] from 18 to 155 (fun v4 v8 v9 v10 v11 v12 v13 wc => ∃ (s1 : ShS) (da1 : Option Addr) (dc1 : Nat) (last1 : Int), v4 = .int .i64 last1 ∧ Hid (Left18 s s1 id last1) ∧ St w [] (Ch.row 38 27 (.slice wa s.m.length wk) s.m.length (s.m.map cdRow).flatten :: Ch.blk ga 32 (Value.int .i64 kd :: .int .i64 id :: .int .i64 sq :: .int .u32 p.mask :: .int .u32 p.lab :: FR).toArray :: (shA g gm s1 da1 dc1 ++ [])) wc)
    case first =>
      clear hcs cL1 hsl hso hrF hlen hlens hbase hmem
      by_cases hk0 : kd = 0
      · subst hk0
        have cAd := fun W hA hT hF => sadd_any g gm s da dc p hpin.out W hA hok.out hT hF
        have hL : ∀ last1 : Int, 0 ≤ last1 → last1 < (s.add p).1.next → Left18 s (s.add p).1 id last1 := fun l1 h1 h2 => ⟨hok.out.add p hpin.out.lab, ⟨h1, h2⟩, fun c hc _ => add_keep hok.out hc⟩
        have hcc : ((s.add p).2.2 = 0 ∧ (s.add p).2.1.id = s.next ∧ (s.add p).2.1.ver = 1 ∧ (s.add p).1.next = s.next + 1) ∨ ((s.add p).2.2 ≠ 0 ∧ (s.add p).2.1.id = 0 ∧ (s.add p).1.next = s.next) := by
          by_cases he : (s.add p).2.2 = 0
          · left
            have e := add_yes he
            rw [e]
            exact ⟨rfl, rfl, rfl, rfl⟩
          · right
            refine ⟨he, ?_⟩
            unfold ShS.add at he ⊢
            split
            · exact ⟨rfl, rfl⟩
            · rename_i h1
              rw [if_neg h1] at he
              split
              · exact ⟨rfl, rfl⟩
              · rename_i h2
                rw [if_neg h2] at he
                exact absurd rfl he
        have hcf : (s.add p).2.1.f.length = 8 := by
          unfold ShS.add
          split
          · rfl
          · split
            · rfl
            · exact fresh_f _ _
        have hcl := cdRow_lenT _ hcf
        have hco := cdRow_oneT (s.add p).2.1
        have hgV : sgV (s.add p).2 = .tuple #[.agg (cdRow (s.add p).2.1).toArray, .int .i64 (s.add p).2.2] := rfl
        obtain ⟨CT, hCT⟩ : ∃ CT, cdRow (s.add p).2.1 = .int .i64 (s.add p).2.1.id :: .int .i64 (s.add p).2.1.ver :: CT := ⟨_, rfl⟩
        rw [hCT] at hcl hco hgV
        rw [hPR.out, hgV] at cAd
        clear hgV hCT hcf
        generalize (s.add p).2.1.id = ci at *
        generalize (s.add p).2.1.ver = cv at *
        generalize (s.add p).2.2 = er at *
        generalize (s.add p).1 = s1 at *
        replace cAd := Lib.hid cAd
        replace hL := Lib.hid hL
        have hl0 := hls.out.1
        have hl1 := hls.out.2
        rcases hcc with ⟨rfl, hc1, rfl, hc2⟩ | ⟨he, hc1, hc2⟩
        · have dle : decide (ci ≤ last) = false := decide_eq_false (by omega)
          replace hc1 := Lib.hid hc1
          replace hc2 := Lib.hid hc2
          replace hl0 := Lib.hid hl0
          replace hl1 := Lib.hid hl1
          go_wp2_with (first
            | (go_at_call 10; (with_reducible refine (cAd.out _ (hS.preM (A := [_, _]) (B := shA g gm s da dc) (R := [])) (ht.out.fr hS.fr (by simp)) (tab_feet (A := [_, _]) (R := []) hS ht.out)).mono ?_); rintro _ w3 ⟨rfl, hk9⟩; have hS1 := hS.callM (A := [_, _]) (B := shA g gm s da dc) (R := []) hk9; clear hS hk9; have hS := hS1; clear hS1)
            | ((with_reducible refine wpList_loadrow_st (t := 30) (n := 26) (j := 3) (vs := Value.int .u32 p.mask :: .int .u32 p.lab :: FR) 1 hS rfl rfl rfl rfl (by kernel_rfl) (by kernel_rfl) hrP hpl ?_)) | ((with_reducible refine wpList_loadrow_st (t := 30) (n := 26) (j := 3) (vs := Value.int .u32 p.mask :: .int .u32 p.lab :: FR) 2 hS rfl rfl rfl rfl (by kernel_rfl) (by kernel_rfl) hrP hpl ?_)) | (with_reducible refine wpList_alloc_st (t := 38) hS rfl rfl ec ?_; intro gc w1 hS1; clear hS; have hS := hS1; clear hS1)
            | ((with_reducible refine wpList_storerow_st (t := 38) (n := 27) (vs := Value.int .i64 ci :: .int .i64 _ :: CT) 0 hS rfl rfl rfl rfl (by kernel_rfl) rfl hcl hco (by kernel_rfl) ?_); intro w1 hS1; clear hS; have hS := hS1; clear hS1; try simp only [List.set_cons_zero, List.set_cons_succ, List.setIfInBounds_toArray, List.take_succ_cons, List.take_zero, List.drop_succ_cons, List.drop_zero, List.nil_append, List.cons_append, List.append_nil, List.drop_nil, List.take_nil, List.length_cons, List.length_nil, Nat.zero_add, Nat.add_zero, Nat.reduceAdd] at hS; have y0 : World.cell? _ ⟨gc, 0, none⟩ = some (.int .i64 ci) := hS.cell 0 rfl 0; have y1 : World.cell? _ ⟨gc, 1, none⟩ = some (.int .i64 _) := hS.cell 0 rfl 1)
            | (with_reducible refine wpList_box_st hS rfl rfl rfl ?_; intro g1 w1 hS1; clear hS; replace hS := hS1; clear hS1) | (with_reducible refine wpList_box1_st hS rfl rfl rfl ?_; intro g1 w1 hS1; clear hS; replace hS := hS1; clear hS1) | (with_reducible refine wpList_alloc_st hS rfl rfl (by assumption) ?_; intro g1 w1 hS1; clear hS; replace hS := hS1; clear hS1) | (with_reducible refine wpList_alloc1_st hS rfl rfl (by assumption) rfl ?_; intro g1 w1 hS1; clear hS; replace hS := hS1; clear hS1) | ((with_reducible refine wpList_load_st 0 hS rfl rfl rfl rfl ?_ rfl ?_); focus (simp [scalarB, go_sem]; done)) | ((with_reducible refine wpList_loadall_st 0 hS rfl rfl rfl rfl ?_ (by kernel_rfl) ?_); focus (simp [rowB, go_sem]; done)) | ((with_reducible refine wpList_store_st 0 hS rfl rfl rfl rfl (by kernel_rfl) rfl rfl ?_); intro w1 hS1; clear hS; replace hS := hS1; clear hS1; try simp only [List.set_cons_zero, List.set_cons_succ, List.setIfInBounds_toArray, List.take_succ_cons, List.take_zero, List.drop_succ_cons, List.drop_zero, List.nil_append, List.cons_append, List.append_nil, List.drop_nil, List.take_nil, List.length_cons, List.length_nil, Nat.zero_add, Nat.add_zero, Nat.reduceAdd] at hS) | ((with_reducible refine wpList_storerow_st 0 hS rfl rfl rfl rfl (by kernel_rfl) rfl rfl rfl rfl ?_); intro w1 hS1; clear hS; replace hS := hS1; clear hS1; try simp only [List.set_cons_zero, List.set_cons_succ, List.setIfInBounds_toArray, List.take_succ_cons, List.take_zero, List.drop_succ_cons, List.drop_zero, List.nil_append, List.cons_append, List.append_nil, List.drop_nil, List.take_nil, List.length_cons, List.length_nil, Nat.zero_add, Nat.add_zero, Nat.reduceAdd] at hS) | ((with_reducible refine wpList_load_st 1 hS rfl rfl rfl rfl ?_ rfl ?_); focus (simp [scalarB, go_sem]; done)) | ((with_reducible refine wpList_loadall_st 1 hS rfl rfl rfl rfl ?_ (by kernel_rfl) ?_); focus (simp [rowB, go_sem]; done)) | ((with_reducible refine wpList_store_st 1 hS rfl rfl rfl rfl (by kernel_rfl) rfl rfl ?_); intro w1 hS1; clear hS; replace hS := hS1; clear hS1; try simp only [List.set_cons_zero, List.set_cons_succ, List.setIfInBounds_toArray, List.take_succ_cons, List.take_zero, List.drop_succ_cons, List.drop_zero, List.nil_append, List.cons_append, List.append_nil, List.drop_nil, List.take_nil, List.length_cons, List.length_nil, Nat.zero_add, Nat.add_zero, Nat.reduceAdd] at hS) | ((with_reducible refine wpList_storerow_st 1 hS rfl rfl rfl rfl (by kernel_rfl) rfl rfl rfl rfl ?_); intro w1 hS1; clear hS; replace hS := hS1; clear hS1; try simp only [List.set_cons_zero, List.set_cons_succ, List.setIfInBounds_toArray, List.take_succ_cons, List.take_zero, List.drop_succ_cons, List.drop_zero, List.nil_append, List.cons_append, List.append_nil, List.drop_nil, List.take_nil, List.length_cons, List.length_nil, Nat.zero_add, Nat.add_zero, Nat.reduceAdd] at hS))
          go_meet
          refine ⟨s1, da, dc, _, rfl, Lib.hid (hL.out _ ?_ ?_), hS.drop⟩
          · have := hc1.out; have := hl0.out; have := hl1.out; (try split) <;> omega
          · have := hc1.out; have := hc2.out; have := hl0.out; have := hl1.out; (try split) <;> omega
        · have be : (er == 0) = false := by simpa using he
          replace hc1 := Lib.hid hc1
          replace hc2 := Lib.hid hc2
          replace hl0 := Lib.hid hl0
          replace hl1 := Lib.hid hl1
          clear he
          go_wp2_with (first
            | (go_at_call 10; (with_reducible refine (cAd.out _ (hS.preM (A := [_, _]) (B := shA g gm s da dc) (R := [])) (ht.out.fr hS.fr (by simp)) (tab_feet (A := [_, _]) (R := []) hS ht.out)).mono ?_); rintro _ w3 ⟨rfl, hk9⟩; have hS1 := hS.callM (A := [_, _]) (B := shA g gm s da dc) (R := []) hk9; clear hS hk9; have hS := hS1; clear hS1)
            | ((with_reducible refine wpList_loadrow_st (t := 30) (n := 26) (j := 3) (vs := Value.int .u32 p.mask :: .int .u32 p.lab :: FR) 1 hS rfl rfl rfl rfl (by kernel_rfl) (by kernel_rfl) hrP hpl ?_)) | ((with_reducible refine wpList_loadrow_st (t := 30) (n := 26) (j := 3) (vs := Value.int .u32 p.mask :: .int .u32 p.lab :: FR) 2 hS rfl rfl rfl rfl (by kernel_rfl) (by kernel_rfl) hrP hpl ?_)) | (with_reducible refine wpList_alloc_st (t := 38) hS rfl rfl ec ?_; intro gc w1 hS1; clear hS; have hS := hS1; clear hS1)
            | ((with_reducible refine wpList_storerow_st (t := 38) (n := 27) (vs := Value.int .i64 ci :: .int .i64 _ :: CT) 0 hS rfl rfl rfl rfl (by kernel_rfl) rfl hcl hco (by kernel_rfl) ?_); intro w1 hS1; clear hS; have hS := hS1; clear hS1; try simp only [List.set_cons_zero, List.set_cons_succ, List.setIfInBounds_toArray, List.take_succ_cons, List.take_zero, List.drop_succ_cons, List.drop_zero, List.nil_append, List.cons_append, List.append_nil, List.drop_nil, List.take_nil, List.length_cons, List.length_nil, Nat.zero_add, Nat.add_zero, Nat.reduceAdd] at hS; have y0 : World.cell? _ ⟨gc, 0, none⟩ = some (.int .i64 ci) := hS.cell 0 rfl 0; have y1 : World.cell? _ ⟨gc, 1, none⟩ = some (.int .i64 _) := hS.cell 0 rfl 1)
            | (with_reducible refine wpList_box_st hS rfl rfl rfl ?_; intro g1 w1 hS1; clear hS; replace hS := hS1; clear hS1) | (with_reducible refine wpList_box1_st hS rfl rfl rfl ?_; intro g1 w1 hS1; clear hS; replace hS := hS1; clear hS1) | (with_reducible refine wpList_alloc_st hS rfl rfl (by assumption) ?_; intro g1 w1 hS1; clear hS; replace hS := hS1; clear hS1) | (with_reducible refine wpList_alloc1_st hS rfl rfl (by assumption) rfl ?_; intro g1 w1 hS1; clear hS; replace hS := hS1; clear hS1) | ((with_reducible refine wpList_load_st 0 hS rfl rfl rfl rfl ?_ rfl ?_); focus (simp [scalarB, go_sem]; done)) | ((with_reducible refine wpList_loadall_st 0 hS rfl rfl rfl rfl ?_ (by kernel_rfl) ?_); focus (simp [rowB, go_sem]; done)) | ((with_reducible refine wpList_store_st 0 hS rfl rfl rfl rfl (by kernel_rfl) rfl rfl ?_); intro w1 hS1; clear hS; replace hS := hS1; clear hS1; try simp only [List.set_cons_zero, List.set_cons_succ, List.setIfInBounds_toArray, List.take_succ_cons, List.take_zero, List.drop_succ_cons, List.drop_zero, List.nil_append, List.cons_append, List.append_nil, List.drop_nil, List.take_nil, List.length_cons, List.length_nil, Nat.zero_add, Nat.add_zero, Nat.reduceAdd] at hS) | ((with_reducible refine wpList_storerow_st 0 hS rfl rfl rfl rfl (by kernel_rfl) rfl rfl rfl rfl ?_); intro w1 hS1; clear hS; replace hS := hS1; clear hS1; try simp only [List.set_cons_zero, List.set_cons_succ, List.setIfInBounds_toArray, List.take_succ_cons, List.take_zero, List.drop_succ_cons, List.drop_zero, List.nil_append, List.cons_append, List.append_nil, List.drop_nil, List.take_nil, List.length_cons, List.length_nil, Nat.zero_add, Nat.add_zero, Nat.reduceAdd] at hS) | ((with_reducible refine wpList_load_st 1 hS rfl rfl rfl rfl ?_ rfl ?_); focus (simp [scalarB, go_sem]; done)) | ((with_reducible refine wpList_loadall_st 1 hS rfl rfl rfl rfl ?_ (by kernel_rfl) ?_); focus (simp [rowB, go_sem]; done)) | ((with_reducible refine wpList_store_st 1 hS rfl rfl rfl rfl (by kernel_rfl) rfl rfl ?_); intro w1 hS1; clear hS; replace hS := hS1; clear hS1; try simp only [List.set_cons_zero, List.set_cons_succ, List.setIfInBounds_toArray, List.take_succ_cons, List.take_zero, List.drop_succ_cons, List.drop_zero, List.nil_append, List.cons_append, List.append_nil, List.drop_nil, List.take_nil, List.length_cons, List.length_nil, Nat.zero_add, Nat.add_zero, Nat.reduceAdd] at hS) | ((with_reducible refine wpList_storerow_st 1 hS rfl rfl rfl rfl (by kernel_rfl) rfl rfl rfl rfl ?_); intro w1 hS1; clear hS; replace hS := hS1; clear hS1; try simp only [List.set_cons_zero, List.set_cons_succ, List.setIfInBounds_toArray, List.take_succ_cons, List.take_zero, List.drop_succ_cons, List.drop_zero, List.nil_append, List.cons_append, List.append_nil, List.drop_nil, List.take_nil, List.length_cons, List.length_nil, Nat.zero_add, Nat.add_zero, Nat.reduceAdd] at hS))
          go_meet
          refine ⟨s1, da, dc, _, rfl, Lib.hid (hL.out _ ?_ ?_), hS.drop⟩
          · have := hc1.out; have := hl0.out; have := hl1.out; (try split) <;> omega
          · have := hc1.out; have := hc2.out; have := hl0.out; have := hl1.out; (try split) <;> omega
      have q0 : (kd == 0) = false := by simpa using hk0
      by_cases hk1 : kd = 1
      · subst hk1
        have hgf := get_f hok.out id
        have hgv : 0 ≤ (s.get id).1.ver ∧ (s.get id).1.ver ≤ 1099511627776 := by
          cases hlk : lookC s.m id with
          | none => rw [get_none hlk]; exact ⟨(by decide : (0 : Int) ≤ 0), (by decide : (0 : Int) ≤ 1099511627776)⟩
          | some c => rw [get_some hlk]; exact hok.out.ver c (look_mem hlk).1
        have cGe := fun W h => sget_any g gm s da dc id hid W h hok.out
        have cWr := fun W hA hT hF => swrite_any g gm s da dc id hid p hpin.out W hA hok.out hT hF
        have cMe := fun W => rmg_any (s.get id).1 p hpin.out.mask hgv hgf hpin.out.len W
        have hL := Lib.hid (show Left18 s (s.write id p).1 id last from ⟨hok.out.write id p hpin.out.lab, by rw [write_next]; exact hls.out, fun c hc hne => write_keep hok.out hc hne⟩)
        have hwf : (s.write id p).2.1.f.length = 8 := by
          unfold ShS.write
          split
          · rfl
          · split
            · rfl
            · split
              · rfl
              · exact (merge_f _ _).trans hgf
        have hol := cdRow_lenT _ hgf
        have hoo := cdRow_oneT (s.get id).1
        have hnl := cdRow_lenT _ hwf
        have hno := cdRow_oneT (s.write id p).2.1
        have hgV : sgV (s.get id) = .tuple #[.agg (cdRow (s.get id).1).toArray, .int .i64 (s.get id).2] := rfl
        have hwV : sgV (s.write id p).2 = .tuple #[.agg (cdRow (s.write id p).2.1).toArray, .int .i64 (s.write id p).2.2] := rfl
        obtain ⟨OT, hOT⟩ : ∃ CT, cdRow (s.get id).1 = .int .i64 (s.get id).1.id :: .int .i64 (s.get id).1.ver :: CT := ⟨_, rfl⟩
        obtain ⟨NT, hNT⟩ : ∃ CT, cdRow (s.write id p).2.1 = .int .i64 (s.write id p).2.1.id :: .int .i64 (s.write id p).2.1.ver :: CT := ⟨_, rfl⟩
        have hAt := Lib.hid fun (w0 w : World) (a b : Ch) (h : St w0 [] (a :: b :: (shA g gm s da dc ++ [])) w) => shAt_st (g := g) (gm := gm) (s := s) (da := da) (dc := dc) h 2 3 4 rfl rfl rfl
        by_cases he : (s.write id p).2.2 = 0
        · obtain ⟨e1, e2, e3, e4, e5⟩ := write_yes he
          have hE := fun W => neq_cd (s.write id p).2.1 (s.write id p).2.1 hwf hwf W
          simp only [decide_true, Bool.not_true] at hE
          have f1 : (s.write id p).2.1.id = id := by rw [e3, merge_id, e2]
          have f2 : (s.write id p).2.1.ver = (s.get id).1.ver + 1 := by rw [e3, e5]
          rw [← e3, hNT, f1, f2, hOT, e2, hPR.out] at cMe
          rw [hNT, f1, f2] at hnl hno hwV hE
          rw [hOT, e2, e1] at hgV
          rw [hOT, e2] at hol hoo
          rw [he] at hwV
          rw [hgV] at cGe
          rw [hwV, hPR.out] at cWr
          have hw1 : IntKind.i64.wrap ((s.get id).1.ver + 1) = (s.get id).1.ver + 1 := IntWalk.i64_in _ (by omega)
          have hb1 : (id != id) = false := by simp
          have hb2 : ((s.get id).1.ver + 1 != (s.get id).1.ver + 1) = false := by simp
          clear hgV hwV hOT hNT e1 e2 e3 e4 e5 f1 f2 he hgf hwf hgv
          generalize (s.get id).1.ver = ov at *
          generalize (s.write id p).1 = s1 at *
          replace cGe := Lib.hid cGe
          replace cWr := Lib.hid cWr
          replace cMe := Lib.hid cMe
          go_wp2_with (first
            | (go_at_call 11; (with_reducible refine (cGe.out _ (hAt.out _ _ _ _ hS)).mono ?_); rintro _ w3 ⟨rfl, hk9⟩; have hS1 := hS.keepB hk9; clear hk9 hS; have hS := hS1; clear hS1)
            | (go_at_call 12; (with_reducible refine (cWr.out _ (hS.preM (A := [_, _, _]) (B := shA g gm s da dc) (R := [])) (ht.out.fr hS.fr (by simp)) (tab_feet (A := [_, _, _]) (R := []) hS ht.out)).mono ?_); rintro _ w3 ⟨rfl, hk9⟩; have hS1 := hS.callM (A := [_, _, _]) (B := shA g gm s da dc) (R := []) hk9; clear hS hk9; have hS := hS1; clear hS1)
            | ((with_reducible refine wpList_loadrow_st (t := 30) (n := 26) (j := 3) (vs := Value.int .u32 p.mask :: .int .u32 p.lab :: FR) 1 hS rfl rfl rfl rfl (by kernel_rfl) (by kernel_rfl) hrP hpl ?_)) | ((with_reducible refine wpList_loadrow_st (t := 30) (n := 26) (j := 3) (vs := Value.int .u32 p.mask :: .int .u32 p.lab :: FR) 2 hS rfl rfl rfl rfl (by kernel_rfl) (by kernel_rfl) hrP hpl ?_)) | (with_reducible refine wpList_alloc_st (t := 38) hS rfl rfl ec ?_; intro gc w1 hS1; clear hS; have hS := hS1; clear hS1)
            | ((with_reducible refine wpList_storerow_st (t := 38) (n := 27) (vs := Value.int .i64 _ :: .int .i64 ov :: OT) 0 hS rfl rfl rfl rfl (by kernel_rfl) rfl hol hoo (by kernel_rfl) ?_); intro w1 hS1; clear hS; have hS := hS1; clear hS1; try simp only [List.set_cons_zero, List.set_cons_succ, List.setIfInBounds_toArray, List.take_succ_cons, List.take_zero, List.drop_succ_cons, List.drop_zero, List.nil_append, List.cons_append, List.append_nil, List.drop_nil, List.take_nil, List.length_cons, List.length_nil, Nat.zero_add, Nat.add_zero, Nat.reduceAdd] at hS)
            | ((with_reducible refine wpList_storerow_st (t := 38) (n := 27) (vs := Value.int .i64 _ :: .int .i64 _ :: NT) 0 hS rfl rfl rfl rfl (by kernel_rfl) rfl hnl hno (by kernel_rfl) ?_); intro w1 hS1; clear hS; have hS := hS1; clear hS1; try simp only [List.set_cons_zero, List.set_cons_succ, List.setIfInBounds_toArray, List.take_succ_cons, List.take_zero, List.drop_succ_cons, List.drop_zero, List.nil_append, List.cons_append, List.append_nil, List.drop_nil, List.take_nil, List.length_cons, List.length_nil, Nat.zero_add, Nat.add_zero, Nat.reduceAdd] at hS)
            | (with_reducible refine wpList_box_st hS rfl rfl rfl ?_; intro g1 w1 hS1; clear hS; replace hS := hS1; clear hS1) | (with_reducible refine wpList_box1_st hS rfl rfl rfl ?_; intro g1 w1 hS1; clear hS; replace hS := hS1; clear hS1) | (with_reducible refine wpList_alloc_st hS rfl rfl (by assumption) ?_; intro g1 w1 hS1; clear hS; replace hS := hS1; clear hS1) | (with_reducible refine wpList_alloc1_st hS rfl rfl (by assumption) rfl ?_; intro g1 w1 hS1; clear hS; replace hS := hS1; clear hS1) | ((with_reducible refine wpList_load_st 0 hS rfl rfl rfl rfl ?_ rfl ?_); focus (simp [scalarB, go_sem]; done)) | ((with_reducible refine wpList_loadall_st 0 hS rfl rfl rfl rfl ?_ (by kernel_rfl) ?_); focus (simp [rowB, go_sem]; done)) | ((with_reducible refine wpList_store_st 0 hS rfl rfl rfl rfl (by kernel_rfl) rfl rfl ?_); intro w1 hS1; clear hS; replace hS := hS1; clear hS1; try simp only [List.set_cons_zero, List.set_cons_succ, List.setIfInBounds_toArray, List.take_succ_cons, List.take_zero, List.drop_succ_cons, List.drop_zero, List.nil_append, List.cons_append, List.append_nil, List.drop_nil, List.take_nil, List.length_cons, List.length_nil, Nat.zero_add, Nat.add_zero, Nat.reduceAdd] at hS) | ((with_reducible refine wpList_storerow_st 0 hS rfl rfl rfl rfl (by kernel_rfl) rfl rfl rfl rfl ?_); intro w1 hS1; clear hS; replace hS := hS1; clear hS1; try simp only [List.set_cons_zero, List.set_cons_succ, List.setIfInBounds_toArray, List.take_succ_cons, List.take_zero, List.drop_succ_cons, List.drop_zero, List.nil_append, List.cons_append, List.append_nil, List.drop_nil, List.take_nil, List.length_cons, List.length_nil, Nat.zero_add, Nat.add_zero, Nat.reduceAdd] at hS) | ((with_reducible refine wpList_load_st 1 hS rfl rfl rfl rfl ?_ rfl ?_); focus (simp [scalarB, go_sem]; done)) | ((with_reducible refine wpList_loadall_st 1 hS rfl rfl rfl rfl ?_ (by kernel_rfl) ?_); focus (simp [rowB, go_sem]; done)) | ((with_reducible refine wpList_store_st 1 hS rfl rfl rfl rfl (by kernel_rfl) rfl rfl ?_); intro w1 hS1; clear hS; replace hS := hS1; clear hS1; try simp only [List.set_cons_zero, List.set_cons_succ, List.setIfInBounds_toArray, List.take_succ_cons, List.take_zero, List.drop_succ_cons, List.drop_zero, List.nil_append, List.cons_append, List.append_nil, List.drop_nil, List.take_nil, List.length_cons, List.length_nil, Nat.zero_add, Nat.add_zero, Nat.reduceAdd] at hS) | ((with_reducible refine wpList_storerow_st 1 hS rfl rfl rfl rfl (by kernel_rfl) rfl rfl rfl rfl ?_); intro w1 hS1; clear hS; replace hS := hS1; clear hS1; try simp only [List.set_cons_zero, List.set_cons_succ, List.setIfInBounds_toArray, List.take_succ_cons, List.take_zero, List.drop_succ_cons, List.drop_zero, List.nil_append, List.cons_append, List.append_nil, List.drop_nil, List.take_nil, List.length_cons, List.length_nil, Nat.zero_add, Nat.add_zero, Nat.reduceAdd] at hS) | ((with_reducible refine wpList_load_st 2 hS rfl rfl rfl rfl ?_ rfl ?_); focus (simp [scalarB, go_sem]; done)) | ((with_reducible refine wpList_loadall_st 2 hS rfl rfl rfl rfl ?_ (by kernel_rfl) ?_); focus (simp [rowB, go_sem]; done)) | ((with_reducible refine wpList_store_st 2 hS rfl rfl rfl rfl (by kernel_rfl) rfl rfl ?_); intro w1 hS1; clear hS; replace hS := hS1; clear hS1; try simp only [List.set_cons_zero, List.set_cons_succ, List.setIfInBounds_toArray, List.take_succ_cons, List.take_zero, List.drop_succ_cons, List.drop_zero, List.nil_append, List.cons_append, List.append_nil, List.drop_nil, List.take_nil, List.length_cons, List.length_nil, Nat.zero_add, Nat.add_zero, Nat.reduceAdd] at hS) | ((with_reducible refine wpList_storerow_st 2 hS rfl rfl rfl rfl (by kernel_rfl) rfl rfl rfl rfl ?_); intro w1 hS1; clear hS; replace hS := hS1; clear hS1; try simp only [List.set_cons_zero, List.set_cons_succ, List.setIfInBounds_toArray, List.take_succ_cons, List.take_zero, List.drop_succ_cons, List.drop_zero, List.nil_append, List.cons_append, List.append_nil, List.drop_nil, List.take_nil, List.length_cons, List.length_nil, Nat.zero_add, Nat.add_zero, Nat.reduceAdd] at hS))
          have hr1 : ((Value.int .i64 id :: .int .i64 (ov + 1) :: NT).toArray.toList.drop 0).take 27 = Value.int .i64 id :: .int .i64 (ov + 1) :: NT := by simp [← hnl]
          have hr2 : ((Value.int .i64 id :: .int .i64 ov :: OT).toArray.toList.drop 0).take 27 = Value.int .i64 id :: .int .i64 ov :: OT := by simp [← hol]
          have k12 := hS.kblk 0 rfl
          have k10 := hS.kblk 1 rfl
          have kac := hS.kblk 3 rfl
          have r12 := hS.krow (P := Tryd.prog) (j := 0) 0 rfl (t := 38) (by kernel_rfl) (n := 27) (by kernel_rfl) hr1 hnl
          have r10 := hS.krow (P := Tryd.prog) (j := 0) 1 rfl (t := 38) (by kernel_rfl) (n := 27) (by kernel_rfl) hr2 hol
          have rP := hS.krow (P := Tryd.prog) (j := 3) 3 rfl (t := 30) (by kernel_rfl) (n := 26) (by kernel_rfl) hrP hpl
          refine mixs_begin (by kernel_rfl) hS ?_
          clear hS
          intro w2 hS
          refine mixs_take 0 (v := ?_) rfl (by kernel_rfl) (fun _ _ _ h => h) (by kernel_rfl) (by assumption) (fun s => ?hy) ?_; case hy => (go_simp <;> with_reducible rfl)
          try simp only [List.getElem_toArray, List.getElem_cons_succ, List.getElem_cons_zero, Act.put, List.setIfInBounds_toArray, List.set_cons_zero, List.set_cons_succ]
          refine mixs_take 1 (v := ?_) rfl (by kernel_rfl) (fun _ _ _ h => h) (by kernel_rfl) (by assumption) (fun s => ?hy) ?_; case hy => (go_simp <;> with_reducible rfl)
          try simp only [List.getElem_toArray, List.getElem_cons_succ, List.getElem_cons_zero, Act.put, List.setIfInBounds_toArray, List.set_cons_zero, List.set_cons_succ]
          refine mixs_take 2 (v := ?_) rfl (by kernel_rfl) (fun _ _ _ h => h) (by kernel_rfl) (by assumption) (fun s => ?hy) ?_; case hy => (go_simp <;> with_reducible rfl)
          try simp only [List.getElem_toArray, List.getElem_cons_succ, List.getElem_cons_zero, Act.put, List.setIfInBounds_toArray, List.set_cons_zero, List.set_cons_succ]
          refine mixs_take 3 (v := ?_) rfl (by kernel_rfl) (fun _ _ _ h => h) (by kernel_rfl) (by assumption) (fun s => ?hy) ?_; case hy => (go_simp <;> with_reducible rfl)
          try simp only [List.getElem_toArray, List.getElem_cons_succ, List.getElem_cons_zero, Act.put, List.setIfInBounds_toArray, List.set_cons_zero, List.set_cons_succ]
          refine mixs_take 4 (v := ?_) rfl (by kernel_rfl) (fun _ _ _ h => h) (by kernel_rfl) (by assumption) (fun s => ?hy) ?_; case hy => (go_simp <;> with_reducible rfl)
          try simp only [List.getElem_toArray, List.getElem_cons_succ, List.getElem_cons_zero, Act.put, List.setIfInBounds_toArray, List.set_cons_zero, List.set_cons_succ]
          refine mixs_take 5 (v := ?_) rfl (by kernel_rfl) (fun _ _ _ h => h) (by kernel_rfl) (by assumption) (fun s => ?hy) ?_; case hy => (go_simp <;> with_reducible rfl)
          try simp only [List.getElem_toArray, List.getElem_cons_succ, List.getElem_cons_zero, Act.put, List.setIfInBounds_toArray, List.set_cons_zero, List.set_cons_succ]
          refine mixs_take 6 (v := ?_) rfl (by kernel_rfl) (fun _ _ _ h => h) (by kernel_rfl) (by assumption) (fun s => ?hy) ?_; case hy => (go_simp <;> with_reducible rfl)
          try simp only [List.getElem_toArray, List.getElem_cons_succ, List.getElem_cons_zero, Act.put, List.setIfInBounds_toArray, List.set_cons_zero, List.set_cons_succ]
          refine mixs_take 7 (v := ?_) rfl (by kernel_rfl) (fun _ _ _ h => h) (by kernel_rfl) (by assumption) (fun s => ?hy) ?_; case hy => (go_simp <;> with_reducible rfl)
          try simp only [List.getElem_toArray, List.getElem_cons_succ, List.getElem_cons_zero, Act.put, List.setIfInBounds_toArray, List.set_cons_zero, List.set_cons_succ]
          refine mixs_take 8 (v := ?_) rfl (by kernel_rfl) (fun _ _ _ h => h) (by kernel_rfl) (by assumption) (fun s => ?hy) ?_; case hy => (go_simp <;> with_reducible rfl)
          try simp only [List.getElem_toArray, List.getElem_cons_succ, List.getElem_cons_zero, Act.put, List.setIfInBounds_toArray, List.set_cons_zero, List.set_cons_succ]
          refine mixs_take 9 (v := ?_) rfl (by kernel_rfl) (fun _ _ _ h => h) (by kernel_rfl) (by assumption) (fun s => ?hy) ?_; case hy => (go_simp <;> with_reducible rfl)
          try simp only [List.getElem_toArray, List.getElem_cons_succ, List.getElem_cons_zero, Act.put, List.setIfInBounds_toArray, List.set_cons_zero, List.set_cons_succ]
          refine mixs_take 10 (v := ?_) rfl (by kernel_rfl) (fun _ _ _ h => h) (by kernel_rfl) (by assumption) (fun s => ?hy) ?_; case hy => (go_simp <;> with_reducible rfl)
          try simp only [List.getElem_toArray, List.getElem_cons_succ, List.getElem_cons_zero, Act.put, List.setIfInBounds_toArray, List.set_cons_zero, List.set_cons_succ]
          refine mixs_take 11 (v := ?_) rfl (by kernel_rfl) (fun _ _ _ h => h) (by kernel_rfl) (by assumption) (fun s => ?hy) ?_; case hy => (go_simp <;> with_reducible rfl)
          try simp only [List.getElem_toArray, List.getElem_cons_succ, List.getElem_cons_zero, Act.put, List.setIfInBounds_toArray, List.set_cons_zero, List.set_cons_succ]
          refine mixs_take 12 (v := ?_) rfl (by kernel_rfl) (fun _ _ _ h => h) (by kernel_rfl) (by assumption) (fun s => ?hy) ?_; case hy => (go_simp <;> with_reducible rfl)
          try simp only [List.getElem_toArray, List.getElem_cons_succ, List.getElem_cons_zero, Act.put, List.setIfInBounds_toArray, List.set_cons_zero, List.set_cons_succ]
          refine mixs_take 13 (v := ?_) rfl (by kernel_rfl) (fun _ _ _ h => h) (by kernel_rfl) (by assumption) (fun s => ?hy) ?_; case hy => (go_simp <;> with_reducible rfl)
          try simp only [List.getElem_toArray, List.getElem_cons_succ, List.getElem_cons_zero, Act.put, List.setIfInBounds_toArray, List.set_cons_zero, List.set_cons_succ]
          refine mixs_take 14 (v := ?_) rfl (by kernel_rfl) (fun _ _ _ h => h) (by kernel_rfl) (by assumption) (fun s => ?hy) ?_; case hy => (go_simp <;> with_reducible rfl)
          try simp only [List.getElem_toArray, List.getElem_cons_succ, List.getElem_cons_zero, Act.put, List.setIfInBounds_toArray, List.set_cons_zero, List.set_cons_succ]
          refine mixs_take 15 (v := ?_) rfl (by kernel_rfl) (fun _ _ _ h => h) (by kernel_rfl) (by assumption) (fun s => ?hy) ?_; case hy => (go_simp <;> with_reducible rfl)
          try simp only [List.getElem_toArray, List.getElem_cons_succ, List.getElem_cons_zero, Act.put, List.setIfInBounds_toArray, List.set_cons_zero, List.set_cons_succ]
          refine mixs_take 16 (v := ?_) rfl (by kernel_rfl) (fun _ _ _ h => h) (by kernel_rfl) (by assumption) (fun s => ?hy) ?_; case hy => (go_simp <;> with_reducible rfl)
          try simp only [List.getElem_toArray, List.getElem_cons_succ, List.getElem_cons_zero, Act.put, List.setIfInBounds_toArray, List.set_cons_zero, List.set_cons_succ]
          refine mixs_take 17 (v := ?_) rfl (by kernel_rfl) (fun _ _ _ h => h) (by kernel_rfl) (by assumption) (fun s => ?hy) ?_; case hy => (go_simp <;> with_reducible rfl)
          try simp only [List.getElem_toArray, List.getElem_cons_succ, List.getElem_cons_zero, Act.put, List.setIfInBounds_toArray, List.set_cons_zero, List.set_cons_succ]
          refine mixs_take 18 (v := ?_) rfl (by kernel_rfl) (fun _ _ _ h => h) (by kernel_rfl) (by assumption) (fun s => ?hy) ?_; case hy => (go_simp <;> with_reducible rfl)
          try simp only [List.getElem_toArray, List.getElem_cons_succ, List.getElem_cons_zero, Act.put, List.setIfInBounds_toArray, List.set_cons_zero, List.set_cons_succ]
          refine mixs_take 19 (v := ?_) rfl (by kernel_rfl) (fun _ _ _ h => h) (by kernel_rfl) (by assumption) (fun s => ?hy) ?_; case hy => (go_simp <;> with_reducible rfl)
          try simp only [List.getElem_toArray, List.getElem_cons_succ, List.getElem_cons_zero, Act.put, List.setIfInBounds_toArray, List.set_cons_zero, List.set_cons_succ]
          refine mixs_take 20 (v := ?_) rfl (by kernel_rfl) (fun _ _ _ h => h) (by kernel_rfl) (by assumption) (fun s => ?hy) ?_; case hy => (go_simp <;> with_reducible rfl)
          try simp only [List.getElem_toArray, List.getElem_cons_succ, List.getElem_cons_zero, Act.put, List.setIfInBounds_toArray, List.set_cons_zero, List.set_cons_succ]
          refine mixs_take 21 (v := ?_) rfl (by kernel_rfl) (fun _ _ _ h => h) (by kernel_rfl) (by assumption) (fun s => ?hy) ?_; case hy => (refine Eq.trans (take_loadrow s rfl rfl r12) ?_; with_reducible rfl)
          try simp only [List.getElem_toArray, List.getElem_cons_succ, List.getElem_cons_zero, Act.put, List.setIfInBounds_toArray, List.set_cons_zero, List.set_cons_succ]
          refine mixs_take 22 (v := ?_) rfl (by kernel_rfl) (fun _ _ _ h => h) (by kernel_rfl) (by assumption) (fun s => ?hy) ?_; case hy => (refine Eq.trans (take_loadrow s rfl rfl r10) ?_; with_reducible rfl)
          try simp only [List.getElem_toArray, List.getElem_cons_succ, List.getElem_cons_zero, Act.put, List.setIfInBounds_toArray, List.set_cons_zero, List.set_cons_succ]
          refine mixs_take 23 (v := ?_) rfl (by kernel_rfl) (fun _ _ _ h => h) (by kernel_rfl) (by assumption) (fun s => ?hy) ?_; case hy => (go_simp <;> with_reducible rfl)
          try simp only [List.getElem_toArray, List.getElem_cons_succ, List.getElem_cons_zero, Act.put, List.setIfInBounds_toArray, List.set_cons_zero, List.set_cons_succ]
          refine mixs_take 24 (v := ?_) rfl (by kernel_rfl) (fun _ _ _ h => h) (by kernel_rfl) (by assumption) (fun s => ?hy) ?_; case hy => (refine Eq.trans (take_loadrow s rfl rfl rP) ?_; with_reducible rfl)
          try simp only [List.getElem_toArray, List.getElem_cons_succ, List.getElem_cons_zero, Act.put, List.setIfInBounds_toArray, List.set_cons_zero, List.set_cons_succ]
          refine mixs_one 25 (by kernel_rfl) rfl (fun K hK => ?_)
          go_simp
          ( first | (go_at_call 13; (with_reducible refine (cMe.out _).mono ?_); rintro _ w3 ⟨rfl, hk9⟩; have hS1 := hS.keepB hk9; clear hk9 hS; have hS := hS1; clear hS1) )
          try clear hC
          refine hK.out _ _ _ (fun _ h => h) (by first | exact hS | exact hS.drop | exact hS.drop.drop | exact hS.drop.drop.drop | exact hS.drop.drop.drop.drop | exact hS.empty | exact hS.one 0 rfl | exact hS.one 1 rfl | exact hS.one 2 rfl | exact hS.one 3 rfl | exact hS.one 4 rfl | exact hS.one 5 rfl | exact hS.one 6 rfl | exact hS.one 7 rfl | exact hS.one 8 rfl | exact hS.one 9 rfl | exact hS.one 10 rfl | exact hS.one 11 rfl) (fun hC => ?_)
          clear hK K
          try simp only [List.getElem_toArray, List.getElem_cons_succ, List.getElem_cons_zero, Act.put, List.setIfInBounds_toArray, List.set_cons_zero, List.set_cons_succ]
          refine mixs_take 26 (v := ?_) rfl (by kernel_rfl) (fun _ _ _ h => h) (by kernel_rfl) (by assumption) (fun s => ?hy) ?_; case hy => (go_simp <;> with_reducible rfl)
          try simp only [List.getElem_toArray, List.getElem_cons_succ, List.getElem_cons_zero, Act.put, List.setIfInBounds_toArray, List.set_cons_zero, List.set_cons_succ]
          refine mixs_take 27 (v := ?_) rfl (by kernel_rfl) (fun _ _ _ h => h) (by kernel_rfl) (by assumption) (fun s => ?hy) ?_; case hy => (go_simp <;> with_reducible rfl)
          try simp only [List.getElem_toArray, List.getElem_cons_succ, List.getElem_cons_zero, Act.put, List.setIfInBounds_toArray, List.set_cons_zero, List.set_cons_succ]
          refine mixs_take 28 (v := ?_) rfl (by kernel_rfl) (fun _ _ _ h => h) (by kernel_rfl) (by assumption) (fun s => ?hy) ?_; case hy => (go_simp <;> with_reducible rfl)
          try simp only [List.getElem_toArray, List.getElem_cons_succ, List.getElem_cons_zero, Act.put, List.setIfInBounds_toArray, List.set_cons_zero, List.set_cons_succ]
          refine wpAnyH_done (by kernel_rfl) ?_ _
          clear k12 k10 kac r12 r10 rP hE
          go_wp2_with fail
          go_meet
          exact ⟨s1, da, dc, last, rfl, hL, hS.drop.drop⟩
        · have be : ((s.write id p).2.2 == 0) = false := by simpa using he
          rw [hOT] at hgV hol hoo
          rw [hNT] at hwV hnl hno
          rw [hgV] at cGe
          rw [hwV, hPR.out] at cWr
          clear hgV hwV hOT hNT he hgf hwf hgv cMe
          generalize (s.get id).1.ver = ov at *
          generalize (s.get id).1.id = oi at *
          generalize (s.get id).2 = oe at *
          generalize (s.write id p).2.1.id = ni at *
          generalize (s.write id p).2.1.ver = nv at *
          generalize (s.write id p).2.2 = er at *
          generalize (s.write id p).1 = s1 at *
          replace cGe := Lib.hid cGe
          replace cWr := Lib.hid cWr
          go_wp2_with (first
            | (go_at_call 11; (with_reducible refine (cGe.out _ (hAt.out _ _ _ _ hS)).mono ?_); rintro _ w3 ⟨rfl, hk9⟩; have hS1 := hS.keepB hk9; clear hk9 hS; have hS := hS1; clear hS1)
            | (go_at_call 12; (with_reducible refine (cWr.out _ (hS.preM (A := [_, _, _]) (B := shA g gm s da dc) (R := [])) (ht.out.fr hS.fr (by simp)) (tab_feet (A := [_, _, _]) (R := []) hS ht.out)).mono ?_); rintro _ w3 ⟨rfl, hk9⟩; have hS1 := hS.callM (A := [_, _, _]) (B := shA g gm s da dc) (R := []) hk9; clear hS hk9; have hS := hS1; clear hS1)
            | ((with_reducible refine wpList_loadrow_st (t := 30) (n := 26) (j := 3) (vs := Value.int .u32 p.mask :: .int .u32 p.lab :: FR) 1 hS rfl rfl rfl rfl (by kernel_rfl) (by kernel_rfl) hrP hpl ?_)) | ((with_reducible refine wpList_loadrow_st (t := 30) (n := 26) (j := 3) (vs := Value.int .u32 p.mask :: .int .u32 p.lab :: FR) 2 hS rfl rfl rfl rfl (by kernel_rfl) (by kernel_rfl) hrP hpl ?_)) | (with_reducible refine wpList_alloc_st (t := 38) hS rfl rfl ec ?_; intro gc w1 hS1; clear hS; have hS := hS1; clear hS1)
            | ((with_reducible refine wpList_storerow_st (t := 38) (n := 27) (vs := Value.int .i64 _ :: .int .i64 ov :: OT) 0 hS rfl rfl rfl rfl (by kernel_rfl) rfl hol hoo (by kernel_rfl) ?_); intro w1 hS1; clear hS; have hS := hS1; clear hS1; try simp only [List.set_cons_zero, List.set_cons_succ, List.setIfInBounds_toArray, List.take_succ_cons, List.take_zero, List.drop_succ_cons, List.drop_zero, List.nil_append, List.cons_append, List.append_nil, List.drop_nil, List.take_nil, List.length_cons, List.length_nil, Nat.zero_add, Nat.add_zero, Nat.reduceAdd] at hS)
            | ((with_reducible refine wpList_storerow_st (t := 38) (n := 27) (vs := Value.int .i64 _ :: .int .i64 _ :: NT) 0 hS rfl rfl rfl rfl (by kernel_rfl) rfl hnl hno (by kernel_rfl) ?_); intro w1 hS1; clear hS; have hS := hS1; clear hS1; try simp only [List.set_cons_zero, List.set_cons_succ, List.setIfInBounds_toArray, List.take_succ_cons, List.take_zero, List.drop_succ_cons, List.drop_zero, List.nil_append, List.cons_append, List.append_nil, List.drop_nil, List.take_nil, List.length_cons, List.length_nil, Nat.zero_add, Nat.add_zero, Nat.reduceAdd] at hS)
            | (with_reducible refine wpList_box_st hS rfl rfl rfl ?_; intro g1 w1 hS1; clear hS; replace hS := hS1; clear hS1) | (with_reducible refine wpList_box1_st hS rfl rfl rfl ?_; intro g1 w1 hS1; clear hS; replace hS := hS1; clear hS1) | (with_reducible refine wpList_alloc_st hS rfl rfl (by assumption) ?_; intro g1 w1 hS1; clear hS; replace hS := hS1; clear hS1) | (with_reducible refine wpList_alloc1_st hS rfl rfl (by assumption) rfl ?_; intro g1 w1 hS1; clear hS; replace hS := hS1; clear hS1) | ((with_reducible refine wpList_load_st 0 hS rfl rfl rfl rfl ?_ rfl ?_); focus (simp [scalarB, go_sem]; done)) | ((with_reducible refine wpList_loadall_st 0 hS rfl rfl rfl rfl ?_ (by kernel_rfl) ?_); focus (simp [rowB, go_sem]; done)) | ((with_reducible refine wpList_store_st 0 hS rfl rfl rfl rfl (by kernel_rfl) rfl rfl ?_); intro w1 hS1; clear hS; replace hS := hS1; clear hS1; try simp only [List.set_cons_zero, List.set_cons_succ, List.setIfInBounds_toArray, List.take_succ_cons, List.take_zero, List.drop_succ_cons, List.drop_zero, List.nil_append, List.cons_append, List.append_nil, List.drop_nil, List.take_nil, List.length_cons, List.length_nil, Nat.zero_add, Nat.add_zero, Nat.reduceAdd] at hS) | ((with_reducible refine wpList_storerow_st 0 hS rfl rfl rfl rfl (by kernel_rfl) rfl rfl rfl rfl ?_); intro w1 hS1; clear hS; replace hS := hS1; clear hS1; try simp only [List.set_cons_zero, List.set_cons_succ, List.setIfInBounds_toArray, List.take_succ_cons, List.take_zero, List.drop_succ_cons, List.drop_zero, List.nil_append, List.cons_append, List.append_nil, List.drop_nil, List.take_nil, List.length_cons, List.length_nil, Nat.zero_add, Nat.add_zero, Nat.reduceAdd] at hS) | ((with_reducible refine wpList_load_st 1 hS rfl rfl rfl rfl ?_ rfl ?_); focus (simp [scalarB, go_sem]; done)) | ((with_reducible refine wpList_loadall_st 1 hS rfl rfl rfl rfl ?_ (by kernel_rfl) ?_); focus (simp [rowB, go_sem]; done)) | ((with_reducible refine wpList_store_st 1 hS rfl rfl rfl rfl (by kernel_rfl) rfl rfl ?_); intro w1 hS1; clear hS; replace hS := hS1; clear hS1; try simp only [List.set_cons_zero, List.set_cons_succ, List.setIfInBounds_toArray, List.take_succ_cons, List.take_zero, List.drop_succ_cons, List.drop_zero, List.nil_append, List.cons_append, List.append_nil, List.drop_nil, List.take_nil, List.length_cons, List.length_nil, Nat.zero_add, Nat.add_zero, Nat.reduceAdd] at hS) | ((with_reducible refine wpList_storerow_st 1 hS rfl rfl rfl rfl (by kernel_rfl) rfl rfl rfl rfl ?_); intro w1 hS1; clear hS; replace hS := hS1; clear hS1; try simp only [List.set_cons_zero, List.set_cons_succ, List.setIfInBounds_toArray, List.take_succ_cons, List.take_zero, List.drop_succ_cons, List.drop_zero, List.nil_append, List.cons_append, List.append_nil, List.drop_nil, List.take_nil, List.length_cons, List.length_nil, Nat.zero_add, Nat.add_zero, Nat.reduceAdd] at hS) | ((with_reducible refine wpList_load_st 2 hS rfl rfl rfl rfl ?_ rfl ?_); focus (simp [scalarB, go_sem]; done)) | ((with_reducible refine wpList_loadall_st 2 hS rfl rfl rfl rfl ?_ (by kernel_rfl) ?_); focus (simp [rowB, go_sem]; done)) | ((with_reducible refine wpList_store_st 2 hS rfl rfl rfl rfl (by kernel_rfl) rfl rfl ?_); intro w1 hS1; clear hS; replace hS := hS1; clear hS1; try simp only [List.set_cons_zero, List.set_cons_succ, List.setIfInBounds_toArray, List.take_succ_cons, List.take_zero, List.drop_succ_cons, List.drop_zero, List.nil_append, List.cons_append, List.append_nil, List.drop_nil, List.take_nil, List.length_cons, List.length_nil, Nat.zero_add, Nat.add_zero, Nat.reduceAdd] at hS) | ((with_reducible refine wpList_storerow_st 2 hS rfl rfl rfl rfl (by kernel_rfl) rfl rfl rfl rfl ?_); intro w1 hS1; clear hS; replace hS := hS1; clear hS1; try simp only [List.set_cons_zero, List.set_cons_succ, List.setIfInBounds_toArray, List.take_succ_cons, List.take_zero, List.drop_succ_cons, List.drop_zero, List.nil_append, List.cons_append, List.append_nil, List.drop_nil, List.take_nil, List.length_cons, List.length_nil, Nat.zero_add, Nat.add_zero, Nat.reduceAdd] at hS))
          refine mixs_begin (by kernel_rfl) hS ?_
          clear hS
          intro w2 hS
          refine mixs_take 0 (v := ?_) rfl (by kernel_rfl) (fun _ _ _ h => h) (by kernel_rfl) (by assumption) (fun s => ?hy) ?_; case hy => (go_simp <;> with_reducible rfl)
          try simp only [List.getElem_toArray, List.getElem_cons_succ, List.getElem_cons_zero, Act.put, List.setIfInBounds_toArray, List.set_cons_zero, List.set_cons_succ]
          refine mixs_take 1 (v := ?_) rfl (by kernel_rfl) (fun _ _ _ h => h) (by kernel_rfl) (by assumption) (fun s => ?hy) ?_; case hy => (go_simp <;> with_reducible rfl)
          try simp only [List.getElem_toArray, List.getElem_cons_succ, List.getElem_cons_zero, Act.put, List.setIfInBounds_toArray, List.set_cons_zero, List.set_cons_succ]
          refine mixs_take 2 (v := ?_) rfl (by kernel_rfl) (fun _ _ _ h => h) (by kernel_rfl) (by assumption) (fun s => ?hy) ?_; case hy => (go_simp <;> with_reducible rfl)
          try simp only [List.getElem_toArray, List.getElem_cons_succ, List.getElem_cons_zero, Act.put, List.setIfInBounds_toArray, List.set_cons_zero, List.set_cons_succ]
          refine mixs_skip 3 rfl (by kernel_rfl) (fun _ _ _ h => h) (by kernel_rfl) (by assumption) ?_
          try simp only [List.getElem_toArray, List.getElem_cons_succ, List.getElem_cons_zero, Act.put, List.setIfInBounds_toArray, List.set_cons_zero, List.set_cons_succ]
          refine mixs_skip 4 rfl (by kernel_rfl) (fun _ _ _ h => h) (by kernel_rfl) (by assumption) ?_
          try simp only [List.getElem_toArray, List.getElem_cons_succ, List.getElem_cons_zero, Act.put, List.setIfInBounds_toArray, List.set_cons_zero, List.set_cons_succ]
          refine mixs_skip 5 rfl (by kernel_rfl) (fun _ _ _ h => h) (by kernel_rfl) (by assumption) ?_
          try simp only [List.getElem_toArray, List.getElem_cons_succ, List.getElem_cons_zero, Act.put, List.setIfInBounds_toArray, List.set_cons_zero, List.set_cons_succ]
          refine mixs_skip 6 rfl (by kernel_rfl) (fun _ _ _ h => h) (by kernel_rfl) (by assumption) ?_
          try simp only [List.getElem_toArray, List.getElem_cons_succ, List.getElem_cons_zero, Act.put, List.setIfInBounds_toArray, List.set_cons_zero, List.set_cons_succ]
          refine mixs_skip 7 rfl (by kernel_rfl) (fun _ _ _ h => h) (by kernel_rfl) (by assumption) ?_
          try simp only [List.getElem_toArray, List.getElem_cons_succ, List.getElem_cons_zero, Act.put, List.setIfInBounds_toArray, List.set_cons_zero, List.set_cons_succ]
          refine mixs_skip 8 rfl (by kernel_rfl) (fun _ _ _ h => h) (by kernel_rfl) (by assumption) ?_
          try simp only [List.getElem_toArray, List.getElem_cons_succ, List.getElem_cons_zero, Act.put, List.setIfInBounds_toArray, List.set_cons_zero, List.set_cons_succ]
          refine mixs_skip 9 rfl (by kernel_rfl) (fun _ _ _ h => h) (by kernel_rfl) (by assumption) ?_
          try simp only [List.getElem_toArray, List.getElem_cons_succ, List.getElem_cons_zero, Act.put, List.setIfInBounds_toArray, List.set_cons_zero, List.set_cons_succ]
          refine mixs_skip 10 rfl (by kernel_rfl) (fun _ _ _ h => h) (by kernel_rfl) (by assumption) ?_
          try simp only [List.getElem_toArray, List.getElem_cons_succ, List.getElem_cons_zero, Act.put, List.setIfInBounds_toArray, List.set_cons_zero, List.set_cons_succ]
          refine mixs_skip 11 rfl (by kernel_rfl) (fun _ _ _ h => h) (by kernel_rfl) (by assumption) ?_
          try simp only [List.getElem_toArray, List.getElem_cons_succ, List.getElem_cons_zero, Act.put, List.setIfInBounds_toArray, List.set_cons_zero, List.set_cons_succ]
          refine mixs_skip 12 rfl (by kernel_rfl) (fun _ _ _ h => h) (by kernel_rfl) (by assumption) ?_
          try simp only [List.getElem_toArray, List.getElem_cons_succ, List.getElem_cons_zero, Act.put, List.setIfInBounds_toArray, List.set_cons_zero, List.set_cons_succ]
          refine mixs_skip 13 rfl (by kernel_rfl) (fun _ _ _ h => h) (by kernel_rfl) (by assumption) ?_
          try simp only [List.getElem_toArray, List.getElem_cons_succ, List.getElem_cons_zero, Act.put, List.setIfInBounds_toArray, List.set_cons_zero, List.set_cons_succ]
          refine mixs_skip 14 rfl (by kernel_rfl) (fun _ _ _ h => h) (by kernel_rfl) (by assumption) ?_
          try simp only [List.getElem_toArray, List.getElem_cons_succ, List.getElem_cons_zero, Act.put, List.setIfInBounds_toArray, List.set_cons_zero, List.set_cons_succ]
          refine mixs_skip 15 rfl (by kernel_rfl) (fun _ _ _ h => h) (by kernel_rfl) (by assumption) ?_
          try simp only [List.getElem_toArray, List.getElem_cons_succ, List.getElem_cons_zero, Act.put, List.setIfInBounds_toArray, List.set_cons_zero, List.set_cons_succ]
          refine mixs_skip 16 rfl (by kernel_rfl) (fun _ _ _ h => h) (by kernel_rfl) (by assumption) ?_
          try simp only [List.getElem_toArray, List.getElem_cons_succ, List.getElem_cons_zero, Act.put, List.setIfInBounds_toArray, List.set_cons_zero, List.set_cons_succ]
          refine mixs_skip 17 rfl (by kernel_rfl) (fun _ _ _ h => h) (by kernel_rfl) (by assumption) ?_
          try simp only [List.getElem_toArray, List.getElem_cons_succ, List.getElem_cons_zero, Act.put, List.setIfInBounds_toArray, List.set_cons_zero, List.set_cons_succ]
          refine mixs_skip 18 rfl (by kernel_rfl) (fun _ _ _ h => h) (by kernel_rfl) (by assumption) ?_
          try simp only [List.getElem_toArray, List.getElem_cons_succ, List.getElem_cons_zero, Act.put, List.setIfInBounds_toArray, List.set_cons_zero, List.set_cons_succ]
          refine mixs_skip 19 rfl (by kernel_rfl) (fun _ _ _ h => h) (by kernel_rfl) (by assumption) ?_
          try simp only [List.getElem_toArray, List.getElem_cons_succ, List.getElem_cons_zero, Act.put, List.setIfInBounds_toArray, List.set_cons_zero, List.set_cons_succ]
          refine mixs_skip 20 rfl (by kernel_rfl) (fun _ _ _ h => h) (by kernel_rfl) (by assumption) ?_
          try simp only [List.getElem_toArray, List.getElem_cons_succ, List.getElem_cons_zero, Act.put, List.setIfInBounds_toArray, List.set_cons_zero, List.set_cons_succ]
          refine mixs_skip 21 rfl (by kernel_rfl) (fun _ _ _ h => h) (by kernel_rfl) (by assumption) ?_
          try simp only [List.getElem_toArray, List.getElem_cons_succ, List.getElem_cons_zero, Act.put, List.setIfInBounds_toArray, List.set_cons_zero, List.set_cons_succ]
          refine mixs_skip 22 rfl (by kernel_rfl) (fun _ _ _ h => h) (by kernel_rfl) (by assumption) ?_
          try simp only [List.getElem_toArray, List.getElem_cons_succ, List.getElem_cons_zero, Act.put, List.setIfInBounds_toArray, List.set_cons_zero, List.set_cons_succ]
          refine mixs_skip 23 rfl (by kernel_rfl) (fun _ _ _ h => h) (by kernel_rfl) (by assumption) ?_
          try simp only [List.getElem_toArray, List.getElem_cons_succ, List.getElem_cons_zero, Act.put, List.setIfInBounds_toArray, List.set_cons_zero, List.set_cons_succ]
          refine mixs_skip 24 rfl (by kernel_rfl) (fun _ _ _ h => h) (by kernel_rfl) (by assumption) ?_
          try simp only [List.getElem_toArray, List.getElem_cons_succ, List.getElem_cons_zero, Act.put, List.setIfInBounds_toArray, List.set_cons_zero, List.set_cons_succ]
          refine mixs_skip 25 rfl (by kernel_rfl) (fun _ _ _ h => h) (by kernel_rfl) (by assumption) ?_
          try simp only [List.getElem_toArray, List.getElem_cons_succ, List.getElem_cons_zero, Act.put, List.setIfInBounds_toArray, List.set_cons_zero, List.set_cons_succ]
          refine mixs_skip 26 rfl (by kernel_rfl) (fun _ _ _ h => h) (by kernel_rfl) (by assumption) ?_
          try simp only [List.getElem_toArray, List.getElem_cons_succ, List.getElem_cons_zero, Act.put, List.setIfInBounds_toArray, List.set_cons_zero, List.set_cons_succ]
          refine mixs_skip 27 rfl (by kernel_rfl) (fun _ _ _ h => h) (by kernel_rfl) (by assumption) ?_
          try simp only [List.getElem_toArray, List.getElem_cons_succ, List.getElem_cons_zero, Act.put, List.setIfInBounds_toArray, List.set_cons_zero, List.set_cons_succ]
          refine mixs_take 28 (v := ?_) rfl (by kernel_rfl) (fun _ _ _ h => h) (by kernel_rfl) (by assumption) (fun s => ?hy) ?_; case hy => (go_simp <;> with_reducible rfl)
          try simp only [List.getElem_toArray, List.getElem_cons_succ, List.getElem_cons_zero, Act.put, List.setIfInBounds_toArray, List.set_cons_zero, List.set_cons_succ]
          refine wpAnyH_done (by kernel_rfl) ?_ _
          go_wp2_with fail
          go_meet
          exact ⟨s1, da, dc, last, rfl, hL, hS.drop.drop⟩
      have q1 : (kd == 1) = false := by simpa using hk1
      clear hk0 hk1
      have cDr := Lib.hid fun W hA => sdrop_any g gm s da dc id sq hid hsq W hA hok.out
      have hL := Lib.hid (show Left18 s (s.drop id sq).1 id last from ⟨hok.out.drop id sq, by rw [drop_next]; exact hls.out, fun c hc hne => drop_keep hok.out hc hne⟩)
      generalize (s.drop id sq).2 = er at *
      generalize (s.drop id sq).1 = s1 at *
      go_wp2_with (first
        | (go_at_call 14; (with_reducible refine (cDr.out _ (hS.preM (A := [_, _]) (B := shA g gm s da dc) (R := []))).mono ?_); rintro _ w3 ⟨rfl, da1, dc1, hk9⟩; have hS1 := hS.callM (A := [_, _]) (B := shA g gm s da dc) (R := []) hk9; clear hS hk9; have hS := hS1; clear hS1)
        | (with_reducible refine wpList_box_st hS rfl rfl rfl ?_; intro g1 w1 hS1; clear hS; replace hS := hS1; clear hS1) | (with_reducible refine wpList_box1_st hS rfl rfl rfl ?_; intro g1 w1 hS1; clear hS; replace hS := hS1; clear hS1) | (with_reducible refine wpList_alloc_st hS rfl rfl (by assumption) ?_; intro g1 w1 hS1; clear hS; replace hS := hS1; clear hS1) | (with_reducible refine wpList_alloc1_st hS rfl rfl (by assumption) rfl ?_; intro g1 w1 hS1; clear hS; replace hS := hS1; clear hS1) | ((with_reducible refine wpList_load_st 0 hS rfl rfl rfl rfl ?_ rfl ?_); focus (simp [scalarB, go_sem]; done)) | ((with_reducible refine wpList_loadall_st 0 hS rfl rfl rfl rfl ?_ (by kernel_rfl) ?_); focus (simp [rowB, go_sem]; done)) | ((with_reducible refine wpList_store_st 0 hS rfl rfl rfl rfl (by kernel_rfl) rfl rfl ?_); intro w1 hS1; clear hS; replace hS := hS1; clear hS1; try simp only [List.set_cons_zero, List.set_cons_succ, List.setIfInBounds_toArray, List.take_succ_cons, List.take_zero, List.drop_succ_cons, List.drop_zero, List.nil_append, List.cons_append, List.append_nil, List.drop_nil, List.take_nil, List.length_cons, List.length_nil, Nat.zero_add, Nat.add_zero, Nat.reduceAdd] at hS) | ((with_reducible refine wpList_storerow_st 0 hS rfl rfl rfl rfl (by kernel_rfl) rfl rfl rfl rfl ?_); intro w1 hS1; clear hS; replace hS := hS1; clear hS1; try simp only [List.set_cons_zero, List.set_cons_succ, List.setIfInBounds_toArray, List.take_succ_cons, List.take_zero, List.drop_succ_cons, List.drop_zero, List.nil_append, List.cons_append, List.append_nil, List.drop_nil, List.take_nil, List.length_cons, List.length_nil, Nat.zero_add, Nat.add_zero, Nat.reduceAdd] at hS) | ((with_reducible refine wpList_load_st 1 hS rfl rfl rfl rfl ?_ rfl ?_); focus (simp [scalarB, go_sem]; done)) | ((with_reducible refine wpList_loadall_st 1 hS rfl rfl rfl rfl ?_ (by kernel_rfl) ?_); focus (simp [rowB, go_sem]; done)) | ((with_reducible refine wpList_store_st 1 hS rfl rfl rfl rfl (by kernel_rfl) rfl rfl ?_); intro w1 hS1; clear hS; replace hS := hS1; clear hS1; try simp only [List.set_cons_zero, List.set_cons_succ, List.setIfInBounds_toArray, List.take_succ_cons, List.take_zero, List.drop_succ_cons, List.drop_zero, List.nil_append, List.cons_append, List.append_nil, List.drop_nil, List.take_nil, List.length_cons, List.length_nil, Nat.zero_add, Nat.add_zero, Nat.reduceAdd] at hS) | ((with_reducible refine wpList_storerow_st 1 hS rfl rfl rfl rfl (by kernel_rfl) rfl rfl rfl rfl ?_); intro w1 hS1; clear hS; replace hS := hS1; clear hS1; try simp only [List.set_cons_zero, List.set_cons_succ, List.setIfInBounds_toArray, List.take_succ_cons, List.take_zero, List.drop_succ_cons, List.drop_zero, List.nil_append, List.cons_append, List.append_nil, List.drop_nil, List.take_nil, List.length_cons, List.length_nil, Nat.zero_add, Nat.add_zero, Nat.reduceAdd] at hS))
      go_meet
      exact ⟨s1, _, _, last, rfl, hL, hS⟩
    case rest =>
      clear hS
      obtain ⟨s1, da1, dc1, last1, rfl, hL, hS⟩ := hcut
      have hAt := Lib.hid (shAt_st (g := g) (gm := gm) (s := s1) (da := da1) (dc := dc1) hS 2 3 4 rfl rfl rfl)
      have hLst : Lst cdRow (fun x => x.f.length = 8) wc wa s.m.length wk s.m := hS.lst 0 rfl rfl hok.out.fl
      have hca : wc.cell? ⟨ga, 1, none⟩ = some (.int .i64 id) := hS.cell 1 rfl 1
      have hSo := Lib.hid hS
      have hmlens := Lib.hid (show ∀ y ∈ s.m, (cdRow y).length = 27 from fun y hy => cdRow_lenT y (hok.out.fl y hy))
      have hmb := Lib.hid (hLst.base (by decide) hmlens.out)
      replace hLst := Lib.hid hLst
      clear hS hcs cL1 hsl hso hrF hrP hpl zp
      have hS := St.start wc
      go_wp2_with fail
      go_loopg [14] s.m.length (fun gk vx wr2 => ∃ (k : Nat), k + gk = s.m.length ∧ vx = .int .i64 k ∧ St wc [] [] wr2)
      case atStart => exact ⟨0, Nat.zero_add _, rfl, hS⟩
      case round =>
        clear hS
        obtain ⟨k, hk, rfl, hS⟩ := hrel
        have hm48 : s.m.length ≤ 48 := hok.out.len
        by_cases hkl : k < s.m.length
        · have hcm2 := List.getElem_mem hkl
          obtain ⟨b2, o2, rfl⟩ := hmb.out (by omega)
          have hrk := hLst.out.rowb hmlens.out k hkl
          have hln := hmlens.out _ hcm2
          have hkeep := hL.out.keep _ hcm2
          have hif : I64 s.m[k].id := by have := hok.out.id _ hcm2; have := hok.out.next; omega
          have hff := hok.out.fl _ hcm2
          have z0 : wc.cell? ⟨b2, o2 + k * 27, none⟩ = some (.int .i64 s.m[k].id) := by simpa using hrk 0 _ rfl
          have cG2 := fun W h => sget_any g gm s1 da1 dc1 s.m[k].id hif W h hL.out.ok
          have hGf := get_f hL.out.ok s.m[k].id
          have hgl := cdRow_lenT _ hGf
          have hgo := cdRow_oneT (s1.get s.m[k].id).1
          have hgV : sgV (s1.get s.m[k].id) = .tuple #[.agg (cdRow (s1.get s.m[k].id).1).toArray, .int .i64 (s1.get s.m[k].id).2] := rfl
          have y0 := hS.old z0 (by simp)
          by_cases hne : s.m[k].id = id
          · have bne : (s.m[k].id != id) = false := by simpa using hne
            rw [hgV] at cG2
            clear hkeep hgV hne hGf
            generalize cdRow (s1.get s.m[k].id).1 = GR at *
            generalize (s1.get s.m[k].id).2 = ge at *
            replace hrk := Lib.hid hrk
            replace cG2 := Lib.hid cG2
            generalize s.m[k].id = ci at *
            go_wp2_with (first
              | (go_at_call 11; (with_reducible refine (cG2.out _ (hAt.out.below hS.below)).mono ?_); rintro _ w3 ⟨rfl, hk9⟩; have hS1 := hS.keepB hk9; clear hk9 hS; have hS := hS1; clear hS1)
              | (with_reducible refine wpList_alloc_st (t := 38) hS rfl rfl ec ?_; intro gc w1 hS1; clear hS; have hS := hS1; clear hS1)
              | ((with_reducible refine wpList_storerow_st (t := 38) (n := 27) (vs := GR) 0 hS rfl rfl rfl rfl (by kernel_rfl) rfl hgl hgo (by kernel_rfl) ?_); intro w1 hS1; clear hS; have hS := hS1; clear hS1; try simp only [List.set_cons_zero, List.set_cons_succ, List.setIfInBounds_toArray, List.take_succ_cons, List.take_zero, List.drop_succ_cons, List.drop_zero, List.nil_append, List.cons_append, List.append_nil, List.drop_nil, List.take_nil, List.length_cons, List.length_nil, Nat.zero_add, Nat.add_zero, Nat.reduceAdd] at hS))
            have kz := hS.kold0 z0
            have kc := hS.kold0 hca
            refine mixs_begin (by kernel_rfl) hS ?_
            clear hS
            intro w2 hS
            refine mixs_take 0 (v := ?_) rfl (by kernel_rfl) (fun _ _ _ h => h) (by kernel_rfl) (by assumption) (fun s => ?hy) ?_; case hy => (go_simp <;> with_reducible rfl)
            try simp only [List.getElem_toArray, List.getElem_cons_succ, List.getElem_cons_zero, Act.put, List.setIfInBounds_toArray, List.set_cons_zero, List.set_cons_succ]
            refine mixs_take 1 (v := ?_) rfl (by kernel_rfl) (fun _ _ _ h => h) (by kernel_rfl) (by assumption) (fun s => ?hy) ?_; case hy => (go_simp <;> with_reducible rfl)
            try simp only [List.getElem_toArray, List.getElem_cons_succ, List.getElem_cons_zero, Act.put, List.setIfInBounds_toArray, List.set_cons_zero, List.set_cons_succ]
            refine mixs_take 2 (v := ?_) rfl (by kernel_rfl) (fun _ _ _ h => h) (by kernel_rfl) (by assumption) (fun s => ?hy) ?_; case hy => (go_simp <;> with_reducible rfl)
            try simp only [List.getElem_toArray, List.getElem_cons_succ, List.getElem_cons_zero, Act.put, List.setIfInBounds_toArray, List.set_cons_zero, List.set_cons_succ]
            refine mixs_take 3 (v := ?_) rfl (by kernel_rfl) (fun _ _ _ h => h) (by kernel_rfl) (by assumption) (fun s => ?hy) ?_; case hy => (go_simp <;> with_reducible rfl)
            try simp only [List.getElem_toArray, List.getElem_cons_succ, List.getElem_cons_zero, Act.put, List.setIfInBounds_toArray, List.set_cons_zero, List.set_cons_succ]
            refine mixs_take 4 (v := ?_) rfl (by kernel_rfl) (fun _ _ _ h => h) (by kernel_rfl) (by assumption) (fun s => ?hy) ?_; case hy => (go_simp <;> with_reducible rfl)
            try simp only [List.getElem_toArray, List.getElem_cons_succ, List.getElem_cons_zero, Act.put, List.setIfInBounds_toArray, List.set_cons_zero, List.set_cons_succ]
            refine mixs_take 5 (v := ?_) rfl (by kernel_rfl) (fun _ _ _ h => h) (by kernel_rfl) (by assumption) (fun s => ?hy) ?_; case hy => (go_simp <;> with_reducible rfl)
            try simp only [List.getElem_toArray, List.getElem_cons_succ, List.getElem_cons_zero, Act.put, List.setIfInBounds_toArray, List.set_cons_zero, List.set_cons_succ]
            refine mixs_take 6 (v := ?_) rfl (by kernel_rfl) (fun _ _ _ h => h) (by kernel_rfl) (by assumption) (fun s => ?hy) ?_; case hy => (go_simp <;> with_reducible rfl)
            try simp only [List.getElem_toArray, List.getElem_cons_succ, List.getElem_cons_zero, Act.put, List.setIfInBounds_toArray, List.set_cons_zero, List.set_cons_succ]
            refine mixs_take 7 (v := ?_) rfl (by kernel_rfl) (fun _ _ _ h => h) (by kernel_rfl) (by assumption) (fun s => ?hy) ?_; case hy => (go_simp <;> with_reducible rfl)
            try simp only [List.getElem_toArray, List.getElem_cons_succ, List.getElem_cons_zero, Act.put, List.setIfInBounds_toArray, List.set_cons_zero, List.set_cons_succ]
            refine mixs_take 8 (v := ?_) rfl (by kernel_rfl) (fun _ _ _ h => h) (by kernel_rfl) (by assumption) (fun s => ?hy) ?_; case hy => (go_simp <;> with_reducible rfl)
            try simp only [List.getElem_toArray, List.getElem_cons_succ, List.getElem_cons_zero, Act.put, List.setIfInBounds_toArray, List.set_cons_zero, List.set_cons_succ]
            refine mixs_skip 9 rfl (by kernel_rfl) (fun _ _ _ h => h) (by kernel_rfl) (by assumption) ?_
            try simp only [List.getElem_toArray, List.getElem_cons_succ, List.getElem_cons_zero, Act.put, List.setIfInBounds_toArray, List.set_cons_zero, List.set_cons_succ]
            refine mixs_skip 10 rfl (by kernel_rfl) (fun _ _ _ h => h) (by kernel_rfl) (by assumption) ?_
            try simp only [List.getElem_toArray, List.getElem_cons_succ, List.getElem_cons_zero, Act.put, List.setIfInBounds_toArray, List.set_cons_zero, List.set_cons_succ]
            refine mixs_skip 11 rfl (by kernel_rfl) (fun _ _ _ h => h) (by kernel_rfl) (by assumption) ?_
            try simp only [List.getElem_toArray, List.getElem_cons_succ, List.getElem_cons_zero, Act.put, List.setIfInBounds_toArray, List.set_cons_zero, List.set_cons_succ]
            refine mixs_skip 12 rfl (by kernel_rfl) (fun _ _ _ h => h) (by kernel_rfl) (by assumption) ?_
            try simp only [List.getElem_toArray, List.getElem_cons_succ, List.getElem_cons_zero, Act.put, List.setIfInBounds_toArray, List.set_cons_zero, List.set_cons_succ]
            refine mixs_skip 13 rfl (by kernel_rfl) (fun _ _ _ h => h) (by kernel_rfl) (by assumption) ?_
            try simp only [List.getElem_toArray, List.getElem_cons_succ, List.getElem_cons_zero, Act.put, List.setIfInBounds_toArray, List.set_cons_zero, List.set_cons_succ]
            refine mixs_skip 14 rfl (by kernel_rfl) (fun _ _ _ h => h) (by kernel_rfl) (by assumption) ?_
            try simp only [List.getElem_toArray, List.getElem_cons_succ, List.getElem_cons_zero, Act.put, List.setIfInBounds_toArray, List.set_cons_zero, List.set_cons_succ]
            refine mixs_skip 15 rfl (by kernel_rfl) (fun _ _ _ h => h) (by kernel_rfl) (by assumption) ?_
            try simp only [List.getElem_toArray, List.getElem_cons_succ, List.getElem_cons_zero, Act.put, List.setIfInBounds_toArray, List.set_cons_zero, List.set_cons_succ]
            refine mixs_skip 16 rfl (by kernel_rfl) (fun _ _ _ h => h) (by kernel_rfl) (by assumption) ?_
            try simp only [List.getElem_toArray, List.getElem_cons_succ, List.getElem_cons_zero, Act.put, List.setIfInBounds_toArray, List.set_cons_zero, List.set_cons_succ]
            refine mixs_skip 17 rfl (by kernel_rfl) (fun _ _ _ h => h) (by kernel_rfl) (by assumption) ?_
            try simp only [List.getElem_toArray, List.getElem_cons_succ, List.getElem_cons_zero, Act.put, List.setIfInBounds_toArray, List.set_cons_zero, List.set_cons_succ]
            refine mixs_skip 18 rfl (by kernel_rfl) (fun _ _ _ h => h) (by kernel_rfl) (by assumption) ?_
            try simp only [List.getElem_toArray, List.getElem_cons_succ, List.getElem_cons_zero, Act.put, List.setIfInBounds_toArray, List.set_cons_zero, List.set_cons_succ]
            refine mixs_take 19 (v := ?_) rfl (by kernel_rfl) (fun _ _ _ h => h) (by kernel_rfl) (by assumption) (fun s => ?hy) ?_; case hy => (go_simp <;> with_reducible rfl)
            try simp only [List.getElem_toArray, List.getElem_cons_succ, List.getElem_cons_zero, Act.put, List.setIfInBounds_toArray, List.set_cons_zero, List.set_cons_succ]
            refine wpAnyH_done (by kernel_rfl) ?_ _
            clear kz kc
            go_wp2_with fail
            go_roundg (s.m.length - (k + 1))
            case measure => omega
            case rel => exact ⟨k + 1, by omega, by go_num, hS.drop⟩
          · have bne : (s.m[k].id != id) = true := by simpa using hne
            have hg := get_some (hkeep hne)
            have hE := fun W => neq_cd s.m[k] s.m[k] hff hff W
            simp only [decide_true, Bool.not_true] at hE
            rw [hgV, hg] at cG2
            rw [hg] at hgl hgo
            clear hkeep hgV hne hGf hg
            dsimp only at cG2 hgl hgo
            have hsz : sizeB Tryd.prog 38 27 = true := by kernel_rfl
            generalize cdRow s.m[k] = GR at *
            replace cG2 := Lib.hid cG2
            generalize s.m[k].id = ci at *
            go_wp2_with (first
              | (go_at_call 11; (with_reducible refine (cG2.out _ (hAt.out.below hS.below)).mono ?_); rintro _ w3 ⟨rfl, hk9⟩; have hS1 := hS.keepB hk9; clear hk9 hS; have hS := hS1; clear hS1)
              | (with_reducible refine wpList_alloc_st (t := 38) hS rfl rfl ec ?_; intro gc w1 hS1; clear hS; have hS := hS1; clear hS1)
              | ((with_reducible refine wpList_storerow_st (t := 38) (n := 27) (vs := GR) 0 hS rfl rfl rfl rfl (by kernel_rfl) rfl hgl hgo (by kernel_rfl) ?_); intro w1 hS1; clear hS; have hS := hS1; clear hS1; try simp only [List.set_cons_zero, List.set_cons_succ, List.setIfInBounds_toArray, List.take_succ_cons, List.take_zero, List.drop_succ_cons, List.drop_zero, List.nil_append, List.cons_append, List.append_nil, List.drop_nil, List.take_nil, List.length_cons, List.length_nil, Nat.zero_add, Nat.add_zero, Nat.reduceAdd] at hS))
            have hrg : (GR.toArray.toList.drop 0).take 27 = GR := by simp [← hgl]
            have kz := hS.kold0 z0
            have kc := hS.kold0 hca
            have k15 := hS.krow (P := Tryd.prog) (j := 0) 0 rfl (t := 38) (by kernel_rfl) (n := 27) (by kernel_rfl) hrg hgl
            have kR := hS.kold_row (P := Tryd.prog) (t := 38) hrk (by kernel_rfl) hsz hln
            refine mixs_begin (by kernel_rfl) hS ?_
            clear hS
            intro w2 hS
            refine mixs_take 0 (v := ?_) rfl (by kernel_rfl) (fun _ _ _ h => h) (by kernel_rfl) (by assumption) (fun s => ?hy) ?_; case hy => (go_simp <;> with_reducible rfl)
            try simp only [List.getElem_toArray, List.getElem_cons_succ, List.getElem_cons_zero, Act.put, List.setIfInBounds_toArray, List.set_cons_zero, List.set_cons_succ]
            refine mixs_take 1 (v := ?_) rfl (by kernel_rfl) (fun _ _ _ h => h) (by kernel_rfl) (by assumption) (fun s => ?hy) ?_; case hy => (go_simp <;> with_reducible rfl)
            try simp only [List.getElem_toArray, List.getElem_cons_succ, List.getElem_cons_zero, Act.put, List.setIfInBounds_toArray, List.set_cons_zero, List.set_cons_succ]
            refine mixs_take 2 (v := ?_) rfl (by kernel_rfl) (fun _ _ _ h => h) (by kernel_rfl) (by assumption) (fun s => ?hy) ?_; case hy => (go_simp <;> with_reducible rfl)
            try simp only [List.getElem_toArray, List.getElem_cons_succ, List.getElem_cons_zero, Act.put, List.setIfInBounds_toArray, List.set_cons_zero, List.set_cons_succ]
            refine mixs_take 3 (v := ?_) rfl (by kernel_rfl) (fun _ _ _ h => h) (by kernel_rfl) (by assumption) (fun s => ?hy) ?_; case hy => (go_simp <;> with_reducible rfl)
            try simp only [List.getElem_toArray, List.getElem_cons_succ, List.getElem_cons_zero, Act.put, List.setIfInBounds_toArray, List.set_cons_zero, List.set_cons_succ]
            refine mixs_take 4 (v := ?_) rfl (by kernel_rfl) (fun _ _ _ h => h) (by kernel_rfl) (by assumption) (fun s => ?hy) ?_; case hy => (go_simp <;> with_reducible rfl)
            try simp only [List.getElem_toArray, List.getElem_cons_succ, List.getElem_cons_zero, Act.put, List.setIfInBounds_toArray, List.set_cons_zero, List.set_cons_succ]
            refine mixs_take 5 (v := ?_) rfl (by kernel_rfl) (fun _ _ _ h => h) (by kernel_rfl) (by assumption) (fun s => ?hy) ?_; case hy => (go_simp <;> with_reducible rfl)
            try simp only [List.getElem_toArray, List.getElem_cons_succ, List.getElem_cons_zero, Act.put, List.setIfInBounds_toArray, List.set_cons_zero, List.set_cons_succ]
            refine mixs_take 6 (v := ?_) rfl (by kernel_rfl) (fun _ _ _ h => h) (by kernel_rfl) (by assumption) (fun s => ?hy) ?_; case hy => (go_simp <;> with_reducible rfl)
            try simp only [List.getElem_toArray, List.getElem_cons_succ, List.getElem_cons_zero, Act.put, List.setIfInBounds_toArray, List.set_cons_zero, List.set_cons_succ]
            refine mixs_take 7 (v := ?_) rfl (by kernel_rfl) (fun _ _ _ h => h) (by kernel_rfl) (by assumption) (fun s => ?hy) ?_; case hy => (go_simp <;> with_reducible rfl)
            try simp only [List.getElem_toArray, List.getElem_cons_succ, List.getElem_cons_zero, Act.put, List.setIfInBounds_toArray, List.set_cons_zero, List.set_cons_succ]
            refine mixs_take 8 (v := ?_) rfl (by kernel_rfl) (fun _ _ _ h => h) (by kernel_rfl) (by assumption) (fun s => ?hy) ?_; case hy => (go_simp <;> with_reducible rfl)
            try simp only [List.getElem_toArray, List.getElem_cons_succ, List.getElem_cons_zero, Act.put, List.setIfInBounds_toArray, List.set_cons_zero, List.set_cons_succ]
            refine mixs_take 9 (v := ?_) rfl (by kernel_rfl) (fun _ _ _ h => h) (by kernel_rfl) (by assumption) (fun s => ?hy) ?_; case hy => (go_simp <;> with_reducible rfl)
            try simp only [List.getElem_toArray, List.getElem_cons_succ, List.getElem_cons_zero, Act.put, List.setIfInBounds_toArray, List.set_cons_zero, List.set_cons_succ]
            refine mixs_take 10 (v := ?_) rfl (by kernel_rfl) (fun _ _ _ h => h) (by kernel_rfl) (by assumption) (fun s => ?hy) ?_; case hy => (go_simp <;> with_reducible rfl)
            try simp only [List.getElem_toArray, List.getElem_cons_succ, List.getElem_cons_zero, Act.put, List.setIfInBounds_toArray, List.set_cons_zero, List.set_cons_succ]
            refine mixs_take 11 (v := ?_) rfl (by kernel_rfl) (fun _ _ _ h => h) (by kernel_rfl) (by assumption) (fun s => ?hy) ?_; case hy => (go_simp <;> with_reducible rfl)
            try simp only [List.getElem_toArray, List.getElem_cons_succ, List.getElem_cons_zero, Act.put, List.setIfInBounds_toArray, List.set_cons_zero, List.set_cons_succ]
            refine mixs_take 12 (v := ?_) rfl (by kernel_rfl) (fun _ _ _ h => h) (by kernel_rfl) (by assumption) (fun s => ?hy) ?_; case hy => (refine Eq.trans (take_loadrow s rfl rfl k15) ?_; with_reducible rfl)
            try simp only [List.getElem_toArray, List.getElem_cons_succ, List.getElem_cons_zero, Act.put, List.setIfInBounds_toArray, List.set_cons_zero, List.set_cons_succ]
            refine mixs_take 13 (v := ?_) rfl (by kernel_rfl) (fun _ _ _ h => h) (by kernel_rfl) (by assumption) (fun s => ?hy) ?_; case hy => (go_simp <;> with_reducible rfl)
            try simp only [List.getElem_toArray, List.getElem_cons_succ, List.getElem_cons_zero, Act.put, List.setIfInBounds_toArray, List.set_cons_zero, List.set_cons_succ]
            refine mixs_take 14 (v := ?_) rfl (by kernel_rfl) (fun _ _ _ h => h) (by kernel_rfl) (by assumption) (fun s => ?hy) ?_; case hy => (go_simp <;> with_reducible rfl)
            try simp only [List.getElem_toArray, List.getElem_cons_succ, List.getElem_cons_zero, Act.put, List.setIfInBounds_toArray, List.set_cons_zero, List.set_cons_succ]
            refine mixs_take 15 (v := ?_) rfl (by kernel_rfl) (fun _ _ _ h => h) (by kernel_rfl) (by assumption) (fun s => ?hy) ?_; case hy => (go_simp <;> with_reducible rfl)
            try simp only [List.getElem_toArray, List.getElem_cons_succ, List.getElem_cons_zero, Act.put, List.setIfInBounds_toArray, List.set_cons_zero, List.set_cons_succ]
            refine mixs_take 16 (v := ?_) rfl (by kernel_rfl) (fun _ _ _ h => h) (by kernel_rfl) (by assumption) (fun s => ?hy) ?_; case hy => (refine Eq.trans (take_loadrow s rfl rfl kR) ?_; with_reducible rfl)
            try simp only [List.getElem_toArray, List.getElem_cons_succ, List.getElem_cons_zero, Act.put, List.setIfInBounds_toArray, List.set_cons_zero, List.set_cons_succ]
            refine mixs_take 17 (v := ?_) rfl (by kernel_rfl) (fun _ _ _ h => h) (by kernel_rfl) (by assumption) (fun s => ?hy) ?_; case hy => (go_simp <;> with_reducible rfl)
            try simp only [List.getElem_toArray, List.getElem_cons_succ, List.getElem_cons_zero, Act.put, List.setIfInBounds_toArray, List.set_cons_zero, List.set_cons_succ]
            refine mixs_take 18 (v := ?_) rfl (by kernel_rfl) (fun _ _ _ h => h) (by kernel_rfl) (by assumption) (fun s => ?hy) ?_; case hy => (go_simp <;> with_reducible rfl)
            try simp only [List.getElem_toArray, List.getElem_cons_succ, List.getElem_cons_zero, Act.put, List.setIfInBounds_toArray, List.set_cons_zero, List.set_cons_succ]
            refine mixs_take 19 (v := ?_) rfl (by kernel_rfl) (fun _ _ _ h => h) (by kernel_rfl) (by assumption) (fun s => ?hy) ?_; case hy => (go_simp <;> with_reducible rfl)
            try simp only [List.getElem_toArray, List.getElem_cons_succ, List.getElem_cons_zero, Act.put, List.setIfInBounds_toArray, List.set_cons_zero, List.set_cons_succ]
            refine wpAnyH_done (by kernel_rfl) ?_ _
            clear kz kc k15 kR hE
            go_wp2_with fail
            go_roundg (s.m.length - (k + 1))
            case measure => omega
            case rel => exact ⟨k + 1, by omega, by go_num, hS.drop⟩
        · go_wp2_with fail
          have hS2 := hSo.out.keepB hS.below
          go_roundg (n - (j + 1))
          case measure => omega
          case rel => exact ⟨j + 1, s1, da1, dc1, last1, by omega, (by
            have h2 := h200.out
            have h3 : wrap64 ((j : Int) + 1) = (j : Int) + 1 := by rw [← IntWalk.i64_left, IntWalk.i64_in _ (by omega)]
            first | go_num | (simp only [IntWalk.i64_left, h3]; rfl) | (rw [h3]; rfl) | (simp [h3])), rfl, Lib.hid hL.out.ok, Lib.hid hL.out.last, hS2.drop.drop⟩
end Go.Proofs.YtneolmnpebiifaaDoor
end
