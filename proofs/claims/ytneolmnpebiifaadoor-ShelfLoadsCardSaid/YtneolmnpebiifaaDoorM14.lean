/- Texts laid together: ShelfSame ShelfDoes. -/
import Derived.Test.YtneolmnpebiifaaDoorM10
import Derived.Test.YtneolmnpebiifaaDoorM13
import Derived.Test.YtneolmnpebiifaaDoorM2
import Derived.Test.YtneolmnpebiifaaDoorM7
import Derived.Test.YtneolmnpebiifaaDoorM9
section
/- The law's same. -/
set_option linter.unusedSimpArgs false
set_option linter.unusedVariables false
namespace Go.Proofs.YtneolmnpebiifaaDoor
open Go.RowKit Go.Ofp
set_option linter.unusedVariables false
set_option maxRecDepth 100000
set_option maxHeartbeats 4000000
theorem ShAt.below18 {w w' : World} {g gm : Nat} {s : ShS} {da : Option Addr} {dc : Nat} (h : ShAt w g gm s da dc) (k : Below w.heap.size w w') : ShAt w' g gm s da dc :=
  ⟨(Fr.of_below k).cell h.c1 (by simp), (Fr.of_below k).cell h.c2 (by simp), h.im.below k, h.dl.below k⟩
theorem cds_ok18 {s : ShS} (h : ShOk s) : ∀ c ∈ s.m, CdOk c := fun c hc => ⟨h.fl c hc, by have := h.id c hc; have := h.next; omega⟩
theorem same18_any (g gm : Nat) (s : ShS) (da : Option Addr) (dc : Nat) (ca : Option Addr) (cc : Nat) (ra : Option Addr) (rc : Nat) (id : Int) (hid : I64 id) (w : World) (hA : ShAt w g gm s da dc) (h0 : w.cell? ⟨g, 0, none⟩ = some (.int .i64 s.next)) (hl : LC w s ca cc) (hd : LD w s ra rc) (hok : ShOk s) :
    Calls Tryd.prog 16 #[.pointer (some ⟨g, 0, none⟩), .agg (rsRow s ca cc ra rc).toArray, .int .i64 id] w fun e w' => e = .returned (.bool true) ∧ Below w.heap.size w w' := by
  have hS := St.start w
  have ec := elem_card
  have hG := guard_cd
  have hgf := get_f hok id
  have hgl := cdRow_lenT _ hgf
  have hgo := cdRow_oneT (s.get id).1
  have cG := fun W h => sget_any g gm s da dc id hid W h hok
  have cR := fun W h1 h2 => rsget_any s ca cc ra rc id W h1 h2
  have hgV : sgV (s.get id) = .tuple #[.agg (cdRow (s.get id).1).toArray, .int .i64 (s.get id).2] := rfl
  rw [hgV] at cG cR
  have hE := fun W => eql_cd (s.get id).1 (s.get id).1 hgf hgf W
  simp only [decide_true] at hE
  have cN := Lib.hid fun W h => snext_any g s.next W h
  have cC := Lib.hid fun W (h : ShAt W g gm s da dc) => scards_any g gm s.m.length s.m W h.c1 h.im hok.ris (cds_ok18 hok) (by have := hok.len; omega)
  have cD := Lib.hid fun W (h : ShAt W g gm s da dc) => sdead_any g s.dead da s.dead.length dc W h.c2 h.dl (by have := hok.dlen; omega)
  have cS := fun a b ca cb W h1 h2 => csame_any a b s.m.length s.m.length ca cb s.m s.m W h1 h2 (by have := hok.len; omega) (by have := hok.len; omega)
  have cE := fun a b ca cb W h1 h2 => dsame_any a b s.dead.length s.dead.length ca cb s.dead s.dead W h1 h2 (by have := hok.dlen; omega) (by have := hok.dlen; omega)
  rw [decide_eq_true rfl] at cS cE
  have hR : rsRow s ca cc ra rc = [.int .i64 s.next, .slice ca s.m.length cc, .slice ra s.dead.length rc] := rfl
  rw [hR] at cR ⊢
  clear hR hgV
  have hfl := Lib.hid hok.fl
  generalize hGR : cdRow (s.get id).1 = GR at *
  generalize (s.get id).2 = ge at *
  have hge : (ge == ge) = true := by simp
  have hn : (s.next == s.next) = true := by simp
  have hrg : (GR.toArray.toList.drop 0).take 27 = GR := by simp [← hgl]
  replace hGR := Lib.hid hGR
  replace cG := Lib.hid cG
  replace cR := Lib.hid cR
  replace cS := Lib.hid cS
  replace cE := Lib.hid cE
  replace hA := Lib.hid hA
  replace hl := Lib.hid hl
  replace hd := Lib.hid hd
  clear hok hid hgf
  generalize s.next = nx at *
  go_enter Tryd.func16, Tryd.ntmps16
  go_wp2_with (first
    | (go_at_call 11; (with_reducible refine (cG.out _ (hA.out.below18 hS.below)).mono ?_); rintro _ w3 ⟨rfl, hk9⟩; have hS1 := hS.keepB hk9; clear hk9 hS; have hS := hS1; clear hS1)
    | (go_at_call 36; (with_reducible refine (cR.out _ (hl.out.below hS.below) (hd.out.below hS.below)).mono ?_); rintro _ w3 ⟨rfl, hk9⟩; have hS1 := hS.keepB hk9; clear hk9 hS; have hS := hS1; clear hS1)
    | (with_reducible refine wpList_alloc_st (t := 38) hS rfl rfl ec ?_; intro gc w1 hS1; clear hS; have hS := hS1; clear hS1)
    | ((with_reducible refine wpList_storerow_st (t := 38) (n := 27) (vs := GR) 0 hS rfl rfl rfl rfl (by kernel_rfl) rfl hgl hgo (by kernel_rfl) ?_); intro w1 hS1; clear hS; have hS := hS1; clear hS1; try simp only [List.set_cons_zero, List.set_cons_succ, List.setIfInBounds_toArray, List.take_succ_cons, List.take_zero, List.drop_succ_cons, List.drop_zero, List.nil_append, List.cons_append, List.append_nil, List.drop_nil, List.take_nil, List.length_cons, List.length_nil, Nat.zero_add, Nat.add_zero, Nat.reduceAdd] at hS)
    | (with_reducible refine wpList_box_st hS rfl rfl rfl ?_; intro g1 w1 hS1; clear hS; replace hS := hS1; clear hS1) | (with_reducible refine wpList_box1_st hS rfl rfl rfl ?_; intro g1 w1 hS1; clear hS; replace hS := hS1; clear hS1) | (with_reducible refine wpList_alloc_st hS rfl rfl (by assumption) ?_; intro g1 w1 hS1; clear hS; replace hS := hS1; clear hS1) | (with_reducible refine wpList_alloc1_st hS rfl rfl (by assumption) rfl ?_; intro g1 w1 hS1; clear hS; replace hS := hS1; clear hS1) | ((with_reducible refine wpList_load_st 0 hS rfl rfl rfl rfl ?_ rfl ?_); focus (simp [scalarB, go_sem]; done)) | ((with_reducible refine wpList_loadall_st 0 hS rfl rfl rfl rfl ?_ (by kernel_rfl) ?_); focus (simp [rowB, go_sem]; done)) | ((with_reducible refine wpList_store_st 0 hS rfl rfl rfl rfl (by kernel_rfl) rfl rfl ?_); intro w1 hS1; clear hS; replace hS := hS1; clear hS1; try simp only [List.set_cons_zero, List.set_cons_succ, List.setIfInBounds_toArray, List.take_succ_cons, List.take_zero, List.drop_succ_cons, List.drop_zero, List.nil_append, List.cons_append, List.append_nil, List.drop_nil, List.take_nil, List.length_cons, List.length_nil, Nat.zero_add, Nat.add_zero, Nat.reduceAdd] at hS) | ((with_reducible refine wpList_storerow_st 0 hS rfl rfl rfl rfl (by kernel_rfl) rfl rfl rfl rfl ?_); intro w1 hS1; clear hS; replace hS := hS1; clear hS1; try simp only [List.set_cons_zero, List.set_cons_succ, List.setIfInBounds_toArray, List.take_succ_cons, List.take_zero, List.drop_succ_cons, List.drop_zero, List.nil_append, List.cons_append, List.append_nil, List.drop_nil, List.take_nil, List.length_cons, List.length_nil, Nat.zero_add, Nat.add_zero, Nat.reduceAdd] at hS) | ((with_reducible refine wpList_load_st 1 hS rfl rfl rfl rfl ?_ rfl ?_); focus (simp [scalarB, go_sem]; done)) | ((with_reducible refine wpList_loadall_st 1 hS rfl rfl rfl rfl ?_ (by kernel_rfl) ?_); focus (simp [rowB, go_sem]; done)) | ((with_reducible refine wpList_store_st 1 hS rfl rfl rfl rfl (by kernel_rfl) rfl rfl ?_); intro w1 hS1; clear hS; replace hS := hS1; clear hS1; try simp only [List.set_cons_zero, List.set_cons_succ, List.setIfInBounds_toArray, List.take_succ_cons, List.take_zero, List.drop_succ_cons, List.drop_zero, List.nil_append, List.cons_append, List.append_nil, List.drop_nil, List.take_nil, List.length_cons, List.length_nil, Nat.zero_add, Nat.add_zero, Nat.reduceAdd] at hS) | ((with_reducible refine wpList_storerow_st 1 hS rfl rfl rfl rfl (by kernel_rfl) rfl rfl rfl rfl ?_); intro w1 hS1; clear hS; replace hS := hS1; clear hS1; try simp only [List.set_cons_zero, List.set_cons_succ, List.setIfInBounds_toArray, List.take_succ_cons, List.take_zero, List.drop_succ_cons, List.drop_zero, List.nil_append, List.cons_append, List.append_nil, List.drop_nil, List.take_nil, List.length_cons, List.length_nil, Nat.zero_add, Nat.add_zero, Nat.reduceAdd] at hS))
  have kb := hS.kblk 2 rfl
  have k7 := hS.krow (P := Tryd.prog) (j := 0) 1 rfl (t := 38) (by kernel_rfl) (n := 27) (by kernel_rfl) hrg hgl
  have k9 := hS.krow (P := Tryd.prog) (j := 0) 0 rfl (t := 38) (by kernel_rfl) (n := 27) (by kernel_rfl) hrg hgl
  refine mixs_begin (by kernel_rfl) hS ?_
  clear hS
  intro w2 hS
  refine mixs_take 0 (v := ?_) rfl (by kernel_rfl) (fun _ _ _ h => h) (by kernel_rfl) (by assumption) (fun s => ?hy) ?_; case hy => (go_simp <;> with_reducible rfl)
  try simp only [List.getElem_toArray, List.getElem_cons_succ, List.getElem_cons_zero, Act.put, List.setIfInBounds_toArray, List.set_cons_zero, List.set_cons_succ]
  refine mixs_take 2 (v := ?_) rfl (by kernel_rfl) (fun _ _ _ h => h) (by kernel_rfl) (by assumption) (fun s => ?hy) ?_; case hy => (go_simp <;> with_reducible rfl)
  try simp only [List.getElem_toArray, List.getElem_cons_succ, List.getElem_cons_zero, Act.put, List.setIfInBounds_toArray, List.set_cons_zero, List.set_cons_succ]
  refine mixs_take 3 (v := ?_) rfl (by kernel_rfl) (fun _ _ _ h => h) (by kernel_rfl) (by assumption) (fun s => ?hy) ?_; case hy => (go_simp <;> with_reducible rfl)
  try simp only [List.getElem_toArray, List.getElem_cons_succ, List.getElem_cons_zero, Act.put, List.setIfInBounds_toArray, List.set_cons_zero, List.set_cons_succ]
  refine mixs_one 1 (by kernel_rfl) rfl (fun K hK => ?_)
  go_simp
  ( first | (go_at_call 18; (with_reducible refine (cN.out _ (hS.old h0 (by simp))).mono ?_); rintro _ w3 ⟨rfl, hk9⟩; have hS1 := hS.keepB hk9; clear hk9 hS; have hS := hS1; clear hS1) | (go_at_call 9; (with_reducible refine (cC.out _ (hA.out.below18 hS.below)).mono ?_); rintro _ w3 ⟨a5, c5, rfl, hk9⟩; have hS1 := hS.made hk9; clear hS hk9; have hS := hS1; clear hS1) | (go_at_call 19; (with_reducible refine (cD.out _ (hA.out.below18 hS.below)).mono ?_); rintro _ w3 ⟨a6, c6, rfl, hk9⟩; have hS1 := hS.made hk9; clear hS hk9; have hS := hS1; clear hS1) | (go_at_call 37; (with_reducible refine (cS.out _ _ _ _ _ (hS.lst 0 rfl rfl hfl.out) (hl.out.below hS.below)).mono ?_); rintro _ w3 ⟨rfl, hk9⟩; have hS1 := hS.keepB hk9; clear hk9 hS; have hS := hS1; clear hS1) | (go_at_call 38; (with_reducible refine (cE.out _ _ _ _ _ (hS.lst 0 rfl rfl (fun _ _ => trivial)) (hd.out.below hS.below)).mono ?_); rintro _ w3 ⟨rfl, hk9⟩; have hS1 := hS.keepB hk9; clear hk9 hS; have hS := hS1; clear hS1) )
  try clear hC
  refine hK.out _ _ _ (fun _ h => h) (by first | exact hS | exact hS.drop | exact hS.drop.drop | exact hS.drop.drop.drop | exact hS.drop.drop.drop.drop | exact hS.empty | exact hS.one 0 rfl | exact hS.one 1 rfl | exact hS.one 2 rfl | exact hS.one 3 rfl | exact hS.one 4 rfl | exact hS.one 5 rfl | exact hS.one 6 rfl | exact hS.one 7 rfl | exact hS.one 8 rfl | exact hS.one 9 rfl | exact hS.one 10 rfl | exact hS.one 11 rfl) (fun hC => ?_)
  clear hK K
  try simp only [List.getElem_toArray, List.getElem_cons_succ, List.getElem_cons_zero, Act.put, List.setIfInBounds_toArray, List.set_cons_zero, List.set_cons_succ]
  refine mixs_take 4 (v := ?_) rfl (by kernel_rfl) (fun _ _ _ h => h) (by kernel_rfl) (by assumption) (fun s => ?hy) ?_; case hy => (go_simp <;> with_reducible rfl)
  try simp only [List.getElem_toArray, List.getElem_cons_succ, List.getElem_cons_zero, Act.put, List.setIfInBounds_toArray, List.set_cons_zero, List.set_cons_succ]
  refine mixs_take 5 (v := ?_) rfl (by kernel_rfl) (fun _ _ _ h => h) (by kernel_rfl) (by assumption) (fun s => ?hy) ?_; case hy => (go_simp <;> with_reducible rfl)
  try simp only [List.getElem_toArray, List.getElem_cons_succ, List.getElem_cons_zero, Act.put, List.setIfInBounds_toArray, List.set_cons_zero, List.set_cons_succ]
  refine mixs_take 6 (v := ?_) rfl (by kernel_rfl) (fun _ _ _ h => h) (by kernel_rfl) (by assumption) (fun s => ?hy) ?_; case hy => (go_simp <;> with_reducible rfl)
  try simp only [List.getElem_toArray, List.getElem_cons_succ, List.getElem_cons_zero, Act.put, List.setIfInBounds_toArray, List.set_cons_zero, List.set_cons_succ]
  refine mixs_take 8 (v := ?_) rfl (by kernel_rfl) (fun _ _ _ h => h) (by kernel_rfl) (by assumption) (fun s => ?hy) ?_; case hy => (go_simp <;> with_reducible rfl)
  try simp only [List.getElem_toArray, List.getElem_cons_succ, List.getElem_cons_zero, Act.put, List.setIfInBounds_toArray, List.set_cons_zero, List.set_cons_succ]
  refine mixs_take 9 (v := ?_) rfl (by kernel_rfl) (fun _ _ _ h => h) (by kernel_rfl) (by assumption) (fun s => ?hy) ?_; case hy => (go_simp <;> with_reducible rfl)
  try simp only [List.getElem_toArray, List.getElem_cons_succ, List.getElem_cons_zero, Act.put, List.setIfInBounds_toArray, List.set_cons_zero, List.set_cons_succ]
  refine mixs_one 7 (by kernel_rfl) rfl (fun K hK => ?_)
  go_simp
  ( first | (go_at_call 18; (with_reducible refine (cN.out _ (hS.old h0 (by simp))).mono ?_); rintro _ w3 ⟨rfl, hk9⟩; have hS1 := hS.keepB hk9; clear hk9 hS; have hS := hS1; clear hS1) | (go_at_call 9; (with_reducible refine (cC.out _ (hA.out.below18 hS.below)).mono ?_); rintro _ w3 ⟨a5, c5, rfl, hk9⟩; have hS1 := hS.made hk9; clear hS hk9; have hS := hS1; clear hS1) | (go_at_call 19; (with_reducible refine (cD.out _ (hA.out.below18 hS.below)).mono ?_); rintro _ w3 ⟨a6, c6, rfl, hk9⟩; have hS1 := hS.made hk9; clear hS hk9; have hS := hS1; clear hS1) | (go_at_call 37; (with_reducible refine (cS.out _ _ _ _ _ (hS.lst 0 rfl rfl hfl.out) (hl.out.below hS.below)).mono ?_); rintro _ w3 ⟨rfl, hk9⟩; have hS1 := hS.keepB hk9; clear hk9 hS; have hS := hS1; clear hS1) | (go_at_call 38; (with_reducible refine (cE.out _ _ _ _ _ (hS.lst 0 rfl rfl (fun _ _ => trivial)) (hd.out.below hS.below)).mono ?_); rintro _ w3 ⟨rfl, hk9⟩; have hS1 := hS.keepB hk9; clear hk9 hS; have hS := hS1; clear hS1) )
  try clear hC
  refine hK.out _ _ _ (fun _ h => h) (by first | exact hS | exact hS.drop | exact hS.drop.drop | exact hS.drop.drop.drop | exact hS.drop.drop.drop.drop | exact hS.empty | exact hS.one 0 rfl | exact hS.one 1 rfl | exact hS.one 2 rfl | exact hS.one 3 rfl | exact hS.one 4 rfl | exact hS.one 5 rfl | exact hS.one 6 rfl | exact hS.one 7 rfl | exact hS.one 8 rfl | exact hS.one 9 rfl | exact hS.one 10 rfl | exact hS.one 11 rfl) (fun hC => ?_)
  clear hK K
  try simp only [List.getElem_toArray, List.getElem_cons_succ, List.getElem_cons_zero, Act.put, List.setIfInBounds_toArray, List.set_cons_zero, List.set_cons_succ]
  refine mixs_one 10 (by kernel_rfl) rfl (fun K hK => ?_)
  go_simp
  ( first | (go_at_call 18; (with_reducible refine (cN.out _ (hS.old h0 (by simp))).mono ?_); rintro _ w3 ⟨rfl, hk9⟩; have hS1 := hS.keepB hk9; clear hk9 hS; have hS := hS1; clear hS1) | (go_at_call 9; (with_reducible refine (cC.out _ (hA.out.below18 hS.below)).mono ?_); rintro _ w3 ⟨a5, c5, rfl, hk9⟩; have hS1 := hS.made hk9; clear hS hk9; have hS := hS1; clear hS1) | (go_at_call 19; (with_reducible refine (cD.out _ (hA.out.below18 hS.below)).mono ?_); rintro _ w3 ⟨a6, c6, rfl, hk9⟩; have hS1 := hS.made hk9; clear hS hk9; have hS := hS1; clear hS1) | (go_at_call 37; (with_reducible refine (cS.out _ _ _ _ _ (hS.lst 0 rfl rfl hfl.out) (hl.out.below hS.below)).mono ?_); rintro _ w3 ⟨rfl, hk9⟩; have hS1 := hS.keepB hk9; clear hk9 hS; have hS := hS1; clear hS1) | (go_at_call 38; (with_reducible refine (cE.out _ _ _ _ _ (hS.lst 0 rfl rfl (fun _ _ => trivial)) (hd.out.below hS.below)).mono ?_); rintro _ w3 ⟨rfl, hk9⟩; have hS1 := hS.keepB hk9; clear hk9 hS; have hS := hS1; clear hS1) )
  try clear hC
  refine hK.out _ _ _ (fun _ h => h) (by first | exact hS | exact hS.drop | exact hS.drop.drop | exact hS.drop.drop.drop | exact hS.drop.drop.drop.drop | exact hS.empty | exact hS.one 0 rfl | exact hS.one 1 rfl | exact hS.one 2 rfl | exact hS.one 3 rfl | exact hS.one 4 rfl | exact hS.one 5 rfl | exact hS.one 6 rfl | exact hS.one 7 rfl | exact hS.one 8 rfl | exact hS.one 9 rfl | exact hS.one 10 rfl | exact hS.one 11 rfl) (fun hC => ?_)
  clear hK K
  try simp only [List.getElem_toArray, List.getElem_cons_succ, List.getElem_cons_zero, Act.put, List.setIfInBounds_toArray, List.set_cons_zero, List.set_cons_succ]
  refine mixs_take 11 (v := ?_) rfl (by kernel_rfl) (fun _ _ _ h => h) (by kernel_rfl) (by assumption) (fun s => ?hy) ?_; case hy => (go_simp <;> with_reducible rfl)
  try simp only [List.getElem_toArray, List.getElem_cons_succ, List.getElem_cons_zero, Act.put, List.setIfInBounds_toArray, List.set_cons_zero, List.set_cons_succ]
  refine mixs_take 12 (v := ?_) rfl (by kernel_rfl) (fun _ _ _ h => h) (by kernel_rfl) (by assumption) (fun s => ?hy) ?_; case hy => (go_simp <;> with_reducible rfl)
  try simp only [List.getElem_toArray, List.getElem_cons_succ, List.getElem_cons_zero, Act.put, List.setIfInBounds_toArray, List.set_cons_zero, List.set_cons_succ]
  refine mixs_take 13 (v := ?_) rfl (by kernel_rfl) (fun _ _ _ h => h) (by kernel_rfl) (by assumption) (fun s => ?hy) ?_; case hy => (go_simp <;> with_reducible rfl)
  try simp only [List.getElem_toArray, List.getElem_cons_succ, List.getElem_cons_zero, Act.put, List.setIfInBounds_toArray, List.set_cons_zero, List.set_cons_succ]
  refine mixs_take 15 (v := ?_) rfl (by kernel_rfl) (fun _ _ _ h => h) (by kernel_rfl) (by assumption) (fun s => ?hy) ?_; case hy => (go_simp <;> with_reducible rfl)
  try simp only [List.getElem_toArray, List.getElem_cons_succ, List.getElem_cons_zero, Act.put, List.setIfInBounds_toArray, List.set_cons_zero, List.set_cons_succ]
  refine mixs_take 16 (v := ?_) rfl (by kernel_rfl) (fun _ _ _ h => h) (by kernel_rfl) (by assumption) (fun s => ?hy) ?_; case hy => (go_simp <;> with_reducible rfl)
  try simp only [List.getElem_toArray, List.getElem_cons_succ, List.getElem_cons_zero, Act.put, List.setIfInBounds_toArray, List.set_cons_zero, List.set_cons_succ]
  refine mixs_one 14 (by kernel_rfl) rfl (fun K hK => ?_)
  go_simp
  ( first | (go_at_call 18; (with_reducible refine (cN.out _ (hS.old h0 (by simp))).mono ?_); rintro _ w3 ⟨rfl, hk9⟩; have hS1 := hS.keepB hk9; clear hk9 hS; have hS := hS1; clear hS1) | (go_at_call 9; (with_reducible refine (cC.out _ (hA.out.below18 hS.below)).mono ?_); rintro _ w3 ⟨a5, c5, rfl, hk9⟩; have hS1 := hS.made hk9; clear hS hk9; have hS := hS1; clear hS1) | (go_at_call 19; (with_reducible refine (cD.out _ (hA.out.below18 hS.below)).mono ?_); rintro _ w3 ⟨a6, c6, rfl, hk9⟩; have hS1 := hS.made hk9; clear hS hk9; have hS := hS1; clear hS1) | (go_at_call 37; (with_reducible refine (cS.out _ _ _ _ _ (hS.lst 0 rfl rfl hfl.out) (hl.out.below hS.below)).mono ?_); rintro _ w3 ⟨rfl, hk9⟩; have hS1 := hS.keepB hk9; clear hk9 hS; have hS := hS1; clear hS1) | (go_at_call 38; (with_reducible refine (cE.out _ _ _ _ _ (hS.lst 0 rfl rfl (fun _ _ => trivial)) (hd.out.below hS.below)).mono ?_); rintro _ w3 ⟨rfl, hk9⟩; have hS1 := hS.keepB hk9; clear hk9 hS; have hS := hS1; clear hS1) )
  try clear hC
  refine hK.out _ _ _ (fun _ h => h) (by first | exact hS | exact hS.drop | exact hS.drop.drop | exact hS.drop.drop.drop | exact hS.drop.drop.drop.drop | exact hS.empty | exact hS.one 0 rfl | exact hS.one 1 rfl | exact hS.one 2 rfl | exact hS.one 3 rfl | exact hS.one 4 rfl | exact hS.one 5 rfl | exact hS.one 6 rfl | exact hS.one 7 rfl | exact hS.one 8 rfl | exact hS.one 9 rfl | exact hS.one 10 rfl | exact hS.one 11 rfl) (fun hC => ?_)
  clear hK K
  try simp only [List.getElem_toArray, List.getElem_cons_succ, List.getElem_cons_zero, Act.put, List.setIfInBounds_toArray, List.set_cons_zero, List.set_cons_succ]
  refine mixs_one 17 (by kernel_rfl) rfl (fun K hK => ?_)
  go_simp
  ( first | (go_at_call 18; (with_reducible refine (cN.out _ (hS.old h0 (by simp))).mono ?_); rintro _ w3 ⟨rfl, hk9⟩; have hS1 := hS.keepB hk9; clear hk9 hS; have hS := hS1; clear hS1) | (go_at_call 9; (with_reducible refine (cC.out _ (hA.out.below18 hS.below)).mono ?_); rintro _ w3 ⟨a5, c5, rfl, hk9⟩; have hS1 := hS.made hk9; clear hS hk9; have hS := hS1; clear hS1) | (go_at_call 19; (with_reducible refine (cD.out _ (hA.out.below18 hS.below)).mono ?_); rintro _ w3 ⟨a6, c6, rfl, hk9⟩; have hS1 := hS.made hk9; clear hS hk9; have hS := hS1; clear hS1) | (go_at_call 37; (with_reducible refine (cS.out _ _ _ _ _ (hS.lst 0 rfl rfl hfl.out) (hl.out.below hS.below)).mono ?_); rintro _ w3 ⟨rfl, hk9⟩; have hS1 := hS.keepB hk9; clear hk9 hS; have hS := hS1; clear hS1) | (go_at_call 38; (with_reducible refine (cE.out _ _ _ _ _ (hS.lst 0 rfl rfl (fun _ _ => trivial)) (hd.out.below hS.below)).mono ?_); rintro _ w3 ⟨rfl, hk9⟩; have hS1 := hS.keepB hk9; clear hk9 hS; have hS := hS1; clear hS1) )
  try clear hC
  refine hK.out _ _ _ (fun _ h => h) (by first | exact hS | exact hS.drop | exact hS.drop.drop | exact hS.drop.drop.drop | exact hS.drop.drop.drop.drop | exact hS.empty | exact hS.one 0 rfl | exact hS.one 1 rfl | exact hS.one 2 rfl | exact hS.one 3 rfl | exact hS.one 4 rfl | exact hS.one 5 rfl | exact hS.one 6 rfl | exact hS.one 7 rfl | exact hS.one 8 rfl | exact hS.one 9 rfl | exact hS.one 10 rfl | exact hS.one 11 rfl) (fun hC => ?_)
  clear hK K
  try simp only [List.getElem_toArray, List.getElem_cons_succ, List.getElem_cons_zero, Act.put, List.setIfInBounds_toArray, List.set_cons_zero, List.set_cons_succ]
  refine mixs_take 18 (v := ?_) rfl (by kernel_rfl) (fun _ _ _ h => h) (by kernel_rfl) (by assumption) (fun s => ?hy) ?_; case hy => (go_simp <;> with_reducible rfl)
  try simp only [List.getElem_toArray, List.getElem_cons_succ, List.getElem_cons_zero, Act.put, List.setIfInBounds_toArray, List.set_cons_zero, List.set_cons_succ]
  refine mixs_take 19 (v := ?_) rfl (by kernel_rfl) (fun _ _ _ h => h) (by kernel_rfl) (by assumption) (fun s => ?hy) ?_; case hy => (go_simp <;> with_reducible rfl)
  try simp only [List.getElem_toArray, List.getElem_cons_succ, List.getElem_cons_zero, Act.put, List.setIfInBounds_toArray, List.set_cons_zero, List.set_cons_succ]
  refine mixs_take 20 (v := ?_) rfl (by kernel_rfl) (fun _ _ _ h => h) (by kernel_rfl) (by assumption) (fun s => ?hy) ?_; case hy => (refine Eq.trans (take_loadrow s rfl rfl k7) ?_; with_reducible rfl)
  try simp only [List.getElem_toArray, List.getElem_cons_succ, List.getElem_cons_zero, Act.put, List.setIfInBounds_toArray, List.set_cons_zero, List.set_cons_succ]
  refine mixs_take 21 (v := ?_) rfl (by kernel_rfl) (fun _ _ _ h => h) (by kernel_rfl) (by assumption) (fun s => ?hy) ?_; case hy => (refine Eq.trans (take_loadrow s rfl rfl k9) ?_; with_reducible rfl)
  try simp only [List.getElem_toArray, List.getElem_cons_succ, List.getElem_cons_zero, Act.put, List.setIfInBounds_toArray, List.set_cons_zero, List.set_cons_succ]
  refine mixs_take 22 (v := ?_) rfl (by kernel_rfl) (fun _ _ _ h => h) (by kernel_rfl) (by assumption) (fun s => ?hy) ?_; case hy => (go_simp <;> with_reducible rfl)
  try simp only [List.getElem_toArray, List.getElem_cons_succ, List.getElem_cons_zero, Act.put, List.setIfInBounds_toArray, List.set_cons_zero, List.set_cons_succ]
  refine mixs_take 23 (v := ?_) rfl (by kernel_rfl) (fun _ _ _ h => h) (by kernel_rfl) (by assumption) (fun s => ?hy) ?_; case hy => (go_simp <;> with_reducible rfl)
  try simp only [List.getElem_toArray, List.getElem_cons_succ, List.getElem_cons_zero, Act.put, List.setIfInBounds_toArray, List.set_cons_zero, List.set_cons_succ]
  refine mixs_take 24 (v := ?_) rfl (by kernel_rfl) (fun _ _ _ h => h) (by kernel_rfl) (by assumption) (fun s => ?hy) ?_; case hy => (go_simp <;> with_reducible rfl)
  try simp only [List.getElem_toArray, List.getElem_cons_succ, List.getElem_cons_zero, Act.put, List.setIfInBounds_toArray, List.set_cons_zero, List.set_cons_succ]
  refine mixs_take 25 (v := ?_) rfl (by kernel_rfl) (fun _ _ _ h => h) (by kernel_rfl) (by assumption) (fun s => ?hy) ?_; case hy => (go_simp <;> with_reducible rfl)
  try simp only [List.getElem_toArray, List.getElem_cons_succ, List.getElem_cons_zero, Act.put, List.setIfInBounds_toArray, List.set_cons_zero, List.set_cons_succ]
  refine mixs_take 26 (v := ?_) rfl (by kernel_rfl) (fun _ _ _ h => h) (by kernel_rfl) (by assumption) (fun s => ?hy) ?_; case hy => (go_simp <;> with_reducible rfl)
  try simp only [List.getElem_toArray, List.getElem_cons_succ, List.getElem_cons_zero, Act.put, List.setIfInBounds_toArray, List.set_cons_zero, List.set_cons_succ]
  refine mixs_take 27 (v := ?_) rfl (by kernel_rfl) (fun _ _ _ h => h) (by kernel_rfl) (by assumption) (fun s => ?hy) ?_; case hy => (go_simp <;> with_reducible rfl)
  try simp only [List.getElem_toArray, List.getElem_cons_succ, List.getElem_cons_zero, Act.put, List.setIfInBounds_toArray, List.set_cons_zero, List.set_cons_succ]
  refine mixs_take 28 (v := ?_) rfl (by kernel_rfl) (fun _ _ _ h => h) (by kernel_rfl) (by assumption) (fun s => ?hy) ?_; case hy => (go_simp <;> with_reducible rfl)
  try simp only [List.getElem_toArray, List.getElem_cons_succ, List.getElem_cons_zero, Act.put, List.setIfInBounds_toArray, List.set_cons_zero, List.set_cons_succ]
  refine mixs_take 29 (v := ?_) rfl (by kernel_rfl) (fun _ _ _ h => h) (by kernel_rfl) (by assumption) (fun s => ?hy) ?_; case hy => (go_simp <;> with_reducible rfl)
  try simp only [List.getElem_toArray, List.getElem_cons_succ, List.getElem_cons_zero, Act.put, List.setIfInBounds_toArray, List.set_cons_zero, List.set_cons_succ]
  refine wpAnyH_done (by kernel_rfl) ?_ _
  clear kb k7 k9 hE
  go_wp2_with fail
  go_ret
  exact ⟨rfl, hS.below⟩
end Go.Proofs.YtneolmnpebiifaaDoor
end

section
/- The law's does. -/
set_option linter.unusedSimpArgs false
set_option linter.unusedVariables false
namespace Go.Proofs.YtneolmnpebiifaaDoor
open Go.RowKit Go.Ofp
set_option linter.unusedVariables false
set_option maxRecDepth 100000
set_option maxHeartbeats 4000000
/-- The reference's shelf: a block of its own. -/
abbrev rsB (g : Nat) (s : ShS) (ca : Option Addr) (cc : Nat) (da : Option Addr) (dc : Nat) : Ch := Ch.blk g 50 (rsRow s ca cc da dc).toArray
theorem does18_any (g gm g2 : Nat) (s : ShS) (da : Option Addr) (dc : Nat) (ca : Option Addr) (cc : Nat) (ra : Option Addr) (rc : Nat) (kd id sq : Int) (p : Pt) (hid : I64 id) (hsq : I64 sq) (hp : PtIn p) (w : World)
    (hA : St w (feet (shA g gm s da dc ++ [rsB g2 s ca cc ra rc])) (shA g gm s da dc ++ [rsB g2 s ca cc ra rc]) w) (hok : ShOk s) (htab : Tab w) (hT : 0 ∉ feet (shA g gm s da dc ++ [rsB g2 s ca cc ra rc])) (hl : ∀ W, Fr (feet (shA g gm s da dc ++ [rsB g2 s ca cc ra rc])) w W → LC W s ca cc ∧ LD W s ra rc) :
    Calls Tryd.prog 15 #[.pointer (some ⟨g, 0, none⟩), .pointer (some ⟨g2, 0, none⟩), .agg (saRow ⟨kd, id, sq, p⟩).toArray] w fun e w' => e = .returned (.bool true) ∧ ∃ da' dc' ca' cc' ra' rc' L',
      St w (feet (shA g gm s da dc ++ [rsB g2 s ca cc ra rc])) (shA g gm (s.act kd id sq p) da' dc' ++ (rsB g2 (s.act kd id sq p) ca' cc' ra' rc' :: L')) w' ∧ RsK s (s.act kd id sq p) ca cc ra rc ca' cc' ra' rc' L' := by
  have hS := hA
  have ec := elem_card
  have hG := guard_cd
  have hT1 : 0 ∉ feet (shA g gm s da dc) := (feet_off hT).1
  have hgF : g2 ∈ feet (shA g gm s da dc ++ [rsB g2 s ca cc ra rc]) := mem_feet.2 ⟨3, _, rfl, by simp [Ch.blk]⟩
  have hl2 : ∀ W1, Fr (feet (shA g gm s da dc ++ [rsB g2 s ca cc ra rc])) w W1 → ∀ W, Fr [g2] W1 W → LC W s ca cc ∧ LD W s ra rc := fun W1 h W k => hl W (h.trans k fun x hx => .inl (by simp at hx; subst hx; exact hgF))
  replace hl2 := Lib.hid hl2
  replace hT1 := Lib.hid hT1
  replace hok := Lib.hid hok
  have htb := Lib.hid fun W (h : Fr (feet (shA g gm s da dc ++ [rsB g2 s ca cc ra rc])) w W) => htab.fr h hT
  clear hA hl hgF hT htab
  generalize feet (shA g gm s da dc ++ [rsB g2 s ca cc ra rc]) = F at *
  have hfl : (flRow p.f).length = 24 := by rw [flRow_length, hp.len]
  have hfo := flRow_one p.f
  obtain ⟨FR, hFR⟩ : ∃ FR, flRow p.f = FR := ⟨_, rfl⟩
  have hSR : saRow ⟨kd, id, sq, p⟩ = .int .i64 kd :: .int .i64 id :: .int .i64 sq :: .int .u32 p.mask :: .int .u32 p.lab :: FR := by rw [← hFR]; rfl
  have hPR : ptRow p = .int .u32 p.mask :: .int .u32 p.lab :: FR := by rw [← hFR]; rfl
  rw [hSR]
  rw [hFR] at hfl hfo
  have hrP : ((Value.int .i64 kd :: .int .i64 id :: .int .i64 sq :: .int .u32 p.mask :: .int .u32 p.lab :: FR).toArray.toList.drop 3).take 26 = .int .u32 p.mask :: .int .u32 p.lab :: FR := by simp [← hfl]
  have hpl : (Value.int .u32 p.mask :: .int .u32 p.lab :: FR).length = 26 := by simp [hfl]
  clear hSR
  by_cases hk0 : kd = 0
  · subst hk0
    have hact : s.act 0 id sq p = (s.add p).1 := rfl
    rw [hact]
    have cA := fun W h1 h2 => sadd_any g gm s da dc p hp W h1 hok.out h2 hT1.out
    have cR := fun W h1 h2 => rsadd_k g2 s ca cc ra rc p hp hok.out W h1 h2
    have hgV : sgV (s.add p).2 = .tuple #[.agg (cdRow (s.add p).2.1).toArray, .int .i64 (s.add p).2.2] := rfl
    have hcf := add_f (s := s) p
    have hE := fun W => eql_cd (s.add p).2.1 (s.add p).2.1 hcf hcf W
    have hcl := cdRow_lenT _ hcf
    have hco := cdRow_oneT (s.add p).2.1
    rw [hgV, hPR] at cA cR
    simp only [decide_true] at hE
    clear hgV hcf hact
    generalize cdRow (s.add p).2.1 = CR at *
    generalize (s.add p).2.2 = er at *
    generalize (s.add p).1 = s1 at *
    have hee : (er == er) = true := by simp
    have hrc : (CR.toArray.toList.drop 0).take 27 = CR := by simp [← hcl]
    replace cA := Lib.hid cA
    replace cR := Lib.hid cR
    go_enter Tryd.func15, Tryd.ntmps15
    go_wp2_with (first
      | (go_at_call 10; (with_reducible refine (cA.out _ (hS.preM (A := [_]) (B := shA g gm s da dc) (R := [rsB g2 s ca cc ra rc])) (htb.out _ hS.fr)).mono ?_); rintro _ w3 ⟨rfl, hk9⟩; have hS1 := hS.callM (A := [_]) (B := shA g gm s da dc) (R := [rsB g2 s ca cc ra rc]) hk9; clear hS hk9; have hS := hS1; clear hS1)
      | (go_at_call 32; (with_reducible refine (cR.out _ (hS.preM (A := [_, _] ++ shA g gm s1 da dc) (B := [rsB g2 s ca cc ra rc]) (R := [])) (fun W k => (hl2.out _ hS.fr W k).1)).mono ?_); rintro _ w3 ⟨rfl, ca1, cc1, ra1, rc1, L1, hk9, hKL⟩; have hS1 := hS.callM (A := [_, _] ++ shA g gm s1 da dc) (B := [rsB g2 s ca cc ra rc]) (R := []) hk9; rw [List.append_nil] at hS1; clear hS hk9; replace hKL := Lib.hid hKL; have hS := hS1; clear hS1)
      | (with_reducible refine wpList_box_st (L := shA g gm s da dc ++ [rsB g2 s ca cc ra rc]) hS rfl rfl rfl ?_; intro gb w1 hS1; clear hS; have hS := hS1; clear hS1) | ((with_reducible refine wpList_loadrow_st (t := 30) (n := 26) (j := 3) (vs := Value.int .u32 p.mask :: .int .u32 p.lab :: FR) 0 hS rfl rfl rfl rfl (by kernel_rfl) (by kernel_rfl) hrP hpl ?_)) | ((with_reducible refine wpList_loadrow_st (t := 30) (n := 26) (j := 3) (vs := Value.int .u32 p.mask :: .int .u32 p.lab :: FR) 1 hS rfl rfl rfl rfl (by kernel_rfl) (by kernel_rfl) hrP hpl ?_)) | (with_reducible refine wpList_alloc_st (t := 38) hS rfl rfl ec ?_; intro gc w1 hS1; clear hS; have hS := hS1; clear hS1)
      | ((with_reducible refine wpList_storerow_st (t := 38) (n := 27) (vs := CR) 0 hS rfl rfl rfl rfl (by kernel_rfl) rfl hcl hco (by kernel_rfl) ?_); intro w1 hS1; clear hS; have hS := hS1; clear hS1; try simp only [List.set_cons_zero, List.set_cons_succ, List.setIfInBounds_toArray, List.take_succ_cons, List.take_zero, List.drop_succ_cons, List.drop_zero, List.nil_append, List.cons_append, List.append_nil, List.drop_nil, List.take_nil, List.length_cons, List.length_nil, Nat.zero_add, Nat.add_zero, Nat.reduceAdd] at hS)
      | ((with_reducible refine wpList_loadrow_st (t := 38) (n := 27) (j := 0) (vs := CR) 0 hS rfl rfl rfl rfl (by kernel_rfl) (by kernel_rfl) hrc hcl ?_))
      | ((with_reducible refine wpList_loadrow_st (t := 38) (n := 27) (j := 0) (vs := CR) 1 hS rfl rfl rfl rfl (by kernel_rfl) (by kernel_rfl) hrc hcl ?_))
      | (with_reducible refine wpList_box_st hS rfl rfl rfl ?_; intro g1 w1 hS1; clear hS; replace hS := hS1; clear hS1) | (with_reducible refine wpList_box1_st hS rfl rfl rfl ?_; intro g1 w1 hS1; clear hS; replace hS := hS1; clear hS1) | (with_reducible refine wpList_alloc_st hS rfl rfl (by assumption) ?_; intro g1 w1 hS1; clear hS; replace hS := hS1; clear hS1) | (with_reducible refine wpList_alloc1_st hS rfl rfl (by assumption) rfl ?_; intro g1 w1 hS1; clear hS; replace hS := hS1; clear hS1) | ((with_reducible refine wpList_load_st 0 hS rfl rfl rfl rfl ?_ rfl ?_); focus (simp [scalarB, go_sem]; done)) | ((with_reducible refine wpList_loadall_st 0 hS rfl rfl rfl rfl ?_ (by kernel_rfl) ?_); focus (simp [rowB, go_sem]; done)) | ((with_reducible refine wpList_store_st 0 hS rfl rfl rfl rfl (by kernel_rfl) rfl rfl ?_); intro w1 hS1; clear hS; replace hS := hS1; clear hS1; try simp only [List.set_cons_zero, List.set_cons_succ, List.setIfInBounds_toArray, List.take_succ_cons, List.take_zero, List.drop_succ_cons, List.drop_zero, List.nil_append, List.cons_append, List.append_nil, List.drop_nil, List.take_nil, List.length_cons, List.length_nil, Nat.zero_add, Nat.add_zero, Nat.reduceAdd] at hS) | ((with_reducible refine wpList_storerow_st 0 hS rfl rfl rfl rfl (by kernel_rfl) rfl rfl rfl rfl ?_); intro w1 hS1; clear hS; replace hS := hS1; clear hS1; try simp only [List.set_cons_zero, List.set_cons_succ, List.setIfInBounds_toArray, List.take_succ_cons, List.take_zero, List.drop_succ_cons, List.drop_zero, List.nil_append, List.cons_append, List.append_nil, List.drop_nil, List.take_nil, List.length_cons, List.length_nil, Nat.zero_add, Nat.add_zero, Nat.reduceAdd] at hS) | ((with_reducible refine wpList_load_st 1 hS rfl rfl rfl rfl ?_ rfl ?_); focus (simp [scalarB, go_sem]; done)) | ((with_reducible refine wpList_loadall_st 1 hS rfl rfl rfl rfl ?_ (by kernel_rfl) ?_); focus (simp [rowB, go_sem]; done)) | ((with_reducible refine wpList_store_st 1 hS rfl rfl rfl rfl (by kernel_rfl) rfl rfl ?_); intro w1 hS1; clear hS; replace hS := hS1; clear hS1; try simp only [List.set_cons_zero, List.set_cons_succ, List.setIfInBounds_toArray, List.take_succ_cons, List.take_zero, List.drop_succ_cons, List.drop_zero, List.nil_append, List.cons_append, List.append_nil, List.drop_nil, List.take_nil, List.length_cons, List.length_nil, Nat.zero_add, Nat.add_zero, Nat.reduceAdd] at hS) | ((with_reducible refine wpList_storerow_st 1 hS rfl rfl rfl rfl (by kernel_rfl) rfl rfl rfl rfl ?_); intro w1 hS1; clear hS; replace hS := hS1; clear hS1; try simp only [List.set_cons_zero, List.set_cons_succ, List.setIfInBounds_toArray, List.take_succ_cons, List.take_zero, List.drop_succ_cons, List.drop_zero, List.nil_append, List.cons_append, List.append_nil, List.drop_nil, List.take_nil, List.length_cons, List.length_nil, Nat.zero_add, Nat.add_zero, Nat.reduceAdd] at hS))
    go_ret
    exact ⟨rfl, da, dc, ca1, cc1, ra1, rc1, L1, hS.drop.drop.drop, hKL.out⟩
  have q0 : (kd == 0) = false := by simpa using hk0
  by_cases hk1 : kd = 1
  · subst hk1
    have hact : s.act 1 id sq p = (s.write id p).1 := rfl
    rw [hact]
    have cA := fun W h1 h2 => swrite_any g gm s da dc id hid p hp W h1 hok.out h2 hT1.out
    have cR := fun W h1 h2 h3 => rswrite_k g2 s ca cc ra rc id p hp hok.out W h1 h2 h3
    have hgV : sgV (s.write id p).2 = .tuple #[.agg (cdRow (s.write id p).2.1).toArray, .int .i64 (s.write id p).2.2] := rfl
    have hcf := write_f hok.out id p
    have hE := fun W => eql_cd (s.write id p).2.1 (s.write id p).2.1 hcf hcf W
    have hcl := cdRow_lenT _ hcf
    have hco := cdRow_oneT (s.write id p).2.1
    rw [hgV, hPR] at cA cR
    simp only [decide_true] at hE
    clear hgV hcf hact hk0
    generalize cdRow (s.write id p).2.1 = CR at *
    generalize (s.write id p).2.2 = er at *
    generalize (s.write id p).1 = s1 at *
    have hee : (er == er) = true := by simp
    have hrc : (CR.toArray.toList.drop 0).take 27 = CR := by simp [← hcl]
    replace cA := Lib.hid cA
    replace cR := Lib.hid cR
    go_enter Tryd.func15, Tryd.ntmps15
    go_wp2_with (first
      | (go_at_call 12; (with_reducible refine (cA.out _ (hS.preM (A := [_]) (B := shA g gm s da dc) (R := [rsB g2 s ca cc ra rc])) (htb.out _ hS.fr)).mono ?_); rintro _ w3 ⟨rfl, hk9⟩; have hS1 := hS.callM (A := [_]) (B := shA g gm s da dc) (R := [rsB g2 s ca cc ra rc]) hk9; clear hS hk9; have hS := hS1; clear hS1)
      | (go_at_call 33; (with_reducible refine (cR.out _ (hS.preM (A := [_, _] ++ shA g gm s1 da dc) (B := [rsB g2 s ca cc ra rc]) (R := [])) (fun W k => (hl2.out _ hS.fr W k).1) (fun W k => (hl2.out _ hS.fr W k).2)).mono ?_); rintro _ w3 ⟨rfl, ca1, cc1, ra1, rc1, L1, hk9, hKL⟩; have hS1 := hS.callM (A := [_, _] ++ shA g gm s1 da dc) (B := [rsB g2 s ca cc ra rc]) (R := []) hk9; rw [List.append_nil] at hS1; clear hS hk9; replace hKL := Lib.hid hKL; have hS := hS1; clear hS1)
      | (with_reducible refine wpList_box_st (L := shA g gm s da dc ++ [rsB g2 s ca cc ra rc]) hS rfl rfl rfl ?_; intro gb w1 hS1; clear hS; have hS := hS1; clear hS1) | ((with_reducible refine wpList_loadrow_st (t := 30) (n := 26) (j := 3) (vs := Value.int .u32 p.mask :: .int .u32 p.lab :: FR) 0 hS rfl rfl rfl rfl (by kernel_rfl) (by kernel_rfl) hrP hpl ?_)) | ((with_reducible refine wpList_loadrow_st (t := 30) (n := 26) (j := 3) (vs := Value.int .u32 p.mask :: .int .u32 p.lab :: FR) 1 hS rfl rfl rfl rfl (by kernel_rfl) (by kernel_rfl) hrP hpl ?_)) | (with_reducible refine wpList_alloc_st (t := 38) hS rfl rfl ec ?_; intro gc w1 hS1; clear hS; have hS := hS1; clear hS1)
      | ((with_reducible refine wpList_storerow_st (t := 38) (n := 27) (vs := CR) 0 hS rfl rfl rfl rfl (by kernel_rfl) rfl hcl hco (by kernel_rfl) ?_); intro w1 hS1; clear hS; have hS := hS1; clear hS1; try simp only [List.set_cons_zero, List.set_cons_succ, List.setIfInBounds_toArray, List.take_succ_cons, List.take_zero, List.drop_succ_cons, List.drop_zero, List.nil_append, List.cons_append, List.append_nil, List.drop_nil, List.take_nil, List.length_cons, List.length_nil, Nat.zero_add, Nat.add_zero, Nat.reduceAdd] at hS)
      | ((with_reducible refine wpList_loadrow_st (t := 38) (n := 27) (j := 0) (vs := CR) 0 hS rfl rfl rfl rfl (by kernel_rfl) (by kernel_rfl) hrc hcl ?_))
      | ((with_reducible refine wpList_loadrow_st (t := 38) (n := 27) (j := 0) (vs := CR) 1 hS rfl rfl rfl rfl (by kernel_rfl) (by kernel_rfl) hrc hcl ?_))
      | (with_reducible refine wpList_box_st hS rfl rfl rfl ?_; intro g1 w1 hS1; clear hS; replace hS := hS1; clear hS1) | (with_reducible refine wpList_box1_st hS rfl rfl rfl ?_; intro g1 w1 hS1; clear hS; replace hS := hS1; clear hS1) | (with_reducible refine wpList_alloc_st hS rfl rfl (by assumption) ?_; intro g1 w1 hS1; clear hS; replace hS := hS1; clear hS1) | (with_reducible refine wpList_alloc1_st hS rfl rfl (by assumption) rfl ?_; intro g1 w1 hS1; clear hS; replace hS := hS1; clear hS1) | ((with_reducible refine wpList_load_st 0 hS rfl rfl rfl rfl ?_ rfl ?_); focus (simp [scalarB, go_sem]; done)) | ((with_reducible refine wpList_loadall_st 0 hS rfl rfl rfl rfl ?_ (by kernel_rfl) ?_); focus (simp [rowB, go_sem]; done)) | ((with_reducible refine wpList_store_st 0 hS rfl rfl rfl rfl (by kernel_rfl) rfl rfl ?_); intro w1 hS1; clear hS; replace hS := hS1; clear hS1; try simp only [List.set_cons_zero, List.set_cons_succ, List.setIfInBounds_toArray, List.take_succ_cons, List.take_zero, List.drop_succ_cons, List.drop_zero, List.nil_append, List.cons_append, List.append_nil, List.drop_nil, List.take_nil, List.length_cons, List.length_nil, Nat.zero_add, Nat.add_zero, Nat.reduceAdd] at hS) | ((with_reducible refine wpList_storerow_st 0 hS rfl rfl rfl rfl (by kernel_rfl) rfl rfl rfl rfl ?_); intro w1 hS1; clear hS; replace hS := hS1; clear hS1; try simp only [List.set_cons_zero, List.set_cons_succ, List.setIfInBounds_toArray, List.take_succ_cons, List.take_zero, List.drop_succ_cons, List.drop_zero, List.nil_append, List.cons_append, List.append_nil, List.drop_nil, List.take_nil, List.length_cons, List.length_nil, Nat.zero_add, Nat.add_zero, Nat.reduceAdd] at hS) | ((with_reducible refine wpList_load_st 1 hS rfl rfl rfl rfl ?_ rfl ?_); focus (simp [scalarB, go_sem]; done)) | ((with_reducible refine wpList_loadall_st 1 hS rfl rfl rfl rfl ?_ (by kernel_rfl) ?_); focus (simp [rowB, go_sem]; done)) | ((with_reducible refine wpList_store_st 1 hS rfl rfl rfl rfl (by kernel_rfl) rfl rfl ?_); intro w1 hS1; clear hS; replace hS := hS1; clear hS1; try simp only [List.set_cons_zero, List.set_cons_succ, List.setIfInBounds_toArray, List.take_succ_cons, List.take_zero, List.drop_succ_cons, List.drop_zero, List.nil_append, List.cons_append, List.append_nil, List.drop_nil, List.take_nil, List.length_cons, List.length_nil, Nat.zero_add, Nat.add_zero, Nat.reduceAdd] at hS) | ((with_reducible refine wpList_storerow_st 1 hS rfl rfl rfl rfl (by kernel_rfl) rfl rfl rfl rfl ?_); intro w1 hS1; clear hS; replace hS := hS1; clear hS1; try simp only [List.set_cons_zero, List.set_cons_succ, List.setIfInBounds_toArray, List.take_succ_cons, List.take_zero, List.drop_succ_cons, List.drop_zero, List.nil_append, List.cons_append, List.append_nil, List.drop_nil, List.take_nil, List.length_cons, List.length_nil, Nat.zero_add, Nat.add_zero, Nat.reduceAdd] at hS))
    go_ret
    exact ⟨rfl, da, dc, ca1, cc1, ra1, rc1, L1, hS.drop.drop.drop, hKL.out⟩
  have q1 : (kd == 1) = false := by simpa using hk1
  by_cases hk2 : kd = 2
  · subst hk2
    have hact : s.act 2 id sq p = (s.drop id sq).1 := rfl
    rw [hact]
    have cA := fun W h1 => sdrop_any g gm s da dc id sq hid hsq W h1 hok.out
    have cR := fun W h1 h2 h3 => rsdrop_any g2 s ca cc ra rc id sq hsq W h1 h2 h3 hok.out
    clear hact hk0 hk1
    generalize (s.drop id sq).2 = er at *
    generalize (s.drop id sq).1 = s1 at *
    have hee : (er == er) = true := by simp
    replace cA := Lib.hid cA
    replace cR := Lib.hid cR
    go_enter Tryd.func15, Tryd.ntmps15
    go_wp2_with (first
      | (with_reducible refine wpList_box_st (L := shA g gm s da dc ++ [rsB g2 s ca cc ra rc]) hS rfl rfl rfl ?_; intro gb w1 hS1; clear hS; have hS := hS1; clear hS1) | ((with_reducible refine wpList_loadrow_st (t := 30) (n := 26) (j := 3) (vs := Value.int .u32 p.mask :: .int .u32 p.lab :: FR) 0 hS rfl rfl rfl rfl (by kernel_rfl) (by kernel_rfl) hrP hpl ?_)) | ((with_reducible refine wpList_loadrow_st (t := 30) (n := 26) (j := 3) (vs := Value.int .u32 p.mask :: .int .u32 p.lab :: FR) 1 hS rfl rfl rfl rfl (by kernel_rfl) (by kernel_rfl) hrP hpl ?_)) | (with_reducible refine wpList_alloc_st (t := 38) hS rfl rfl ec ?_; intro gc w1 hS1; clear hS; have hS := hS1; clear hS1)
      | (with_reducible refine wpList_box_st hS rfl rfl rfl ?_; intro g1 w1 hS1; clear hS; replace hS := hS1; clear hS1) | (with_reducible refine wpList_box1_st hS rfl rfl rfl ?_; intro g1 w1 hS1; clear hS; replace hS := hS1; clear hS1) | (with_reducible refine wpList_alloc_st hS rfl rfl (by assumption) ?_; intro g1 w1 hS1; clear hS; replace hS := hS1; clear hS1) | (with_reducible refine wpList_alloc1_st hS rfl rfl (by assumption) rfl ?_; intro g1 w1 hS1; clear hS; replace hS := hS1; clear hS1) | ((with_reducible refine wpList_load_st 0 hS rfl rfl rfl rfl ?_ rfl ?_); focus (simp [scalarB, go_sem]; done)) | ((with_reducible refine wpList_loadall_st 0 hS rfl rfl rfl rfl ?_ (by kernel_rfl) ?_); focus (simp [rowB, go_sem]; done)) | ((with_reducible refine wpList_store_st 0 hS rfl rfl rfl rfl (by kernel_rfl) rfl rfl ?_); intro w1 hS1; clear hS; replace hS := hS1; clear hS1; try simp only [List.set_cons_zero, List.set_cons_succ, List.setIfInBounds_toArray, List.take_succ_cons, List.take_zero, List.drop_succ_cons, List.drop_zero, List.nil_append, List.cons_append, List.append_nil, List.drop_nil, List.take_nil, List.length_cons, List.length_nil, Nat.zero_add, Nat.add_zero, Nat.reduceAdd] at hS) | ((with_reducible refine wpList_storerow_st 0 hS rfl rfl rfl rfl (by kernel_rfl) rfl rfl rfl rfl ?_); intro w1 hS1; clear hS; replace hS := hS1; clear hS1; try simp only [List.set_cons_zero, List.set_cons_succ, List.setIfInBounds_toArray, List.take_succ_cons, List.take_zero, List.drop_succ_cons, List.drop_zero, List.nil_append, List.cons_append, List.append_nil, List.drop_nil, List.take_nil, List.length_cons, List.length_nil, Nat.zero_add, Nat.add_zero, Nat.reduceAdd] at hS) | ((with_reducible refine wpList_load_st 1 hS rfl rfl rfl rfl ?_ rfl ?_); focus (simp [scalarB, go_sem]; done)) | ((with_reducible refine wpList_loadall_st 1 hS rfl rfl rfl rfl ?_ (by kernel_rfl) ?_); focus (simp [rowB, go_sem]; done)) | ((with_reducible refine wpList_store_st 1 hS rfl rfl rfl rfl (by kernel_rfl) rfl rfl ?_); intro w1 hS1; clear hS; replace hS := hS1; clear hS1; try simp only [List.set_cons_zero, List.set_cons_succ, List.setIfInBounds_toArray, List.take_succ_cons, List.take_zero, List.drop_succ_cons, List.drop_zero, List.nil_append, List.cons_append, List.append_nil, List.drop_nil, List.take_nil, List.length_cons, List.length_nil, Nat.zero_add, Nat.add_zero, Nat.reduceAdd] at hS) | ((with_reducible refine wpList_storerow_st 1 hS rfl rfl rfl rfl (by kernel_rfl) rfl rfl rfl rfl ?_); intro w1 hS1; clear hS; replace hS := hS1; clear hS1; try simp only [List.set_cons_zero, List.set_cons_succ, List.setIfInBounds_toArray, List.take_succ_cons, List.take_zero, List.drop_succ_cons, List.drop_zero, List.nil_append, List.cons_append, List.append_nil, List.drop_nil, List.take_nil, List.length_cons, List.length_nil, Nat.zero_add, Nat.add_zero, Nat.reduceAdd] at hS))
    refine mixs_beginC 0 (by kernel_rfl) hS rfl ?_
    clear hS
    intro w2 hS hC
    have kC := hC.kblk 0 rfl
    refine mixs_take 0 (v := ?_) rfl (by kernel_rfl) (fun _ _ _ h => h) (by kernel_rfl) (by assumption) (fun s => ?hy) ?_; case hy => (go_simp <;> with_reducible rfl)
    try simp only [List.getElem_toArray, List.getElem_cons_succ, List.getElem_cons_zero, Act.put, List.setIfInBounds_toArray, List.set_cons_zero, List.set_cons_succ]
    refine mixs_take 1 (v := ?_) rfl (by kernel_rfl) (fun _ _ _ h => h) (by kernel_rfl) (by assumption) (fun s => ?hy) ?_; case hy => (go_simp <;> with_reducible rfl)
    try simp only [List.getElem_toArray, List.getElem_cons_succ, List.getElem_cons_zero, Act.put, List.setIfInBounds_toArray, List.set_cons_zero, List.set_cons_succ]
    refine mixs_take 2 (v := ?_) rfl (by kernel_rfl) (fun _ _ _ h => h) (by kernel_rfl) (by assumption) (fun s => ?hy) ?_; case hy => (go_simp <;> with_reducible rfl)
    try simp only [List.getElem_toArray, List.getElem_cons_succ, List.getElem_cons_zero, Act.put, List.setIfInBounds_toArray, List.set_cons_zero, List.set_cons_succ]
    refine mixs_take 3 (v := ?_) rfl (by kernel_rfl) (fun _ _ _ h => h) (by kernel_rfl) (by assumption) (fun s => ?hy) ?_; case hy => (go_simp <;> with_reducible rfl)
    try simp only [List.getElem_toArray, List.getElem_cons_succ, List.getElem_cons_zero, Act.put, List.setIfInBounds_toArray, List.set_cons_zero, List.set_cons_succ]
    refine mixs_take 4 (v := ?_) rfl (by kernel_rfl) (fun _ _ _ h => h) (by kernel_rfl) (by assumption) (fun s => ?hy) ?_; case hy => (go_simp <;> with_reducible rfl)
    try simp only [List.getElem_toArray, List.getElem_cons_succ, List.getElem_cons_zero, Act.put, List.setIfInBounds_toArray, List.set_cons_zero, List.set_cons_succ]
    refine mixs_take 6 (v := ?_) rfl (by kernel_rfl) (fun _ _ _ h => h) (by kernel_rfl) (by assumption) (fun s => ?hy) ?_; case hy => (go_simp <;> with_reducible rfl)
    try simp only [List.getElem_toArray, List.getElem_cons_succ, List.getElem_cons_zero, Act.put, List.setIfInBounds_toArray, List.set_cons_zero, List.set_cons_succ]
    refine mixs_take 7 (v := ?_) rfl (by kernel_rfl) (fun _ _ _ h => h) (by kernel_rfl) (by assumption) (fun s => ?hy) ?_; case hy => (go_simp <;> with_reducible rfl)
    try simp only [List.getElem_toArray, List.getElem_cons_succ, List.getElem_cons_zero, Act.put, List.setIfInBounds_toArray, List.set_cons_zero, List.set_cons_succ]
    refine mixs_take 8 (v := ?_) rfl (by kernel_rfl) (fun _ _ _ h => h) (by kernel_rfl) (by assumption) (fun s => ?hy) ?_; case hy => (go_simp <;> with_reducible rfl)
    try simp only [List.getElem_toArray, List.getElem_cons_succ, List.getElem_cons_zero, Act.put, List.setIfInBounds_toArray, List.set_cons_zero, List.set_cons_succ]
    refine mixs_take 9 (v := ?_) rfl (by kernel_rfl) (fun _ _ _ h => h) (by kernel_rfl) (by assumption) (fun s => ?hy) ?_; case hy => (go_simp <;> with_reducible rfl)
    try simp only [List.getElem_toArray, List.getElem_cons_succ, List.getElem_cons_zero, Act.put, List.setIfInBounds_toArray, List.set_cons_zero, List.set_cons_succ]
    refine mixs_take 10 (v := ?_) rfl (by kernel_rfl) (fun _ _ _ h => h) (by kernel_rfl) (by assumption) (fun s => ?hy) ?_; case hy => (go_simp <;> with_reducible rfl)
    try simp only [List.getElem_toArray, List.getElem_cons_succ, List.getElem_cons_zero, Act.put, List.setIfInBounds_toArray, List.set_cons_zero, List.set_cons_succ]
    refine mixs_one 5 (by kernel_rfl) rfl (fun K hK => ?_)
    go_simp
    ( first | (go_at_call 14; (with_reducible refine (cA.out _ (hS.preM (A := [_]) (B := shA g gm s da dc) (R := [rsB g2 s ca cc ra rc]))).mono ?_); rintro _ w3 ⟨rfl, da1, dc1, hk9⟩; have hS1 := hS.callM (A := [_]) (B := shA g gm s da dc) (R := [rsB g2 s ca cc ra rc]) hk9; clear hS hk9; have hS := hS1; clear hS1) | (go_at_call 34; (with_reducible refine (cR.out _ (hS.preM (A := [_] ++ shA g gm s1 da1 dc1) (B := [rsB g2 s ca cc ra rc]) (R := [])) (fun W k => (hl2.out _ hS.fr W k).1) (fun W k => (hl2.out _ hS.fr W k).2)).mono ?_); rintro _ w3 ⟨rfl, ca1, cc1, ra1, rc1, L1, hk9, hKL⟩; have hS1 := hS.callM (A := [_] ++ shA g gm s1 da1 dc1) (B := [rsB g2 s ca cc ra rc]) (R := []) hk9; rw [List.append_nil] at hS1; clear hS hk9; replace hKL := Lib.hid hKL; have hS := hS1; clear hS1) )
    try clear hC
    refine hK.out _ _ _ (fun _ h => h) (by first | exact hS | exact hS.drop | exact hS.drop.drop | exact hS.drop.drop.drop | exact hS.drop.drop.drop.drop | exact hS.empty | exact hS.one 0 rfl | exact hS.one 1 rfl | exact hS.one 2 rfl | exact hS.one 3 rfl | exact hS.one 4 rfl | exact hS.one 5 rfl | exact hS.one 6 rfl | exact hS.one 7 rfl | exact hS.one 8 rfl | exact hS.one 9 rfl | exact hS.one 10 rfl | exact hS.one 11 rfl) (fun hC => ?_)
    clear hK K
    try simp only [List.getElem_toArray, List.getElem_cons_succ, List.getElem_cons_zero, Act.put, List.setIfInBounds_toArray, List.set_cons_zero, List.set_cons_succ]
    refine mixs_one 11 (by kernel_rfl) rfl (fun K hK => ?_)
    go_simp
    ( first | (go_at_call 14; (with_reducible refine (cA.out _ (hS.preM (A := [_]) (B := shA g gm s da dc) (R := [rsB g2 s ca cc ra rc]))).mono ?_); rintro _ w3 ⟨rfl, da1, dc1, hk9⟩; have hS1 := hS.callM (A := [_]) (B := shA g gm s da dc) (R := [rsB g2 s ca cc ra rc]) hk9; clear hS hk9; have hS := hS1; clear hS1) | (go_at_call 34; (with_reducible refine (cR.out _ (hS.preM (A := [_] ++ shA g gm s1 da1 dc1) (B := [rsB g2 s ca cc ra rc]) (R := [])) (fun W k => (hl2.out _ hS.fr W k).1) (fun W k => (hl2.out _ hS.fr W k).2)).mono ?_); rintro _ w3 ⟨rfl, ca1, cc1, ra1, rc1, L1, hk9, hKL⟩; have hS1 := hS.callM (A := [_] ++ shA g gm s1 da1 dc1) (B := [rsB g2 s ca cc ra rc]) (R := []) hk9; rw [List.append_nil] at hS1; clear hS hk9; replace hKL := Lib.hid hKL; have hS := hS1; clear hS1) )
    try clear hC
    refine hK.out _ _ _ (fun _ h => h) (by first | exact hS | exact hS.drop | exact hS.drop.drop | exact hS.drop.drop.drop | exact hS.drop.drop.drop.drop | exact hS.empty | exact hS.one 0 rfl | exact hS.one 1 rfl | exact hS.one 2 rfl | exact hS.one 3 rfl | exact hS.one 4 rfl | exact hS.one 5 rfl | exact hS.one 6 rfl | exact hS.one 7 rfl | exact hS.one 8 rfl | exact hS.one 9 rfl | exact hS.one 10 rfl | exact hS.one 11 rfl) (fun hC => ?_)
    clear hK K
    try simp only [List.getElem_toArray, List.getElem_cons_succ, List.getElem_cons_zero, Act.put, List.setIfInBounds_toArray, List.set_cons_zero, List.set_cons_succ]
    refine mixs_take 12 (v := ?_) rfl (by kernel_rfl) (fun _ _ _ h => h) (by kernel_rfl) (by assumption) (fun s => ?hy) ?_; case hy => (go_simp <;> with_reducible rfl)
    try simp only [List.getElem_toArray, List.getElem_cons_succ, List.getElem_cons_zero, Act.put, List.setIfInBounds_toArray, List.set_cons_zero, List.set_cons_succ]
    refine mixs_take 13 (v := ?_) rfl (by kernel_rfl) (fun _ _ _ h => h) (by kernel_rfl) (by assumption) (fun s => ?hy) ?_; case hy => (go_simp <;> with_reducible rfl)
    try simp only [List.getElem_toArray, List.getElem_cons_succ, List.getElem_cons_zero, Act.put, List.setIfInBounds_toArray, List.set_cons_zero, List.set_cons_succ]
    refine wpAnyH_done (by kernel_rfl) ?_ _
    clear kC
    go_wp2_with fail
    go_ret
    exact ⟨rfl, da1, dc1, ca1, cc1, ra1, rc1, L1, hS.drop, hKL.out⟩
  have q2 : (kd == 2) = false := by simpa using hk2
  have hact : s.act kd id sq p = s.trim sq := by unfold ShS.act; rw [if_neg hk0, if_neg hk1, if_neg hk2]
  rw [hact]
  have cA := fun W h1 => strim_any g gm s da dc sq W h1 hok.out
  have cR := fun W h1 h2 => rstrim_k g2 s ca cc ra rc sq hok.out W h1 h2
  clear hact hk0 hk1 hk2
  generalize s.trim sq = s1 at *
  replace cA := Lib.hid cA
  replace cR := Lib.hid cR
  go_enter Tryd.func15, Tryd.ntmps15
  go_wp2_with (first
    | (go_at_call 17; (with_reducible refine (cA.out _ (hS.preM (A := [_]) (B := shA g gm s da dc) (R := [rsB g2 s ca cc ra rc]))).mono ?_); rintro _ w3 ⟨rfl, da1, dc1, hk9⟩; have hS1 := hS.callM (A := [_]) (B := shA g gm s da dc) (R := [rsB g2 s ca cc ra rc]) hk9; clear hS hk9; have hS := hS1; clear hS1)
    | (go_at_call 35; (with_reducible refine (cR.out _ (hS.preM (A := [_] ++ shA g gm s1 da1 dc1) (B := [rsB g2 s ca cc ra rc]) (R := [])) (fun W k => (hl2.out _ hS.fr W k).2)).mono ?_); rintro _ w3 ⟨rfl, ca1, cc1, ra1, rc1, L1, hk9, hKL⟩; have hS1 := hS.callM (A := [_] ++ shA g gm s1 da1 dc1) (B := [rsB g2 s ca cc ra rc]) (R := []) hk9; rw [List.append_nil] at hS1; clear hS hk9; replace hKL := Lib.hid hKL; have hS := hS1; clear hS1)
    | (with_reducible refine wpList_box_st (L := shA g gm s da dc ++ [rsB g2 s ca cc ra rc]) hS rfl rfl rfl ?_; intro gb w1 hS1; clear hS; have hS := hS1; clear hS1) | ((with_reducible refine wpList_loadrow_st (t := 30) (n := 26) (j := 3) (vs := Value.int .u32 p.mask :: .int .u32 p.lab :: FR) 0 hS rfl rfl rfl rfl (by kernel_rfl) (by kernel_rfl) hrP hpl ?_)) | ((with_reducible refine wpList_loadrow_st (t := 30) (n := 26) (j := 3) (vs := Value.int .u32 p.mask :: .int .u32 p.lab :: FR) 1 hS rfl rfl rfl rfl (by kernel_rfl) (by kernel_rfl) hrP hpl ?_)) | (with_reducible refine wpList_alloc_st (t := 38) hS rfl rfl ec ?_; intro gc w1 hS1; clear hS; have hS := hS1; clear hS1)
    | (with_reducible refine wpList_box_st hS rfl rfl rfl ?_; intro g1 w1 hS1; clear hS; replace hS := hS1; clear hS1) | (with_reducible refine wpList_box1_st hS rfl rfl rfl ?_; intro g1 w1 hS1; clear hS; replace hS := hS1; clear hS1) | (with_reducible refine wpList_alloc_st hS rfl rfl (by assumption) ?_; intro g1 w1 hS1; clear hS; replace hS := hS1; clear hS1) | (with_reducible refine wpList_alloc1_st hS rfl rfl (by assumption) rfl ?_; intro g1 w1 hS1; clear hS; replace hS := hS1; clear hS1) | ((with_reducible refine wpList_load_st 0 hS rfl rfl rfl rfl ?_ rfl ?_); focus (simp [scalarB, go_sem]; done)) | ((with_reducible refine wpList_loadall_st 0 hS rfl rfl rfl rfl ?_ (by kernel_rfl) ?_); focus (simp [rowB, go_sem]; done)) | ((with_reducible refine wpList_store_st 0 hS rfl rfl rfl rfl (by kernel_rfl) rfl rfl ?_); intro w1 hS1; clear hS; replace hS := hS1; clear hS1; try simp only [List.set_cons_zero, List.set_cons_succ, List.setIfInBounds_toArray, List.take_succ_cons, List.take_zero, List.drop_succ_cons, List.drop_zero, List.nil_append, List.cons_append, List.append_nil, List.drop_nil, List.take_nil, List.length_cons, List.length_nil, Nat.zero_add, Nat.add_zero, Nat.reduceAdd] at hS) | ((with_reducible refine wpList_storerow_st 0 hS rfl rfl rfl rfl (by kernel_rfl) rfl rfl rfl rfl ?_); intro w1 hS1; clear hS; replace hS := hS1; clear hS1; try simp only [List.set_cons_zero, List.set_cons_succ, List.setIfInBounds_toArray, List.take_succ_cons, List.take_zero, List.drop_succ_cons, List.drop_zero, List.nil_append, List.cons_append, List.append_nil, List.drop_nil, List.take_nil, List.length_cons, List.length_nil, Nat.zero_add, Nat.add_zero, Nat.reduceAdd] at hS) | ((with_reducible refine wpList_load_st 1 hS rfl rfl rfl rfl ?_ rfl ?_); focus (simp [scalarB, go_sem]; done)) | ((with_reducible refine wpList_loadall_st 1 hS rfl rfl rfl rfl ?_ (by kernel_rfl) ?_); focus (simp [rowB, go_sem]; done)) | ((with_reducible refine wpList_store_st 1 hS rfl rfl rfl rfl (by kernel_rfl) rfl rfl ?_); intro w1 hS1; clear hS; replace hS := hS1; clear hS1; try simp only [List.set_cons_zero, List.set_cons_succ, List.setIfInBounds_toArray, List.take_succ_cons, List.take_zero, List.drop_succ_cons, List.drop_zero, List.nil_append, List.cons_append, List.append_nil, List.drop_nil, List.take_nil, List.length_cons, List.length_nil, Nat.zero_add, Nat.add_zero, Nat.reduceAdd] at hS) | ((with_reducible refine wpList_storerow_st 1 hS rfl rfl rfl rfl (by kernel_rfl) rfl rfl rfl rfl ?_); intro w1 hS1; clear hS; replace hS := hS1; clear hS1; try simp only [List.set_cons_zero, List.set_cons_succ, List.setIfInBounds_toArray, List.take_succ_cons, List.take_zero, List.drop_succ_cons, List.drop_zero, List.nil_append, List.cons_append, List.append_nil, List.drop_nil, List.take_nil, List.length_cons, List.length_nil, Nat.zero_add, Nat.add_zero, Nat.reduceAdd] at hS))
  go_ret
  exact ⟨rfl, da1, dc1, ca1, cc1, ra1, rc1, L1, hS.drop, hKL.out⟩
end Go.Proofs.YtneolmnpebiifaaDoor
end
