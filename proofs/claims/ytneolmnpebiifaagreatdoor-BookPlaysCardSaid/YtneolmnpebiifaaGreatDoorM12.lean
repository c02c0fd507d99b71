import Derived.Laws.StructEq
import Derived.ChangeKeysEq
import Derived.Test.YtneolmnpebiifaaGreatDoorM11
set_option linter.unusedVariables false
set_option linter.unusedSimpArgs false
set_option maxRecDepth 100000
section
namespace Go.Ofp
open Go.RowKit
@[reducible] def CutQ (S : Act → World → Prop) : Exit → Act → World → Prop
 | .normal, a, w => S a w
 | _, _, _ => False
section
variable {P : Program} {c : Code} {Q : Exit → Act → World → Prop} {a : Act} {w w0 : World} {F : List Nat}
theorem wp_cutQ {S : Act → World → Prop} (h : c.wp P (CutQ S) a w) (k : ∀ a w, S a w → Q .normal a w) : c.wp P Q a w := by
 refine Code.wp_mono (fun e a w q => ?_) h
 cases e with
 | normal => exact k a w q
 | _ => exact q.elim
theorem wp_cut1 {L0 : List Ch} {T : Nat → Act} {L : Nat → List Ch} (h : St w0 F L0 w → c.wp P (CutQ fun a w => ∃ g, a = T g ∧ St w0 F (L g) w) a w) (k : ∀ g w, St w0 F (L g) w → Q .normal (T g) w) : St w0 F L0 w → c.wp P Q a w := fun h0 =>
 wp_cutQ (h h0) fun _ w ⟨g, h, hS⟩ => h ▸ k g w hS
end
end Go.Ofp
end
section
namespace Go.Ofp
open Go.RowKit
theorem St.fore2 {w0 w : World} {F : List Nat} {L : List Ch} {c d : Ch} (h : St w0 F (c :: d :: L) w) : St w0 F [c, d] w := St.fore (A := [c, d]) h
theorem St.fore3 {w0 w : World} {F : List Nat} {L : List Ch} {c d e : Ch} (h : St w0 F (c :: d :: e :: L) w) : St w0 F [c, d, e] w := St.fore (A := [c, d, e]) h
theorem mixs_beginC2 {P : Program} {Q : Exit → Act → World → Prop} {a : Act} {w w0 : World} {F : List Nat} {L : List Ch} {c d : Ch} {id : Nat} {l : List Oper} (hm : P.follows .mixedOrders = true) (hS : St w0 F (c :: d :: L) w)
 (h : ∀ w', St w0 F (c :: d :: L) w' → St w0 F [c, d] w' → wpAnyH P .any l.toArray Q (fun w' => St w0 F [c, d] w') l.length (Array.replicate l.length false) a w') : (Code.region id l.toArray true).wp P Q a w := by
 refine wp_region_held (S := fun w' => St w0 F [c, d] w') hm ?_
 simpa using h w.drew hS.drew hS.drew.fore2
theorem mixs_beginC3 {P : Program} {Q : Exit → Act → World → Prop} {a : Act} {w w0 : World} {F : List Nat} {L : List Ch} {c d e : Ch} {id : Nat} {l : List Oper} (hm : P.follows .mixedOrders = true) (hS : St w0 F (c :: d :: e :: L) w)
 (h : ∀ w', St w0 F (c :: d :: e :: L) w' → St w0 F [c, d, e] w' → wpAnyH P .any l.toArray Q (fun w' => St w0 F [c, d, e] w') l.length (Array.replicate l.length false) a w') : (Code.region id l.toArray true).wp P Q a w := by
 refine wp_region_held (S := fun w' => St w0 F [c, d, e] w') hm ?_
 simpa using h w.drew hS.drew hS.drew.fore3
def Ch.part (g : Nat) (ks : List (Nat × Value)) : Ch where
 foot := [g]
 holds w := g < w.heap.size ∧ ∀ x ∈ ks, w.cell? ⟨g, x.1, none⟩ = some x.2
 lt h x hx := by simp at hx; subst hx; exact h.1
 keep {w w'} h k := by
  have e := k g (by simp)
  refine ⟨?_, fun x hx => by rw [World.cell?_of_block e]; exact h.2 x hx⟩
  have h1 := Array.getElem?_eq_getElem h.1
  rw [← e] at h1
  exact (Array.getElem?_eq_some_iff.1 h1).1
theorem St.toPart {w0 w : World} {F : List Nat} {L : List Ch} {c : Ch} {g T : Nat} {cs : Array Value} {ks : List (Nat × Value)} (h : St w0 F (c :: Ch.blk g T cs :: L) w) (hk : ∀ x ∈ ks, cs[x.1]? = some x.2) : St w0 F [c, Ch.part g ks] w := by
 have h1 := h.fore2
 have hlt : g < w.heap.size := (Ch.blk g T cs).lt (h.get 1 rfl) g (by simp [Ch.blk])
 have hd : (Ch.part g ks).holds w := ⟨hlt, fun x hx => by
  have := h.cell 1 rfl x.1
  rw [this]
  exact hk x hx⟩
 have h2 := h1.upd (G := []) 1 rfl (Fr.refl _ _) (by simp) hd (by simp [Ch.blk, Ch.part])
 simpa using h2
theorem St.kpart {w0 w : World} {F : List Nat} {L : List Ch} {g : Nat} {ks : List (Nat × Value)} (_ : St w0 F L w) (i : Nat) (hi : L[i]? = some (Ch.part g ks)) : ∀ (x : Nat × Value), x ∈ ks → ∀ s : Cl w0 F L, s.1.cell? ⟨g, x.1, none⟩ = some x.2 := fun x hx s => (s.2.get i hi).2 x hx
theorem mixs_beginP {P : Program} {Q : Exit → Act → World → Prop} {a : Act} {w w0 : World} {F : List Nat} {L : List Ch} {c : Ch} {g T : Nat} {cs : Array Value} {id : Nat} {l : List Oper} (ks : List (Nat × Value)) (hm : P.follows .mixedOrders = true) (hS : St w0 F (c :: Ch.blk g T cs :: L) w) (hk : ∀ x ∈ ks, cs[x.1]? = some x.2)
 (h : ∀ w', St w0 F (c :: Ch.blk g T cs :: L) w' → St w0 F [c, Ch.part g ks] w' → wpAnyH P .any l.toArray Q (fun w' => St w0 F [c, Ch.part g ks] w') l.length (Array.replicate l.length false) a w') : (Code.region id l.toArray true).wp P Q a w := by
 refine wp_region_held (S := fun w' => St w0 F [c, Ch.part g ks] w') hm ?_
 simpa using h w.drew hS.drew (hS.drew.toPart hk)
section
variable {P : Program} {c : Code} {Q : Exit → Act → World → Prop} {a : Act} {w w0 : World} {F : List Nat}
end
end Go.Ofp
end
section
namespace Go.Ofp
open Go.RowKit
theorem results_blk {P : Program} {fn : Func} {a : Tmp} {t : TypeId} (h : fn.results = #[.cell a t]) {tmps : Array Value} {g : Nat} (ht : tmps.getD a undef = .pointer (some ⟨g, 0, none⟩)) {w0 w : World} {F : List Nat} {L : List Ch} (hS : St w0 F L w) (i : Nat) {T : TypeId} {cs : Array Value}
 (hi : L[i]? = some (Ch.blk g T cs)) (hu : rowB P t = true) (hsz : sizeB P t cs.size = true) : (results fn tmps).run P w = .ok (.agg cs) w := by
 have hr := run_loadrow (P := P) (w := w) hu hsz (g := g) (j := 0) (vs := cs.toList) (by simp) (Whole.range (hS.get i hi) 0 fun k v hk => by simpa using hk)
 have hl : (loadVar t ⟨g, 0, none⟩).run P w = .ok (.agg cs) w := by simpa [Instr.loadAt, Instr.sureAddr] using hr
 have ht' : tmps[a]?.getD undef = .pointer (some ⟨g, 0, none⟩) := by simpa using ht
 unfold results
 simp [h, ht', asAddr, hl]
theorem St.krow {P : Program} {w0 w : World} {F : List Nat} {L : List Ch} (_ : St w0 F L w) (i : Nat) {g j T n : Nat} {cs : Array Value} {vs : List Value} (hi : L[i]? = some (Ch.blk g T cs)) {t : TypeId}
 (hu : rowB P t = true) (hsz : sizeB P t n = true) (hv : (cs.toList.drop j).take n = vs) (hl : vs.length = n) : ∀ s : Cl w0 F L, (Instr.loadAt t (.pointer (some ⟨g, j, none⟩))).run P s.1 = .ok (.agg vs.toArray) s.1 := by
 intro s
 subst hv
 exact run_loadrow hu hsz hl (Whole.range (s.2.get i hi) j (range_extract cs j n))
theorem wpList_of_op {P : Program} {ops : Array Oper} {Q : Exit → Act → World → Prop} {a : Act} {w : World} {rest : List Oper} {o : Oper}
 (h : ∀ K : Act → World → Prop, (∀ a w, wpList P ops Q rest a w → K a w) → if Region.wanted o (yielded ops a.tmps) = true then Oper.wp P o a w K Q else K (a.put o.dst undef) w) : wpList P ops Q (o :: rest) a w :=
 wpList_step fun K hK => h K hK
theorem wpList_gloadrow_st {P : Program} {w w0 : World} {F : List Nat} {L : List Ch} {ops : Array Oper} {rest : List Oper} {o : Oper} {a : Act} {Q : Exit → Act → World → Prop} (i : Nat) {g j T n : Nat} {cs : Array Value} {vs : List Value} (hS : St w0 F L w) (hi : L[i]? = some (Ch.blk g T cs)) (hw : Region.wanted o (yielded ops a.tmps) = true) {t : TypeId} {x : Operand} (ho : o.op = .load t x) (hx : a.eval x = .pointer (some ⟨g, j, none⟩))
 (hu : rowB P t = true) (hsz : sizeB P t n = true) (hv : (cs.toList.drop j).take n = vs) (hl : vs.length = n) (h : wpList P ops Q rest (a.put o.dst (.agg vs.toArray)) w) : wpList P ops Q (o :: rest) a w :=
 wpList_of_op fun K hK => op_loadrow_st hw i hS hi ho hx hu hsz hv hl (hK _ _ h)
theorem wpList_gload_st {P : Program} {w w0 : World} {F : List Nat} {L : List Ch} {ops : Array Oper} {rest : List Oper} {o : Oper} {a : Act} {Q : Exit → Act → World → Prop} (i : Nat) {g j T : Nat} {cs : Array Value} (hS : St w0 F L w) (hi : L[i]? = some (Ch.blk g T cs)) (hw : Region.wanted o (yielded ops a.tmps) = true) {t : TypeId} {x : Operand} (ho : o.op = .load t x) (hx : a.eval x = .pointer (some ⟨g, j, none⟩))
 (hu : scalarB P t = true) {v : Value} (hv : cs[j]? = some v) (h : wpList P ops Q rest (a.put o.dst v) w) : wpList P ops Q (o :: rest) a w :=
 wpList_of_op fun K hK => op_load_st hw i hS hi ho hx hu hv (hK _ _ h)
end Go.Ofp
end
section
namespace Go.Proofs.YtneolmnpebiifaaGreatDoor
open Go.RowKit Go.Ofp
set_option maxHeartbeats 4000000
theorem elem_card : Elem Tryz.prog 58 (.agg #[.int .i64 0, .int .i64 0, .int .u32 0, .int .i64 0, .int .i64 0, .string ⟨#[]⟩, .int .i64 0, .int .i64 0, .string ⟨#[]⟩, .int .i64 0, .int .i64 0, .string ⟨#[]⟩, .int .i64 0, .int .i64 0, .string ⟨#[]⟩, .int .i64 0, .int .i64 0, .string ⟨#[]⟩, .int .i64 0, .int .i64 0, .string ⟨#[]⟩, .int .i64 0, .int .i64 0, .string ⟨#[]⟩, .int .i64 0, .int .i64 0, .string ⟨#[]⟩]) 27 280 := Elem.mk (by kernel_rfl) (by rfl) (by decide)
theorem lab_bit (m : Nat) (hm : m < 4294967296) : (bits .and .u32 (m : Int) 256 != 0) = m.testBit 8 := by
 rw [show (256 : Int) = ((2 ^ 8 : Nat) : Int) by rfl, u32_and_nat m (2 ^ 8) hm (by decide), Bool.eq_iff_iff, bne_iff_ne]
 constructor
 · intro h
   obtain ⟨i, hi⟩ := Nat.exists_testBit_of_ne_zero (show m &&& 2 ^ 8 ≠ 0 by omega)
   rw [Nat.testBit_and, Nat.testBit_two_pow, Bool.and_eq_true, decide_eq_true_eq] at hi
   rw [hi.2]
   exact hi.1
 · intro h e
   have e' : m &&& 2 ^ 8 = 0 := by omega
   have := congrArg (fun x => Nat.testBit x 8) e'
   simp only [Nat.testBit_and, Nat.testBit_two_pow, h, Nat.zero_testBit] at this
   cases this
theorem labels_any (m : Nat) (hm : m < 4294967296) (w : World) : Calls Tryz.prog 112 #[.int .u32 m] w fun e w' => e = .returned (.bool (m.testBit 8)) ∧ w = w' := by
 have h := lab_bit m hm
 replace h := Lib.hid h
 go_enter Tryz.func112, Tryz.ntmps112
 go_wp2_with fail
 go_ret
 exact ⟨by first | rfl | (rw [← h.out]; rfl), rfl⟩
end Go.Proofs.YtneolmnpebiifaaGreatDoor
end
section
namespace Go.Proofs.YtneolmnpebiifaaGreatDoor
open Go.RowKit Go.Ofp
set_option maxHeartbeats 4000000
theorem foldl_put (j : Nat) : ∀ (xs : List Value) (k : Nat) (A : Array Value), j + k + xs.length ≤ A.size → (xs.zipIdx k).foldl (fun cs x => cs.setIfInBounds (j + x.2) x.1) A = (A.toList.take (j + k) ++ xs ++ A.toList.drop (j + k + xs.length)).toArray := by
 intro xs
 induction xs with
 | nil => intro k A h; simp
 | cons x xs ih =>
  intro k A h
  simp only [List.length_cons] at h
  rw [List.zipIdx_cons, List.foldl_cons, ih (k + 1) _ (by simp; omega)]
  congr 1
  simp only [Array.toList_setIfInBounds, List.length_cons]
  rw [show j + (k + 1) = j + k + 1 by omega, List.take_set, List.drop_set_of_lt (by omega), List.take_succ_eq_append_getElem (show j + k < A.toList.length by simp; omega), List.set_append_right _ _ (by simp; omega)]
  rw [show j + k - (List.take (j + k) A.toList).length = 0 by simp; omega]
  simp [show j + k + 1 + xs.length = j + k + (xs.length + 1) by omega]
theorem mg_any (c : Cd) (p : Pt) (hm : p.mask < 4294967296) (hv : -9223372036854775808 ≤ c.ver) (hf : c.f.length = 8) (hg : p.f.length = 8) (w : World) (h0 : 0 < w.heap.size) (ht : Sl w (some ⟨0, 0, none⟩) (tzTab.map vb)) :
 Calls Tryz.prog 115 #[.agg (cdRow c).toArray, .agg (ptRow p).toArray] w fun e w' => e = .returned (.agg (cdRow (c.merge p)).toArray) ∧ Below w.heap.size w w' := by
 have hS := St.start w
 have ec := elem_card
 obtain ⟨m, pl, pf⟩ := p
 obtain ⟨id, ver, lab, f⟩ := c
 simp only [cdRow, ptRow, Cd.merge] at hf hg hm hv ⊢
 have cL := Lib.hid (fun W : World => labels_any m hm W)
 have cF := Lib.hid (fun (W : World) (hb : Below w.heap.size w W) => fields_any m hm W (Nat.lt_of_lt_of_le h0 hb.size) (ht.below hb))
 have hbl : ∀ i ∈ bitsOf m, i < 8 := fun i hi => by
  have := (List.mem_filter.1 hi).1
  simpa using this
 obtain ⟨L, hL⟩ : ∃ L, bitsOf m = L := ⟨_, rfl⟩
 rw [hL] at cF hbl ⊢
 obtain ⟨n, hn⟩ : ∃ n, L.length = n := ⟨_, rfl⟩
 have hnn : (nums L).length = n := by simpa [nums] using hn
 have hn8 : n ≤ 8 := by rw [← hn, ← hL]; exact bitsOf_len m
 obtain ⟨lr, hlr⟩ : ∃ lr : Nat, (if m.testBit 8 then pl else lab) = lr := ⟨_, rfl⟩
 obtain ⟨vr, hvr⟩ : ∃ vr : Int, (if ver < 1099511627776 then ver + 1 else ver) = vr := ⟨_, rfl⟩
 rw [hlr, hvr]
 replace hlr := Lib.hid hlr
 replace hvr := Lib.hid hvr
 have hv2 := Lib.hid hv
 go_enter Tryz.func115, Tryz.ntmps115
 go_wp2_with (first | (go_at_call 112; (with_reducible refine (cL.out _).mono ?_); rintro _ _ ⟨rfl, rfl⟩) | (go_at_call 149; (with_reducible refine (cF.out _ hS.below).mono ?_); rintro _ w9 ⟨a9, c9, rfl, -, -, hk9⟩; have hS1 := hS.made hk9; clear hS hk9; have hS := hS1; clear hS1; unfold irow at hS; rw [hnn] at hS; rw [hnn]) | (with_reducible refine wpList_box_st (L := []) hS rfl rfl rfl ?_; clear hS; intro gc w1 hS) | (with_reducible refine wpList_box_st (L := [_]) hS rfl rfl rfl ?_; clear hS; intro gp w1 hS) | (with_reducible refine wpList_alloc_st (L := [_, _]) hS rfl rfl (by assumption) ?_; clear hS; intro go w1 hS) | (with_reducible refine ld 1 hS rfl rfl rfl rfl rfl ?_) | (with_reducible refine ld 2 hS rfl rfl rfl rfl rfl ?_) | (with_reducible refine sto 2 hS rfl rfl rfl rfl rfl rfl ?_; clear hS; intro w1 hS))
 all_goals
  obtain ⟨lb, vb', hlb, hvb, hS1⟩ : ∃ (lb : Nat) (vb' : Int), Hid (lb = lr) ∧ Hid (vb' = vr) ∧ St w [] [Ch.row 3 1 (.slice a9 n c9) n ((nums L).map vi), Ch.blk go 58 #[.int .i64 0, .int .i64 0, .int .u32 0, .int .i64 0, .int .i64 0, .string ⟨#[]⟩, .int .i64 0, .int .i64 0, .string ⟨#[]⟩, .int .i64 0, .int .i64 0, .string ⟨#[]⟩, .int .i64 0, .int .i64 0, .string ⟨#[]⟩, .int .i64 0, .int .i64 0, .string ⟨#[]⟩, .int .i64 0, .int .i64 0, .string ⟨#[]⟩, .int .i64 0, .int .i64 0, .string ⟨#[]⟩, .int .i64 0, .int .i64 0, .string ⟨#[]⟩], Ch.blk gp 42 (.int .u32 m :: .int .u32 pl :: flRow pf).toArray, Ch.blk gc 58 (.int .i64 id :: .int .i64 vb' :: .int .u32 lb :: flRow f).toArray] w9 := by
   first
    | exact ⟨pl, ver + 1, Lib.hid (by rw [← hlr.out]; simp [*]), Lib.hid (by rw [← hvr.out]; simp [*]), hS⟩
    | exact ⟨pl, ver, Lib.hid (by rw [← hlr.out]; simp [*]), Lib.hid (by rw [← hvr.out]; first | (rw [if_neg (by omega)]) | simp [*]), hS⟩
    | exact ⟨lab, ver + 1, Lib.hid (by rw [← hlr.out]; simp [*]), Lib.hid (by rw [← hvr.out]; simp [*]), hS⟩
    | exact ⟨lab, ver, Lib.hid (by rw [← hlr.out]; simp [*]), Lib.hid (by rw [← hvr.out]; first | (rw [if_neg (by omega)]) | simp [*]), hS⟩
  clear hS
  go_loopg [24] n (fun gk vx wr => ∃ k : Nat, k + gk = n ∧ vx = .int .i64 k ∧ St w [] [Ch.row 3 1 (.slice a9 n c9) n ((nums L).map vi), Ch.blk go 58 #[.int .i64 0, .int .i64 0, .int .u32 0, .int .i64 0, .int .i64 0, .string ⟨#[]⟩, .int .i64 0, .int .i64 0, .string ⟨#[]⟩, .int .i64 0, .int .i64 0, .string ⟨#[]⟩, .int .i64 0, .int .i64 0, .string ⟨#[]⟩, .int .i64 0, .int .i64 0, .string ⟨#[]⟩, .int .i64 0, .int .i64 0, .string ⟨#[]⟩, .int .i64 0, .int .i64 0, .string ⟨#[]⟩, .int .i64 0, .int .i64 0, .string ⟨#[]⟩], Ch.blk gp 42 (.int .u32 m :: .int .u32 pl :: flRow pf).toArray, Ch.blk gc 58 (.int .i64 id :: .int .i64 vb' :: .int .u32 lb :: flRow (putF pf f (L.take k))).toArray] wr)
  case atStart => exact ⟨0, Nat.zero_add _, rfl, hS1⟩
  case round =>
   clear hS1
   obtain ⟨k, hkn, rfl, hS⟩ := hrel
   by_cases hlt : k < n
   · have hkl : k < L.length := by omega
     obtain ⟨gr, cr, hrv, -⟩ := hS.rowat 0 rfl (by omega)
     cases hrv
     have hsl := hS.rowsl 0 rfl
     have hi8 := hbl L[k] (List.getElem_mem hkl)
     have hcl := hsl.add k (.int .i64 (L[k] : Nat)) (by simp [nums, vi, hkl])
     rw [Addr.add_lit, Nat.zero_add] at hcl
     have hnext := putF_snoc pf f (L.take k) L[k]
     rw [← List.take_succ_eq_append_getElem hkl] at hnext
     have hvf : pf[L[k]]? = some (pf.getD L[k] Vl.zero) := by rw [List.getD_eq_getElem?_getD, List.getElem?_eq_getElem (by omega)]; rfl
     have hpl : (putF pf f (L.take k)).length = 8 := by rw [putF_length]; exact hf
     generalize L[k] = i at *
     generalize pf.getD i Vl.zero = v at *
     have hld : ((.int .u32 m :: .int .u32 pl :: flRow pf).toArray.toList.drop (2 + i * 3)).take 3 = vlRow v := fl_at [.int .u32 m, .int .u32 pl] pf i v hvf
     have hst : ((.int .i64 id :: .int .i64 vb' :: .int .u32 lb :: flRow (putF pf f (L.take k))).toArray.toList.take (3 + i * 3) ++ vlRow v ++ (.int .i64 id :: .int .i64 vb' :: .int .u32 lb :: flRow (putF pf f (L.take k))).toArray.toList.drop (3 + i * 3 + 3)).toArray = (.int .i64 id :: .int .i64 vb' :: .int .u32 lb :: flRow (putF pf f (L.take (k + 1)))).toArray := by
      rw [hnext]
      exact congrArg List.toArray (fl_put [.int .i64 id, .int .i64 vb', .int .u32 lb] (putF pf f (L.take k)) i v (by omega))
     have hfit : Nat.ble (3 + i * 3 + 3) (Value.int .i64 id :: .int .i64 vb' :: .int .u32 lb :: flRow (putF pf f (L.take k))).toArray.size = true := by
      rw [Nat.ble_eq]
      simp only [List.size_toArray, List.length_cons, flRow_length, hpl]
      omega
     replace hld := Lib.hid hld
     replace hst := Lib.hid hst
     replace hfit := Lib.hid hfit
     clear hnext hvf
     go_wp2_with (first | ((with_reducible refine wpList_loadrow_st 2 hS rfl rfl rfl rfl ?_ (by kernel_rfl) hld.out rfl ?_); focus (simp [rowB, go_sem]; done)) | ((with_reducible refine wpList_storerow_st 3 (vs := vlRow v) (n := 3) hS rfl rfl rfl rfl (by kernel_rfl) rfl (vlRow_length v) (vl_one v) hfit.out ?_); intro w1 hS1; clear hS; simp only [List.set_cons_zero, List.set_cons_succ] at hS1; rw [hst.out] at hS1; have hS := hS1; clear hS1))
     go_roundg (n - (k + 1))
     case measure => omega
     case rel => exact ⟨k + 1, by omega, by go_num, hS⟩
   · obtain rfl : k = n := by omega
     rw [← hn, List.take_length] at hS
     rw [hn] at hS
     have hpl : (putF pf f L).length = 8 := by rw [putF_length]; exact hf
     obtain ⟨q, hq⟩ : ∃ q, putF pf f L = q := ⟨_, rfl⟩
     rw [hq] at hS hpl
     replace hq := Lib.hid hq
     have hsz : (Value.int .i64 id :: .int .i64 vb' :: .int .u32 lb :: flRow q).toArray.size = 27 := by
      simp only [List.size_toArray, List.length_cons, flRow_length, hpl]
     have hone : (Value.int .i64 id :: .int .i64 vb' :: .int .u32 lb :: flRow q).all Value.oneCell' = true := by
      simp only [List.all_cons, fl_one]
      rfl
     have hlen : (Value.int .i64 id :: .int .i64 vb' :: .int .u32 lb :: flRow q).length = 27 := by simpa using hsz
     have hsB : sizeB Tryz.prog 58 (Value.int .i64 id :: .int .i64 vb' :: .int .u32 lb :: flRow q).toArray.size = true := by rw [hsz]; kernel_rfl
     go_wp2_with (first | ((with_reducible refine wpList_loadall_st 3 hS rfl rfl rfl rfl ?_ hsB ?_); focus (simp [rowB, go_sem]; done)) | ((with_reducible refine wpList_storerow_st 1 (vs := Value.int .i64 id :: .int .i64 vb' :: .int .u32 lb :: flRow q) (n := 27) hS rfl rfl rfl rfl (by kernel_rfl) rfl hlen hone rfl ?_); clear hS; intro w1 hS; try simp only [List.set_cons_zero, List.set_cons_succ, List.setIfInBounds_toArray, List.take_succ_cons, List.take_zero, List.drop_succ_cons, List.drop_zero, List.nil_append, List.cons_append, List.append_nil, List.drop_nil, List.take_nil, List.length_cons, List.length_nil, Nat.zero_add, Nat.add_zero, Nat.reduceAdd] at hS))
     exact bodyPost_ret (v := .agg (Value.int .i64 id :: .int .i64 vb' :: .int .u32 lb :: flRow q).toArray) (results_blk Tryz.results115 rfl hS 1 rfl (by kernel_rfl) hsB) rfl ⟨by rw [hlb.out, hvb.out, hq.out], hS.below⟩
theorem fr_any (id : Int) (p : Pt) (hm : p.mask < 4294967296) (hg : p.f.length = 8) (w : World) (h0 : 0 < w.heap.size) (ht : Sl w (some ⟨0, 0, none⟩) (tzTab.map vb)) :
 Calls Tryz.prog 114 #[.int .i64 id, .agg (ptRow p).toArray] w fun e w' => e = .returned (.agg (cdRow (p.fresh id)).toArray) ∧ Below w.heap.size w w' := by
 have hS := St.start w
 have ec := elem_card
 have cM : ∀ (W : World) (hb : Below w.heap.size w W), Calls Tryz.prog 115 #[.agg #[.int .i64 id, .int .i64 0, .int .u32 0, .int .i64 0, .int .i64 0, .string ⟨#[]⟩, .int .i64 0, .int .i64 0, .string ⟨#[]⟩, .int .i64 0, .int .i64 0, .string ⟨#[]⟩, .int .i64 0, .int .i64 0, .string ⟨#[]⟩, .int .i64 0, .int .i64 0, .string ⟨#[]⟩, .int .i64 0, .int .i64 0, .string ⟨#[]⟩, .int .i64 0, .int .i64 0, .string ⟨#[]⟩, .int .i64 0, .int .i64 0, .string ⟨#[]⟩], .agg (ptRow p).toArray] W fun e w' => e = .returned (.agg (cdRow (p.fresh id)).toArray) ∧ Below W.heap.size W w' :=
  fun W hb => mg_any (Cd.none id) p hm (by simp [Cd.none]) rfl hg W (Nat.lt_of_lt_of_le h0 hb.size) (ht.below hb)
 replace cM := Lib.hid cM
 have hpf : (p.fresh id).f.length = 8 := by
  show (putF p.f noF (bitsOf p.mask)).length = 8
  rw [putF_length]
  rfl
 have hcl : (ptRow p).length = 26 := by simp [ptRow, flRow_length, hg]
 have hsc : sizeB Tryz.prog 42 (ptRow p).toArray.size = true := by
  rw [List.size_toArray, hcl]
  kernel_rfl
 have hrl : (cdRow (p.fresh id)).length = 27 := by simp [cdRow, flRow_length, hpf]
 have hro : (cdRow (p.fresh id)).all Value.oneCell' = true := by
  simp only [cdRow, List.all_cons, fl_one]
  rfl
 generalize cdRow (p.fresh id) = RX at cM hrl hro ⊢
 generalize ptRow p = RP at cM hcl hsc ⊢
 go_enter Tryz.func114, Tryz.ntmps114
 go_wp2_with (first | (go_at_call 115; (with_reducible refine (cM.out _ hS.below).mono ?_); rintro _ w9 ⟨rfl, hk9⟩; replace hS := hS.keepB hk9; clear hk9) | (with_reducible refine wpList_box_st (L := []) hS rfl rfl rfl ?_; clear hS; intro gc w1 hS) | (with_reducible refine wpList_alloc_st (L := [_]) hS rfl rfl (by assumption) ?_; clear hS; intro go w1 hS) | ((with_reducible refine wpList_loadall_st (L := [_, _]) 1 hS rfl rfl rfl rfl ?_ hsc ?_); focus (simp [rowB, go_sem]; done)) | ((with_reducible refine wpList_storerow_st 0 (vs := RX) (n := 27) hS rfl rfl rfl rfl (by kernel_rfl) rfl hrl hro rfl ?_); clear hS; intro w1 hS; try simp only [List.set_cons_zero, List.set_cons_succ, List.setIfInBounds_toArray, List.take_succ_cons, List.take_zero, List.drop_succ_cons, List.drop_zero, List.nil_append, List.cons_append, List.append_nil, List.drop_nil, List.take_nil, List.length_cons, List.length_nil, Nat.zero_add, Nat.add_zero, Nat.reduceAdd] at hS))
 exact bodyPost_ret (v := .agg RX.toArray) (results_blk Tryz.results114 rfl hS 0 rfl (by kernel_rfl) (by rw [List.size_toArray, hrl]; kernel_rfl)) rfl ⟨rfl, hS.below⟩
end Go.Proofs.YtneolmnpebiifaaGreatDoor
end
section
namespace Go.Proofs.YtneolmnpebiifaaGreatDoor
open Go.RowKit Go.Ofp
set_option maxHeartbeats 4000000
theorem rlabels_any (m : Nat) (hm : m < 4294967296) (w : World) : Calls Tryz.prog 158 #[.int .u32 m] w fun e w' => e = .returned (.bool (m.testBit 8)) ∧ w = w' := by
 have cH : ∀ W : World, Calls Tryz.prog 94 #[.int .u32 m, .int .i64 8] W fun e w' => e = .returned (.bool (m.testBit 8)) ∧ W = w' := fun W => rhasb_any m 8 W (by decide) hm
 replace cH := Lib.hid cH
 go_enter Tryz.func158, Tryz.ntmps158
 go_wp2_with (go_at_call 94; (with_reducible refine (cH.out _).mono ?_); rintro _ _ ⟨rfl, rfl⟩)
 go_ret
 exact ⟨rfl, rfl⟩
theorem rmcheck_any (m : Nat) (w : World) : Calls Tryz.prog 157 #[.int .u32 m] w fun e w' => e = .returned (.bool (decide (m ≤ 511))) ∧ w = w' := by
 have h : decide ((m : Int) ≤ 511) = decide (m ≤ 511) := by
  by_cases h : m ≤ 511
  · rw [decide_eq_true h, decide_eq_true (by omega)]
  · rw [decide_eq_false h, decide_eq_false (by omega)]
 go_enter Tryz.func157, Tryz.ntmps157
 go_wp2_with fail
 go_ret
 exact ⟨by first | rfl | rw [← h]; rfl, rfl⟩
def bitsTo (m k : Nat) : List Nat := (List.range k).filter fun i => m.testBit i
theorem bitsTo_next (m k : Nat) : bitsTo m (k + 1) = if m.testBit k then bitsTo m k ++ [k] else bitsTo m k := by
 unfold bitsTo
 rw [List.range_succ, List.filter_append]
 by_cases h : m.testBit k <;> simp [h]
end Go.Proofs.YtneolmnpebiifaaGreatDoor
end
section
namespace Go.Proofs.YtneolmnpebiifaaGreatDoor
open Go.RowKit Go.Ofp
set_option maxHeartbeats 4000000
theorem rmg_any (c : Cd) (p : Pt) (hm : p.mask < 4294967296) (hv : 0 ≤ c.ver ∧ c.ver ≤ 1099511627776) (hf : c.f.length = 8) (hg : p.f.length = 8) (w : World) :
 Calls Tryz.prog 131 #[.agg (cdRow c).toArray, .agg (ptRow p).toArray] w fun e w' => e = .returned (.agg (cdRow (c.merge p)).toArray) ∧ Below w.heap.size w w' := by
 have hS := St.start w
 have ec := elem_card
 obtain ⟨m, pl, pf⟩ := p
 have cL := (fun W : World => rlabels_any m hm W)
 have cH := Lib.hid (fun (i : Nat) (hi : i < 8) (W : World) => rhasb_any m i W (by omega) hm)
 have hcl : (cdRow c).length = 27 := by simp [cdRow, flRow_length, hf]
 have hsc : sizeB Tryz.prog 58 (cdRow c).toArray.size = true := by
  rw [List.size_toArray, hcl]
  kernel_rfl
 have hco : (cdRow c).all Value.oneCell' = true := by
  simp only [cdRow, List.all_cons, fl_one]
  rfl
 obtain ⟨id, ver, lab, f⟩ := c
 simp only [cdRow, ptRow, Cd.merge] at hf hg hv hcl hsc hco ⊢
 rw [show bitsOf m = bitsTo m 8 from rfl]
 obtain ⟨lr, hlr⟩ : ∃ lr : Nat, (if m.testBit 8 then pl else lab) = lr := ⟨_, rfl⟩
 obtain ⟨vr, hvr⟩ : ∃ vr : Int, (if ver < 1099511627776 then ver + 1 else ver) = vr := ⟨_, rfl⟩
 have hvm : (if (1099511627775 : Int) < ver then (1099511627775 : Int) else ver) + 1 = vr := by
  rw [← hvr]
  by_cases h : ver < 1099511627776
  · rw [if_pos h, if_neg (by omega)]
  · rw [if_neg h, if_pos (by omega)]
    omega
 have hvb : -9223372036854775808 ≤ vr ∧ vr ≤ 9223372036854775807 := by
  rw [← hvr]
  split <;> omega
 rw [hlr, hvr]
 replace hlr := Lib.hid hlr
 obtain ⟨vm, hvm2⟩ : ∃ vm : Int, (if (1099511627775 : Int) < ver then (1099511627775 : Int) else ver) = vm := ⟨_, rfl⟩
 rw [hvm2] at hvm
 clear hvr
 have hv2 := Lib.hid hv
 have hvb2 := Lib.hid hvb
 cases h8 : m.testBit 8
 all_goals
  have hl8 := hlr.out
  rw [h8] at cL hl8
  replace hl8 := Lib.hid hl8
  replace cL := Lib.hid cL
  clear h8 hlr
  go_enter Tryz.func131, Tryz.ntmps131
  go_wp2_with (first | (go_at_call 158; (with_reducible refine (cL.out _).mono ?_); rintro _ _ ⟨rfl, rfl⟩) | (with_reducible refine wpList_box_st (L := []) hS rfl rfl rfl ?_; clear hS; intro gc w1 hS) | (with_reducible refine wpList_box_st (L := [_]) hS rfl rfl rfl ?_; clear hS; intro gp w1 hS) | (with_reducible refine wpList_alloc_st (L := [_, _]) hS rfl rfl (by assumption) ?_; clear hS; intro go w1 hS) | (with_reducible refine wpList_alloc_st (L := [_, _, _]) hS rfl rfl (by assumption) ?_; clear hS; intro gx w1 hS) | ((with_reducible refine wpList_loadall_st (L := [_, _, _]) 2 hS rfl rfl rfl rfl ?_ hsc ?_); focus (simp [rowB, go_sem]; done)) | ((with_reducible refine wpList_storerow_st (L := [_, _, _, _]) 0 (vs := .int .i64 id :: .int .i64 ver :: .int .u32 lab :: flRow f) (n := 27) hS rfl rfl rfl rfl (by kernel_rfl) rfl hcl hco rfl ?_); clear hS; intro w1 hS; try simp only [List.set_cons_zero, List.set_cons_succ, List.setIfInBounds_toArray, List.take_succ_cons, List.take_zero, List.drop_succ_cons, List.drop_zero, List.nil_append, List.cons_append, List.append_nil, List.drop_nil, List.take_nil, List.length_cons, List.length_nil, Nat.zero_add, Nat.add_zero, Nat.reduceAdd] at hS) | (with_reducible refine sto 0 hS rfl rfl rfl rfl rfl rfl ?_; clear hS; intro w1 hS) | (with_reducible refine ld 2 hS rfl rfl rfl rfl rfl ?_) | (with_reducible refine ld 3 hS rfl rfl rfl rfl rfl ?_))
  clear hvm2 hvm hvb hv
  obtain ⟨lb, hlb, hS1⟩ : ∃ lb : Nat, Hid (lb = lr) ∧ St w [] [Ch.blk gx 58 (.int .i64 id :: .int .i64 vr :: .int .u32 lb :: flRow f).toArray, Ch.blk go 58 #[.int .i64 0, .int .i64 0, .int .u32 0, .int .i64 0, .int .i64 0, .string ⟨#[]⟩, .int .i64 0, .int .i64 0, .string ⟨#[]⟩, .int .i64 0, .int .i64 0, .string ⟨#[]⟩, .int .i64 0, .int .i64 0, .string ⟨#[]⟩, .int .i64 0, .int .i64 0, .string ⟨#[]⟩, .int .i64 0, .int .i64 0, .string ⟨#[]⟩, .int .i64 0, .int .i64 0, .string ⟨#[]⟩, .int .i64 0, .int .i64 0, .string ⟨#[]⟩], Ch.blk gp 42 (.int .u32 m :: .int .u32 pl :: flRow pf).toArray, Ch.blk gc 58 (.int .i64 id :: .int .i64 ver :: .int .u32 lab :: flRow f).toArray] _ := by
   first
    | exact ⟨pl, Lib.hid (by rw [← hl8.out]; rfl), hS⟩
    | exact ⟨lab, Lib.hid (by rw [← hl8.out]; rfl), hS⟩
  clear hS
  go_loopg [6] 8 (fun gk vx wr => ∃ k : Nat, k + gk = 8 ∧ vx = .int .i64 k ∧ St w [] [Ch.blk gx 58 (.int .i64 id :: .int .i64 vr :: .int .u32 lb :: flRow (putF pf f (bitsTo m k))).toArray, Ch.blk go 58 #[.int .i64 0, .int .i64 0, .int .u32 0, .int .i64 0, .int .i64 0, .string ⟨#[]⟩, .int .i64 0, .int .i64 0, .string ⟨#[]⟩, .int .i64 0, .int .i64 0, .string ⟨#[]⟩, .int .i64 0, .int .i64 0, .string ⟨#[]⟩, .int .i64 0, .int .i64 0, .string ⟨#[]⟩, .int .i64 0, .int .i64 0, .string ⟨#[]⟩, .int .i64 0, .int .i64 0, .string ⟨#[]⟩, .int .i64 0, .int .i64 0, .string ⟨#[]⟩], Ch.blk gp 42 (.int .u32 m :: .int .u32 pl :: flRow pf).toArray, Ch.blk gc 58 (.int .i64 id :: .int .i64 ver :: .int .u32 lab :: flRow f).toArray] wr)
  case atStart => exact ⟨0, Nat.zero_add _, rfl, hS1⟩
  case round =>
   clear hS1
   obtain ⟨k, hkn, rfl, hS⟩ := hrel
   by_cases hlt : k < 8
   · have hnext := bitsTo_next m k
     cases hb : m.testBit k with
     | false =>
      rw [hb, if_neg (by simp)] at hnext
      have cH2 := cH.out k hlt
      rw [hb] at cH2
      replace cH2 := Lib.hid cH2
      replace hnext := Lib.hid hnext
      clear hb
      go_wp2_with (first | (go_at_call 94; (with_reducible refine (cH2.out _).mono ?_); rintro _ _ ⟨rfl, rfl⟩) | ((with_reducible refine wpList_load_st 2 hS rfl rfl rfl rfl ?_ rfl ?_); focus (simp [scalarB, go_sem]; done)))
      go_roundg (8 - (k + 1))
      case measure => omega
      case rel => exact ⟨k + 1, by omega, by go_num, by rw [hnext.out]; exact hS⟩
     | true =>
      rw [hb, if_pos rfl] at hnext
      have cH2 := cH.out k hlt
      rw [hb] at cH2
      replace cH2 := Lib.hid cH2
      have hput := putF_snoc pf f (bitsTo m k) k
      rw [← hnext] at hput
      have hvf : pf[k]? = some (pf.getD k Vl.zero) := by rw [List.getD_eq_getElem?_getD, List.getElem?_eq_getElem (by omega)]; rfl
      have hpl : (putF pf f (bitsTo m k)).length = 8 := by rw [putF_length]; exact hf
      generalize pf.getD k Vl.zero = v at *
      have hld : ((.int .u32 m :: .int .u32 pl :: flRow pf).toArray.toList.drop (2 + k * 3)).take 3 = vlRow v := fl_at [.int .u32 m, .int .u32 pl] pf k v hvf
      have hst : ((.int .i64 id :: .int .i64 vr :: .int .u32 lb :: flRow (putF pf f (bitsTo m k))).toArray.toList.take (3 + k * 3) ++ vlRow v ++ (.int .i64 id :: .int .i64 vr :: .int .u32 lb :: flRow (putF pf f (bitsTo m k))).toArray.toList.drop (3 + k * 3 + 3)).toArray = (.int .i64 id :: .int .i64 vr :: .int .u32 lb :: flRow (putF pf f (bitsTo m (k + 1)))).toArray := by
       rw [hput]
       exact congrArg List.toArray (fl_put [.int .i64 id, .int .i64 vr, .int .u32 lb] (putF pf f (bitsTo m k)) k v (by omega))
      have hfit : Nat.ble (3 + k * 3 + 3) (Value.int .i64 id :: .int .i64 vr :: .int .u32 lb :: flRow (putF pf f (bitsTo m k))).toArray.size = true := by
       rw [Nat.ble_eq]
       simp only [List.size_toArray, List.length_cons, flRow_length, hpl]
       omega
      replace hld := Lib.hid hld
      replace hst := Lib.hid hst
      replace hfit := Lib.hid hfit
      clear hnext hvf hput hb
      go_wp2_with (first | (go_at_call 94; (with_reducible refine (cH2.out _).mono ?_); rintro _ _ ⟨rfl, rfl⟩) | ((with_reducible refine wpList_load_st 2 hS rfl rfl rfl rfl ?_ rfl ?_); focus (simp [scalarB, go_sem]; done)) | ((with_reducible refine wpList_loadrow_st 2 hS rfl rfl rfl rfl ?_ (by kernel_rfl) hld.out rfl ?_); focus (simp [rowB, go_sem]; done)) | ((with_reducible refine wpList_storerow_st 0 (vs := vlRow v) (n := 3) hS rfl rfl rfl rfl (by kernel_rfl) rfl (vlRow_length v) (vl_one v) hfit.out ?_); intro w1 hS1; clear hS; simp only [List.set_cons_zero, List.set_cons_succ] at hS1; rw [hst.out] at hS1; have hS := hS1; clear hS1))
      go_roundg (8 - (k + 1))
      case measure => omega
      case rel => exact ⟨k + 1, by omega, by go_num, hS⟩
   · obtain rfl : k = 8 := by omega
     have hpl : (putF pf f (bitsTo m 8)).length = 8 := by rw [putF_length]; exact hf
     obtain ⟨q, hq⟩ : ∃ q, putF pf f (bitsTo m 8) = q := ⟨_, rfl⟩
     rw [hq] at hS hpl
     replace hq := Lib.hid hq
     have hsz : (Value.int .i64 id :: .int .i64 vr :: .int .u32 lb :: flRow q).toArray.size = 27 := by
      simp only [List.size_toArray, List.length_cons, flRow_length, hpl]
     have hone : (Value.int .i64 id :: .int .i64 vr :: .int .u32 lb :: flRow q).all Value.oneCell' = true := by
      simp only [List.all_cons, fl_one]
      rfl
     have hlen : (Value.int .i64 id :: .int .i64 vr :: .int .u32 lb :: flRow q).length = 27 := by simpa using hsz
     have hsB : sizeB Tryz.prog 58 (Value.int .i64 id :: .int .i64 vr :: .int .u32 lb :: flRow q).toArray.size = true := by rw [hsz]; kernel_rfl
     go_wp2_with (first | ((with_reducible refine wpList_loadall_st 0 hS rfl rfl rfl rfl ?_ hsB ?_); focus (simp [rowB, go_sem]; done)) | ((with_reducible refine wpList_storerow_st 1 (vs := Value.int .i64 id :: .int .i64 vr :: .int .u32 lb :: flRow q) (n := 27) hS rfl rfl rfl rfl (by kernel_rfl) rfl hlen hone rfl ?_); clear hS; intro w1 hS; try simp only [List.set_cons_zero, List.set_cons_succ, List.setIfInBounds_toArray, List.take_succ_cons, List.take_zero, List.drop_succ_cons, List.drop_zero, List.nil_append, List.cons_append, List.append_nil, List.drop_nil, List.take_nil, List.length_cons, List.length_nil, Nat.zero_add, Nat.add_zero, Nat.reduceAdd] at hS))
     exact bodyPost_ret (v := .agg (Value.int .i64 id :: .int .i64 vr :: .int .u32 lb :: flRow q).toArray) (results_blk Tryz.results131 rfl hS 1 rfl (by kernel_rfl) hsB) rfl ⟨by rw [hlb.out, hq.out], hS.below⟩
theorem rfr_any (id : Int) (p : Pt) (hm : p.mask < 4294967296) (hg : p.f.length = 8) (w : World) :
 Calls Tryz.prog 130 #[.int .i64 id, .agg (ptRow p).toArray] w fun e w' => e = .returned (.agg (cdRow (p.fresh id)).toArray) ∧ Below w.heap.size w w' := by
 have hS := St.start w
 have ec := elem_card
 have cM : ∀ (W : World) (hb : Below w.heap.size w W), Calls Tryz.prog 131 #[.agg #[.int .i64 id, .int .i64 0, .int .u32 0, .int .i64 0, .int .i64 0, .string ⟨#[]⟩, .int .i64 0, .int .i64 0, .string ⟨#[]⟩, .int .i64 0, .int .i64 0, .string ⟨#[]⟩, .int .i64 0, .int .i64 0, .string ⟨#[]⟩, .int .i64 0, .int .i64 0, .string ⟨#[]⟩, .int .i64 0, .int .i64 0, .string ⟨#[]⟩, .int .i64 0, .int .i64 0, .string ⟨#[]⟩, .int .i64 0, .int .i64 0, .string ⟨#[]⟩], .agg (ptRow p).toArray] W fun e w' => e = .returned (.agg (cdRow (p.fresh id)).toArray) ∧ Below W.heap.size W w' :=
  fun W hb => rmg_any (Cd.none id) p hm (by simp [Cd.none]) rfl hg W
 replace cM := Lib.hid cM
 have hpf : (p.fresh id).f.length = 8 := by
  show (putF p.f noF (bitsOf p.mask)).length = 8
  rw [putF_length]
  rfl
 have hcl : (ptRow p).length = 26 := by simp [ptRow, flRow_length, hg]
 have hsc : sizeB Tryz.prog 42 (ptRow p).toArray.size = true := by
  rw [List.size_toArray, hcl]
  kernel_rfl
 have hrl : (cdRow (p.fresh id)).length = 27 := by simp [cdRow, flRow_length, hpf]
 have hro : (cdRow (p.fresh id)).all Value.oneCell' = true := by
  simp only [cdRow, List.all_cons, fl_one]
  rfl
 generalize cdRow (p.fresh id) = RX at cM hrl hro ⊢
 generalize ptRow p = RP at cM hcl hsc ⊢
 go_enter Tryz.func130, Tryz.ntmps130
 go_wp2_with (first | (go_at_call 131; (with_reducible refine (cM.out _ hS.below).mono ?_); rintro _ w9 ⟨rfl, hk9⟩; replace hS := hS.keepB hk9; clear hk9) | (with_reducible refine wpList_box_st (L := []) hS rfl rfl rfl ?_; clear hS; intro gc w1 hS) | (with_reducible refine wpList_alloc_st (L := [_]) hS rfl rfl (by assumption) ?_; clear hS; intro go w1 hS) | ((with_reducible refine wpList_loadall_st (L := [_, _]) 1 hS rfl rfl rfl rfl ?_ hsc ?_); focus (simp [rowB, go_sem]; done)) | ((with_reducible refine wpList_storerow_st 0 (vs := RX) (n := 27) hS rfl rfl rfl rfl (by kernel_rfl) rfl hrl hro rfl ?_); clear hS; intro w1 hS; try simp only [List.set_cons_zero, List.set_cons_succ, List.setIfInBounds_toArray, List.take_succ_cons, List.take_zero, List.drop_succ_cons, List.drop_zero, List.nil_append, List.cons_append, List.append_nil, List.drop_nil, List.take_nil, List.length_cons, List.length_nil, Nat.zero_add, Nat.add_zero, Nat.reduceAdd] at hS))
 exact bodyPost_ret (v := .agg RX.toArray) (results_blk Tryz.results130 rfl hS 0 rfl (by kernel_rfl) (by rw [List.size_toArray, hrl]; kernel_rfl)) rfl ⟨rfl, hS.below⟩
end Go.Proofs.YtneolmnpebiifaaGreatDoor
end
section
namespace Go.Ofp
open Go.RowKit
theorem run_part_row {P : Program} {t : TypeId} {n : Nat} (hu : rowB P t = true) (hsz : sizeB P t n = true) (xs : Array Value) (off : Nat) (w : World) : (part t xs off).run P w = .ok (.agg (xs.extract off (off + n))) w := by
 obtain ⟨d, h1, h2, h3⟩ := rowB_spec hu hsz
 obtain ⟨i, hi, hi2⟩ := Option.map_eq_some_iff.1 h3
 have hagg : (isAgg t).run P w = .ok true w := by
  unfold isAgg
  rw [Sem.run_bind, run_underlying h1 w]
  cases d <;> simp_all [TypeDesc.isRow]
 unfold part
 simp [hagg, sizeOf, typeInfo, hi, hi2]
theorem extract_list (l : List Value) (i n : Nat) : l.toArray.extract i (i + n) = ((l.drop i).take n).toArray := by
 apply Array.ext'
 simp
theorem fields_of {P : Program} {t : TypeId} {fs : Array Field} (h : P.underlying t = some (.struct fs)) : P.fieldsOf t = fs := by simp [Program.fieldsOf, h]
theorem ba_beq (a b : ByteArray) : (a.toList == b.toList) = decide (a = b) := by
 rw [ByteArray.toList_eq, ByteArray.toList_eq]
 by_cases h : a = b
 · subst h; simp
 · rw [decide_eq_false h, beq_eq_false_iff_ne]
   intro e
   apply h
   apply ByteArray.ext
   exact Array.ext' e
end Go.Ofp
namespace Go.Proofs.YtneolmnpebiifaaGreatDoor
open Go.RowKit Go.Ofp
set_option maxHeartbeats 4000000
theorem eq_vl (d : Nat) (p q : Vl) (w : World) : (Op.equalIn (d + 2) 39 (.agg (vlRow p).toArray) (.agg (vlRow q).toArray)).run Tryz.prog w = .ok (decide (p = q)) w := by
 have hp : Tryz.prog.stoodInHeld 39 = false := by kernel_rfl
 have hf := fields_of Tryz.underlying39
 have hu : Tryz.prog.underlying 39 = some (.struct (Tryz.prog.fieldsOf 39)) := by rw [hf, Tryz.underlying39]
 rw [run_equalIn_struct w (d + 1) _ _ _ hu hp, hf]
 obtain ⟨a, b, c⟩ := p
 obtain ⟨a', b', c'⟩ := q
 have h3 := Tryz.underlying3
 have h9 := Tryz.underlying9
 have hb := ba_beq c c'
 simp only [vlRow]
 go_simp
 by_cases h1 : a = a'
 · by_cases h2 : b = b'
   · by_cases h3 : c = c' <;> simp_all
   · simp_all
 · simp_all
theorem eq_items (d : Nat) (f g : List Vl) (hl : f.length = g.length) (w : World) : ∀ m k, k + m = f.length → (Op.eqItems (d + 2) 39 3 (flRow f).toArray (flRow g).toArray (List.range' k m)).run Tryz.prog w = .ok (decide (f.drop k = g.drop k)) w := by
 intro m
 induction m with
 | zero =>
  intro k hk
  rw [List.drop_of_length_le (by omega), List.drop_of_length_le (by omega)]
  simp [Op.eqItems]
 | succ m ih =>
  intro k hk
  rw [List.range'_succ]
  have p1 := run_part_row (P := Tryz.prog) (t := 39) (n := 3) (by kernel_rfl) (by kernel_rfl) (flRow f).toArray (k * 3) w
  have p2 := run_part_row (P := Tryz.prog) (t := 39) (n := 3) (by kernel_rfl) (by kernel_rfl) (flRow g).toArray (k * 3) w
  have q1 := fl_at [] f k f[k] (List.getElem?_eq_getElem (by omega))
  have q2 := fl_at [] g k (g[k]'(by omega)) (List.getElem?_eq_getElem (by omega))
  simp only [List.nil_append, List.length_nil, Nat.zero_add] at q1 q2
  rw [extract_list, q1] at p1
  rw [extract_list, q2] at p2
  have p3 := eq_vl d f[k] (g[k]'(by omega)) w
  simp only [Op.eqItems, Sem.run_bind, p1, p2, p3, Result.andThen_ok]
  have hi := ih (k + 1) (by omega)
  have hd : (f.drop k = g.drop k) ↔ (f[k] = g[k]'(by omega) ∧ f.drop (k + 1) = g.drop (k + 1)) := by
   rw [List.drop_eq_getElem_cons (show k < f.length by omega), List.drop_eq_getElem_cons (show k < g.length by omega), List.cons.injEq]
  by_cases h : f[k] = g[k]'(by omega)
  · rw [decide_eq_true h]
    simp only [Bool.not_true, Bool.false_eq_true, if_false]
    rw [hi]
    congr 1
    rw [decide_eq_decide, hd]
    exact ⟨fun e => ⟨h, e⟩, fun e => e.2⟩
  · rw [decide_eq_false h, decide_eq_false (fun e => h (hd.1 e).1)]
    rfl
theorem eq_fl (d : Nat) (f g : List Vl) (hf : f.length = 8) (hg : g.length = 8) (w : World) : (Op.equalIn (d + 3) 40 (.agg (flRow f).toArray) (.agg (flRow g).toArray)).run Tryz.prog w = .ok (decide (f = g)) w := by
 obtain ⟨i, hi, -⟩ := elem_value
 have hc : Tryz.prog.cellsOf 39 = 3 := by kernel_rfl
 rw [run_equalIn_array w (d + 2) _ _ Tryz.underlying40 hi, hc, List.range_eq_range']
 exact eq_items d f g (by omega) w 8 0 (by omega)
theorem eq_cd (d : Nat) (p q : Cd) (hf : p.f.length = 8) (hg : q.f.length = 8) (w : World) : (Op.equalIn (d + 4) 58 (.agg (cdRow p).toArray) (.agg (cdRow q).toArray)).run Tryz.prog w = .ok (decide (p = q)) w := by
 have hp : Tryz.prog.stoodInHeld 58 = false := by kernel_rfl
 have hff := fields_of Tryz.underlying58
 have hu : Tryz.prog.underlying 58 = some (.struct (Tryz.prog.fieldsOf 58)) := by rw [hff, Tryz.underlying58]
 rw [run_equalIn_struct w (d + 3) _ _ _ hu hp, hff]
 obtain ⟨a, b, c, f⟩ := p
 obtain ⟨a', b', c', g⟩ := q
 simp only at hf hg
 have e3 := eq_fl d f g hf hg w
 have t1 : (flRow f).take 24 = flRow f := List.take_of_length_le (by rw [flRow_length]; omega)
 have t2 : (flRow g).take 24 = flRow g := List.take_of_length_le (by rw [flRow_length]; omega)
 have h3 := Tryz.underlying3
 have h9 := Tryz.underlying37
 simp only [cdRow]
 go_simp
 simp only [t1, t2, e3, Int.natCast_inj, Result.andThen_ok]
 by_cases k1 : a = a'
 · by_cases k2 : b = b'
   · by_cases k3 : c = c'
     · by_cases k4 : f = g <;> simp [k1, k2, k3, k4]
     · simp [k1, k2, k3]
   · simp [k1, k2]
 · simp [k1]
theorem eq_pt (d : Nat) (p q : Pt) (hf : p.f.length = 8) (hg : q.f.length = 8) (w : World) : (Op.equalIn (d + 4) 42 (.agg (ptRow p).toArray) (.agg (ptRow q).toArray)).run Tryz.prog w = .ok (decide (p = q)) w := by
 have hp : Tryz.prog.stoodInHeld 42 = false := by kernel_rfl
 have hff := fields_of Tryz.underlying42
 have hu : Tryz.prog.underlying 42 = some (.struct (Tryz.prog.fieldsOf 42)) := by rw [hff, Tryz.underlying42]
 rw [run_equalIn_struct w (d + 3) _ _ _ hu hp, hff]
 obtain ⟨b, c, f⟩ := p
 obtain ⟨b', c', g⟩ := q
 simp only at hf hg
 have e3 := eq_fl d f g hf hg w
 have t1 : (flRow f).take 24 = flRow f := List.take_of_length_le (by rw [flRow_length]; omega)
 have t2 : (flRow g).take 24 = flRow g := List.take_of_length_le (by rw [flRow_length]; omega)
 have h9 := Tryz.underlying37
 simp only [ptRow]
 go_simp
 simp only [t1, t2, e3, Int.natCast_inj, Result.andThen_ok]
 by_cases k2 : b = b'
 · by_cases k3 : c = c'
   · by_cases k4 : f = g <;> simp [k2, k3, k4]
   · simp [k2, k3]
 · simp [k2]
/-! ### The walk's facts -/
theorem eql_vl (p q : Vl) (w : World) : (binOp .eql 39 (.agg (vlRow p).toArray) (.agg (vlRow q).toArray)).run Tryz.prog w = .ok (.bool (decide (p = q))) w := by
 rw [run_eql_struct, eq_vl 9998 p q w]
 rfl
theorem neq_vl (p q : Vl) (w : World) : (binOp .neq 39 (.agg (vlRow p).toArray) (.agg (vlRow q).toArray)).run Tryz.prog w = .ok (.bool (!decide (p = q))) w := by
 rw [run_neq_struct, eq_vl 9998 p q w]
 rfl
theorem eql_cd (p q : Cd) (hf : p.f.length = 8) (hg : q.f.length = 8) (w : World) : (binOp .eql 58 (.agg (cdRow p).toArray) (.agg (cdRow q).toArray)).run Tryz.prog w = .ok (.bool (decide (p = q))) w := by
 rw [run_eql_struct, eq_cd 9996 p q hf hg w]
 rfl
theorem neq_cd (p q : Cd) (hf : p.f.length = 8) (hg : q.f.length = 8) (w : World) : (binOp .neq 58 (.agg (cdRow p).toArray) (.agg (cdRow q).toArray)).run Tryz.prog w = .ok (.bool (!decide (p = q))) w := by
 rw [run_neq_struct, eq_cd 9996 p q hf hg w]
 rfl
theorem guard_vl (op : BinOp) (x y : Operand) (xs ys : Array Value) (w : World) : (eqGuard op 39 x y (.agg xs) (.agg ys)).run Tryz.prog w = .ok () w :=
 run_eqGuard_agg w op _ x y xs ys (by kernel_rfl)
theorem guard_cd (op : BinOp) (x y : Operand) (xs ys : Array Value) (w : World) : (eqGuard op 58 x y (.agg xs) (.agg ys)).run Tryz.prog w = .ok () w :=
 run_eqGuard_agg w op _ x y xs ys (by kernel_rfl)
theorem guard_pt (op : BinOp) (x y : Operand) (xs ys : Array Value) (w : World) : (eqGuard op 42 x y (.agg xs) (.agg ys)).run Tryz.prog w = .ok () w :=
 run_eqGuard_agg w op _ x y xs ys (by kernel_rfl)
end Go.Proofs.YtneolmnpebiifaaGreatDoor
end
