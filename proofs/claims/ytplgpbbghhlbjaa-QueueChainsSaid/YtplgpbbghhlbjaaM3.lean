/- Texts laid together: Cut St10 St13 Card1 Card2 Bits CardRef CardRef2 CardEq CardCheck CardPatch CardPatchR CardCheck2 CardCheck3 CardDiff CardDiffR CardSame QueueMath. -/
import Derived.Laws.BitsAllLaws
import Derived.Laws.StructEq
import Derived.ChangeKeysEq
import Derived.Test.YtplgpbbghhlbjaaM1
import Derived.Test.YtplgpbbghhlbjaaM2
section
/- A region that draws its order ends in one form: its tail is walked once. -/
set_option linter.unusedSimpArgs false
set_option linter.unusedVariables false
namespace Go.Ofp
open Go.RowKit
section
variable {P : Program} {c : Code} {Q : Exit → Act → World → Prop} {a : Act} {w w0 : World} {F : List Nat}
end
end Go.Ofp
end

section
/- A region in which the first two pieces are read and not written: they are the class. -/
set_option linter.unusedSimpArgs false
set_option linter.unusedVariables false
namespace Go.Ofp
open Go.RowKit
/-- Some cells of a block of the call's own. -/
def Ch.part (g : Nat) (ks : List (Nat × Value)) : Ch where
  foot := [g]
  holds w := g < w.heap.size ∧ ∀ x ∈ ks, w.cell? ⟨g, x.1, none⟩ = some x.2
  lt h x hx := by simp at hx; subst hx; exact h.1
  keep {w w'} h k := by
    have e := k g (by simp)
    refine ⟨?_, fun x hx => by rw [World.cell?_of_block e]; exact h.2 x hx⟩
    have h1 := Array.getElem?_eq_getElem h.1
    rw [← e] at h1
    exact (Array.getElem?_eq_some_iff.1 h1).1
section
variable {P : Program} {c : Code} {Q : Exit → Act → World → Prop} {a : Act} {w w0 : World} {F : List Nat}
end
end Go.Ofp
end

section
/- A result that lies in a block of the call's own. -/
set_option linter.unusedSimpArgs false
set_option linter.unusedVariables false
namespace Go.Ofp
open Go.RowKit
theorem take_loadrow {P : Program} {w0 : World} {F : List Nat} {L : List Ch} {o : Oper} {a : Act} {t : TypeId} {x : Operand} {p : Addr} {vs : Array Value} (s : Cl w0 F L) (ho : o.op = .load t x) (hx : a.eval x = .pointer (some p))
    (h : ∀ s : Cl w0 F L, (Instr.loadAt t (.pointer (some p))).run P s.1 = .ok (.agg vs) s.1) : (execOp a.eval o).run P s.1 = .ok (.value (.agg vs)) s.1 := by
  unfold execOp
  simp only [ho, hx, Sem.run_bind, h s, Result.andThen_ok, Sem.run_pure]

/-- A guarded operation outside of a drawn region, by the law of a drawn one. -/
theorem wpList_of_op {P : Program} {ops : Array Oper} {Q : Exit → Act → World → Prop} {a : Act} {w : World} {rest : List Oper} {o : Oper}
    (h : ∀ K : Act → World → Prop, (∀ a w, wpList P ops Q rest a w → K a w) → if Region.wanted o (yielded ops a.tmps) = true then Oper.wp P o a w K Q else K (a.put o.dst undef) w) : wpList P ops Q (o :: rest) a w :=
  wpList_step fun K hK => h K hK
/-- A struct or an array out of a block, guarded. -/
theorem wpList_gloadrow_st {P : Program} {w w0 : World} {F : List Nat} {L : List Ch} {ops : Array Oper} {rest : List Oper} {o : Oper} {a : Act} {Q : Exit → Act → World → Prop} (i : Nat) {g j T n : Nat} {cs : Array Value} {vs : List Value} (hS : St w0 F L w) (hi : L[i]? = some (Ch.blk g T cs)) (hw : Region.wanted o (yielded ops a.tmps) = true) {t : TypeId} {x : Operand} (ho : o.op = .load t x) (hx : a.eval x = .pointer (some ⟨g, j, none⟩))
    (hu : rowB P t = true) (hsz : sizeB P t n = true) (hv : (cs.toList.drop j).take n = vs) (hl : vs.length = n) (h : wpList P ops Q rest (a.put o.dst (.agg vs.toArray)) w) : wpList P ops Q (o :: rest) a w :=
  wpList_of_op fun K hK => op_loadrow_st hw i hS hi ho hx hu hsz hv hl (hK _ _ h)
theorem wpList_gload_st {P : Program} {w w0 : World} {F : List Nat} {L : List Ch} {ops : Array Oper} {rest : List Oper} {o : Oper} {a : Act} {Q : Exit → Act → World → Prop} (i : Nat) {g j T : Nat} {cs : Array Value} (hS : St w0 F L w) (hi : L[i]? = some (Ch.blk g T cs)) (hw : Region.wanted o (yielded ops a.tmps) = true) {t : TypeId} {x : Operand} (ho : o.op = .load t x) (hx : a.eval x = .pointer (some ⟨g, j, none⟩))
    (hu : scalarB P t = true) {v : Value} (hv : cs[j]? = some v) (h : wpList P ops Q rest (a.put o.dst v) w) : wpList P ops Q (o :: rest) a w :=
  wpList_of_op fun K hK => op_load_st hw i hS hi ho hx hu hv (hK _ _ h)
end Go.Ofp
end

section
/- Cards: Project, Of, Merge, Fresh. -/
set_option linter.unusedSimpArgs false
set_option linter.unusedVariables false
namespace Go.Proofs.Ytplgpbbghhlbjaa
open Go.RowKit Go.Ofp
set_option linter.unusedVariables false
set_option maxRecDepth 100000
set_option maxHeartbeats 4000000

theorem elem_card : Elem Try.prog 38 (.agg #[.int .i64 0, .int .i64 0, .int .u32 0, .int .i64 0, .int .i64 0, .string ⟨#[]⟩, .int .i64 0, .int .i64 0, .string ⟨#[]⟩, .int .i64 0, .int .i64 0, .string ⟨#[]⟩, .int .i64 0, .int .i64 0, .string ⟨#[]⟩, .int .i64 0, .int .i64 0, .string ⟨#[]⟩, .int .i64 0, .int .i64 0, .string ⟨#[]⟩, .int .i64 0, .int .i64 0, .string ⟨#[]⟩, .int .i64 0, .int .i64 0, .string ⟨#[]⟩]) 27 280 := Elem.mk (by kernel_rfl) (by rfl) (by decide)
theorem lab_bit (m : Nat) (hm : m < 4294967296) : (bits .and .u32 (m : Int) 256 != 0) = m.testBit 8 := by
  rw [show (256 : Int) = ((2 ^ 8 : Nat) : Int) by rfl, u32_and_nat m (2 ^ 8) hm (by decide), Bool.eq_iff_iff, bne_iff_ne]
  constructor
  · intro h
    obtain ⟨i, hi⟩ := Nat.exists_testBit_of_ne_zero (show m &&& 2 ^ 8 ≠ 0 by omega)
    rw [Nat.testBit_and, Nat.testBit_two_pow, Bool.and_eq_true, decide_eq_true_eq] at hi
    rw [hi.2]
    exact hi.1
  · intro h e
    have e' : m &&& 2 ^ 8 = 0 := by omega
    have := congrArg (fun x => Nat.testBit x 8) e'
    simp only [Nat.testBit_and, Nat.testBit_two_pow, h, Nat.zero_testBit] at this
    cases this
theorem labels_any (m : Nat) (hm : m < 4294967296) (w : World) : Calls Try.prog 86 #[.int .u32 m] w fun e w' => e = .returned (.bool (m.testBit 8)) ∧ w = w' := by
  have h := lab_bit m hm
  replace h := Lib.hid h
  go_enter Try.func86, Try.ntmps86
  go_wp2_with fail
  go_ret
  exact ⟨by first | rfl | (rw [← h.out]; rfl), rfl⟩
end Go.Proofs.Ytplgpbbghhlbjaa
end

section
/- Cards: Of, Merge, Fresh. -/
set_option linter.unusedSimpArgs false
set_option linter.unusedVariables false
namespace Go.Proofs.Ytplgpbbghhlbjaa
open Go.RowKit Go.Ofp
set_option linter.unusedVariables false
set_option maxRecDepth 100000
set_option maxHeartbeats 4000000

theorem foldl_put (j : Nat) : ∀ (xs : List Value) (k : Nat) (A : Array Value), j + k + xs.length ≤ A.size → (xs.zipIdx k).foldl (fun cs x => cs.setIfInBounds (j + x.2) x.1) A = (A.toList.take (j + k) ++ xs ++ A.toList.drop (j + k + xs.length)).toArray := by
  intro xs
  induction xs with
  | nil => intro k A h; simp
  | cons x xs ih =>
    intro k A h
    simp only [List.length_cons] at h
    rw [List.zipIdx_cons, List.foldl_cons, ih (k + 1) _ (by simp; omega)]
    congr 1
    simp only [Array.toList_setIfInBounds, List.length_cons]
    rw [show j + (k + 1) = j + k + 1 by omega, List.take_set, List.drop_set_of_lt (by omega), List.take_succ_eq_append_getElem (show j + k < A.toList.length by simp; omega), List.set_append_right _ _ (by simp; omega)]
    rw [show j + k - (List.take (j + k) A.toList).length = 0 by simp; omega]
    simp [show j + k + 1 + xs.length = j + k + (xs.length + 1) by omega]

end Go.Proofs.Ytplgpbbghhlbjaa
end

section
/- Sets of small numbers as bits. -/
set_option linter.unusedSimpArgs false
set_option linter.unusedVariables false
namespace Go.Ofp
end Go.Ofp
namespace Go.Proofs.Ytplgpbbghhlbjaa
open Go.RowKit Go.Ofp
set_option linter.unusedVariables false
set_option maxRecDepth 100000
set_option maxHeartbeats 4000000
end Go.Proofs.Ytplgpbbghhlbjaa
end

section
/- Cards: the document's answer: Project, Of, Merge, Fresh. -/
set_option linter.unusedSimpArgs false
set_option linter.unusedVariables false
namespace Go.Proofs.Ytplgpbbghhlbjaa
open Go.RowKit Go.Ofp
set_option linter.unusedVariables false
set_option maxRecDepth 100000
set_option maxHeartbeats 4000000

end Go.Proofs.Ytplgpbbghhlbjaa
end

section
/- Cards: the document's answer: Merge, Fresh. -/
set_option linter.unusedSimpArgs false
set_option linter.unusedVariables false
namespace Go.Proofs.Ytplgpbbghhlbjaa
open Go.RowKit Go.Ofp
set_option linter.unusedVariables false
set_option maxRecDepth 100000
set_option maxHeartbeats 4000000

end Go.Proofs.Ytplgpbbghhlbjaa
end

section
/- Values, fields, cards, patches compared. -/
set_option linter.unusedSimpArgs false
set_option linter.unusedVariables false
namespace Go.Ofp
open Go.RowKit
theorem run_part_row {P : Program} {t : TypeId} {n : Nat} (hu : rowB P t = true) (hsz : sizeB P t n = true) (xs : Array Value) (off : Nat) (w : World) : (part t xs off).run P w = .ok (.agg (xs.extract off (off + n))) w := by
  obtain ⟨d, h1, h2, h3⟩ := rowB_spec hu hsz
  obtain ⟨i, hi, hi2⟩ := Option.map_eq_some_iff.1 h3
  have hagg : (isAgg t).run P w = .ok true w := by
    unfold isAgg
    rw [Sem.run_bind, run_underlying h1 w]
    cases d <;> simp_all [TypeDesc.isRow]
  unfold part
  simp [hagg, sizeOf, typeInfo, hi, hi2]
theorem extract_list (l : List Value) (i n : Nat) : l.toArray.extract i (i + n) = ((l.drop i).take n).toArray := by
  apply Array.ext'
  simp
theorem fields_of {P : Program} {t : TypeId} {fs : Array Field} (h : P.underlying t = some (.struct fs)) : P.fieldsOf t = fs := by simp [Program.fieldsOf, h]
theorem ba_beq (a b : ByteArray) : (a.toList == b.toList) = decide (a = b) := by
  rw [ByteArray.toList_eq, ByteArray.toList_eq]
  by_cases h : a = b
  · subst h; simp
  · rw [decide_eq_false h, beq_eq_false_iff_ne]
    intro e
    apply h
    apply ByteArray.ext
    exact Array.ext' e
end Go.Ofp
namespace Go.Proofs.Ytplgpbbghhlbjaa
open Go.RowKit Go.Ofp
set_option linter.unusedVariables false
set_option maxRecDepth 100000
set_option maxHeartbeats 4000000

theorem eq_vl (d : Nat) (p q : Vl) (w : World) : (Op.equalIn (d + 2) 35 (.agg (vlRow p).toArray) (.agg (vlRow q).toArray)).run Try.prog w = .ok (decide (p = q)) w := by
  have hp : Try.prog.stoodInHeld 35 = false := by kernel_rfl
  have hf := fields_of Try.underlying35
  have hu : Try.prog.underlying 35 = some (.struct (Try.prog.fieldsOf 35)) := by rw [hf, Try.underlying35]
  rw [run_equalIn_struct w (d + 1) _ _ _ hu hp, hf]
  obtain ⟨a, b, c⟩ := p
  obtain ⟨a', b', c'⟩ := q
  have h3 := Try.underlying3
  have h9 := Try.underlying9
  have hb := ba_beq c c'
  simp only [vlRow]
  go_simp
  by_cases h1 : a = a'
  · by_cases h2 : b = b'
    · by_cases h3 : c = c' <;> simp_all
    · simp_all
  · simp_all
theorem eq_items (d : Nat) (f g : List Vl) (hl : f.length = g.length) (w : World) : ∀ m k, k + m = f.length → (Op.eqItems (d + 2) 35 3 (flRow f).toArray (flRow g).toArray (List.range' k m)).run Try.prog w = .ok (decide (f.drop k = g.drop k)) w := by
  intro m
  induction m with
  | zero =>
    intro k hk
    rw [List.drop_of_length_le (by omega), List.drop_of_length_le (by omega)]
    simp [Op.eqItems]
  | succ m ih =>
    intro k hk
    rw [List.range'_succ]
    have p1 := run_part_row (P := Try.prog) (t := 35) (n := 3) (by kernel_rfl) (by kernel_rfl) (flRow f).toArray (k * 3) w
    have p2 := run_part_row (P := Try.prog) (t := 35) (n := 3) (by kernel_rfl) (by kernel_rfl) (flRow g).toArray (k * 3) w
    have q1 := fl_at [] f k f[k] (List.getElem?_eq_getElem (by omega))
    have q2 := fl_at [] g k (g[k]'(by omega)) (List.getElem?_eq_getElem (by omega))
    simp only [List.nil_append, List.length_nil, Nat.zero_add] at q1 q2
    rw [extract_list, q1] at p1
    rw [extract_list, q2] at p2
    have p3 := eq_vl d f[k] (g[k]'(by omega)) w
    simp only [Op.eqItems, Sem.run_bind, p1, p2, p3, Result.andThen_ok]
    have hi := ih (k + 1) (by omega)
    have hd : (f.drop k = g.drop k) ↔ (f[k] = g[k]'(by omega) ∧ f.drop (k + 1) = g.drop (k + 1)) := by
      rw [List.drop_eq_getElem_cons (show k < f.length by omega), List.drop_eq_getElem_cons (show k < g.length by omega), List.cons.injEq]
    by_cases h : f[k] = g[k]'(by omega)
    · rw [decide_eq_true h]
      simp only [Bool.not_true, Bool.false_eq_true, if_false]
      rw [hi]
      congr 1
      rw [decide_eq_decide, hd]
      exact ⟨fun e => ⟨h, e⟩, fun e => e.2⟩
    · rw [decide_eq_false h, decide_eq_false (fun e => h (hd.1 e).1)]
      rfl
theorem eq_fl (d : Nat) (f g : List Vl) (hf : f.length = 8) (hg : g.length = 8) (w : World) : (Op.equalIn (d + 3) 36 (.agg (flRow f).toArray) (.agg (flRow g).toArray)).run Try.prog w = .ok (decide (f = g)) w := by
  obtain ⟨i, hi, -⟩ := elem_value
  have hc : Try.prog.cellsOf 35 = 3 := by kernel_rfl
  rw [run_equalIn_array w (d + 2) _ _ Try.underlying36 hi, hc, List.range_eq_range']
  exact eq_items d f g (by omega) w 8 0 (by omega)
theorem eq_pt (d : Nat) (p q : Pt) (hf : p.f.length = 8) (hg : q.f.length = 8) (w : World) : (Op.equalIn (d + 4) 40 (.agg (ptRow p).toArray) (.agg (ptRow q).toArray)).run Try.prog w = .ok (decide (p = q)) w := by
  have hp : Try.prog.stoodInHeld 40 = false := by kernel_rfl
  have hff := fields_of Try.underlying40
  have hu : Try.prog.underlying 40 = some (.struct (Try.prog.fieldsOf 40)) := by rw [hff, Try.underlying40]
  rw [run_equalIn_struct w (d + 3) _ _ _ hu hp, hff]
  obtain ⟨b, c, f⟩ := p
  obtain ⟨b', c', g⟩ := q
  simp only at hf hg
  have e3 := eq_fl d f g hf hg w
  have t1 : (flRow f).take 24 = flRow f := List.take_of_length_le (by rw [flRow_length]; omega)
  have t2 : (flRow g).take 24 = flRow g := List.take_of_length_le (by rw [flRow_length]; omega)
  have h9 := Try.underlying33
  simp only [ptRow]
  go_simp
  simp only [t1, t2, e3, Int.natCast_inj, Result.andThen_ok]
  by_cases k2 : b = b'
  · by_cases k3 : c = c'
    · by_cases k4 : f = g <;> simp [k2, k3, k4]
    · simp [k2, k3]
  · simp [k2]

/-! ### The walk's facts -/
theorem eql_vl (p q : Vl) (w : World) : (binOp .eql 35 (.agg (vlRow p).toArray) (.agg (vlRow q).toArray)).run Try.prog w = .ok (.bool (decide (p = q))) w := by
  rw [run_eql_struct, eq_vl 9998 p q w]
  rfl
theorem neq_vl (p q : Vl) (w : World) : (binOp .neq 35 (.agg (vlRow p).toArray) (.agg (vlRow q).toArray)).run Try.prog w = .ok (.bool (!decide (p = q))) w := by
  rw [run_neq_struct, eq_vl 9998 p q w]
  rfl
theorem guard_vl (op : BinOp) (x y : Operand) (xs ys : Array Value) (w : World) : (eqGuard op 35 x y (.agg xs) (.agg ys)).run Try.prog w = .ok () w :=
  run_eqGuard_agg w op _ x y xs ys (by kernel_rfl)
end Go.Proofs.Ytplgpbbghhlbjaa
end

section
/- Values and patches that may be. -/
set_option linter.unusedSimpArgs false
set_option linter.unusedVariables false
namespace Go.Ofp
/-- Which values may be. -/
def Vl.ok (v : Vl) : Bool :=
  if v.kind = 0 then decide (v.n = 0 ∧ v.s.size = 0)
  else if v.kind = 1 then decide (0 ≤ v.n ∧ v.n ≤ 1099511627776 ∧ v.s.size = 0)
  else if v.kind = 2 then decide (v.n = 0 ∧ v.s.size ≤ 24)
  else false
theorem ba_empty {s : ByteArray} (h : s.size = 0) : s = ⟨#[]⟩ := by
  apply ByteArray.ext
  exact Array.eq_empty_of_size_eq_zero h
end Go.Ofp
namespace Go.Proofs.Ytplgpbbghhlbjaa
open Go.RowKit Go.Ofp
set_option linter.unusedVariables false
set_option maxRecDepth 100000
set_option maxHeartbeats 4000000

theorem vcheck_any (v : Vl) (w : World) : Calls Try.prog 87 #[.agg (vlRow v).toArray] w fun e w' => e = .returned (.bool v.ok) ∧ Below w.heap.size w w' := by
  have hE := fun W : World => eql_vl v Vl.zero W
  have hG := guard_vl
  have hS := St.start w
  obtain ⟨k, n, s⟩ := v
  have hb : (s.toList == []) = decide (s.size = 0) := by
    rw [show ([] : List UInt8) = (⟨#[]⟩ : ByteArray).toList by rw [ByteArray.toList_eq], ba_beq]
    by_cases h : s.size = 0
    · rw [decide_eq_true h, decide_eq_true (ba_empty h)]
    · rw [decide_eq_false h, decide_eq_false (fun e => h (by rw [e]; rfl))]
  by_cases h0 : k = 0
  · subst h0
    have he : decide ((⟨0, n, s⟩ : Vl) = Vl.zero) = Vl.ok ⟨0, n, s⟩ := by
      unfold Vl.ok Vl.zero
      rw [if_pos rfl, decide_eq_decide]
      constructor
      · intro e
        cases e
        exact ⟨rfl, rfl⟩
      · rintro ⟨h1, h2⟩
        simp only at h1 h2
        rw [h1, ba_empty h2]
    rw [he] at hE
    generalize Vl.ok ⟨0, n, s⟩ = r at hE ⊢
    simp only [vlRow, Vl.zero] at hE ⊢
    clear hb he
    go_enter Try.func87, Try.ntmps87
    go_wp2_with (first | (with_reducible refine wpList_box_st hS rfl rfl rfl ?_; intro g1 w1 hS1; clear hS; replace hS := hS1; clear hS1) | (with_reducible refine wpList_box1_st hS rfl rfl rfl ?_; intro g1 w1 hS1; clear hS; replace hS := hS1; clear hS1) | (with_reducible refine wpList_alloc_st hS rfl rfl (by assumption) ?_; intro g1 w1 hS1; clear hS; replace hS := hS1; clear hS1) | (with_reducible refine wpList_alloc1_st hS rfl rfl (by assumption) rfl ?_; intro g1 w1 hS1; clear hS; replace hS := hS1; clear hS1) | ((with_reducible refine wpList_load_st 0 hS rfl rfl rfl rfl ?_ rfl ?_); focus (simp [scalarB, go_sem]; done)) | ((with_reducible refine wpList_loadall_st 0 hS rfl rfl rfl rfl ?_ (by kernel_rfl) ?_); focus (simp [rowB, go_sem]; done)) | ((with_reducible refine wpList_store_st 0 hS rfl rfl rfl rfl (by kernel_rfl) rfl rfl ?_); intro w1 hS1; clear hS; replace hS := hS1; clear hS1; try simp only [List.set_cons_zero, List.set_cons_succ, List.setIfInBounds_toArray, List.take_succ_cons, List.take_zero, List.drop_succ_cons, List.drop_zero, List.nil_append, List.cons_append, List.append_nil, List.drop_nil, List.take_nil, List.length_cons, List.length_nil, Nat.zero_add, Nat.add_zero, Nat.reduceAdd] at hS) | ((with_reducible refine wpList_storerow_st 0 hS rfl rfl rfl rfl (by kernel_rfl) rfl rfl rfl rfl ?_); intro w1 hS1; clear hS; replace hS := hS1; clear hS1; try simp only [List.set_cons_zero, List.set_cons_succ, List.setIfInBounds_toArray, List.take_succ_cons, List.take_zero, List.drop_succ_cons, List.drop_zero, List.nil_append, List.cons_append, List.append_nil, List.drop_nil, List.take_nil, List.length_cons, List.length_nil, Nat.zero_add, Nat.add_zero, Nat.reduceAdd] at hS))
    go_ret
    exact ⟨rfl, hS.below⟩
  by_cases h1 : k = 1
  · subst h1
    have hr : Vl.ok ⟨1, n, s⟩ = decide (0 ≤ n ∧ n ≤ 1099511627776 ∧ s.size = 0) := by simp [Vl.ok]
    rw [hr]
    clear hE hG h0 hr
    simp only [vlRow]
    by_cases c1 : 0 ≤ n
    · by_cases c2 : n ≤ 1099511627776
      · by_cases c3 : s.size = 0
        · rw [decide_eq_true ⟨c1, c2, c3⟩]
          rw [decide_eq_true c3] at hb
          go_enter Try.func87, Try.ntmps87
          go_wp2_with (first | (with_reducible refine wpList_box_st hS rfl rfl rfl ?_; intro g1 w1 hS1; clear hS; replace hS := hS1; clear hS1) | (with_reducible refine wpList_box1_st hS rfl rfl rfl ?_; intro g1 w1 hS1; clear hS; replace hS := hS1; clear hS1) | (with_reducible refine wpList_alloc_st hS rfl rfl (by assumption) ?_; intro g1 w1 hS1; clear hS; replace hS := hS1; clear hS1) | (with_reducible refine wpList_alloc1_st hS rfl rfl (by assumption) rfl ?_; intro g1 w1 hS1; clear hS; replace hS := hS1; clear hS1) | ((with_reducible refine wpList_load_st 0 hS rfl rfl rfl rfl ?_ rfl ?_); focus (simp [scalarB, go_sem]; done)) | ((with_reducible refine wpList_loadall_st 0 hS rfl rfl rfl rfl ?_ (by kernel_rfl) ?_); focus (simp [rowB, go_sem]; done)) | ((with_reducible refine wpList_store_st 0 hS rfl rfl rfl rfl (by kernel_rfl) rfl rfl ?_); intro w1 hS1; clear hS; replace hS := hS1; clear hS1; try simp only [List.set_cons_zero, List.set_cons_succ, List.setIfInBounds_toArray, List.take_succ_cons, List.take_zero, List.drop_succ_cons, List.drop_zero, List.nil_append, List.cons_append, List.append_nil, List.drop_nil, List.take_nil, List.length_cons, List.length_nil, Nat.zero_add, Nat.add_zero, Nat.reduceAdd] at hS) | ((with_reducible refine wpList_storerow_st 0 hS rfl rfl rfl rfl (by kernel_rfl) rfl rfl rfl rfl ?_); intro w1 hS1; clear hS; replace hS := hS1; clear hS1; try simp only [List.set_cons_zero, List.set_cons_succ, List.setIfInBounds_toArray, List.take_succ_cons, List.take_zero, List.drop_succ_cons, List.drop_zero, List.nil_append, List.cons_append, List.append_nil, List.drop_nil, List.take_nil, List.length_cons, List.length_nil, Nat.zero_add, Nat.add_zero, Nat.reduceAdd] at hS) | ((with_reducible refine wpList_gload_st 0 hS rfl (by with_unfolding_all rfl) rfl rfl ?_ rfl ?_); focus (simp [scalarB, go_sem]; done)))
          go_ret
          exact ⟨rfl, hS.below⟩
        · rw [decide_eq_false (fun h => c3 h.2.2)]
          rw [decide_eq_false c3] at hb
          go_enter Try.func87, Try.ntmps87
          go_wp2_with (first | (with_reducible refine wpList_box_st hS rfl rfl rfl ?_; intro g1 w1 hS1; clear hS; replace hS := hS1; clear hS1) | (with_reducible refine wpList_box1_st hS rfl rfl rfl ?_; intro g1 w1 hS1; clear hS; replace hS := hS1; clear hS1) | (with_reducible refine wpList_alloc_st hS rfl rfl (by assumption) ?_; intro g1 w1 hS1; clear hS; replace hS := hS1; clear hS1) | (with_reducible refine wpList_alloc1_st hS rfl rfl (by assumption) rfl ?_; intro g1 w1 hS1; clear hS; replace hS := hS1; clear hS1) | ((with_reducible refine wpList_load_st 0 hS rfl rfl rfl rfl ?_ rfl ?_); focus (simp [scalarB, go_sem]; done)) | ((with_reducible refine wpList_loadall_st 0 hS rfl rfl rfl rfl ?_ (by kernel_rfl) ?_); focus (simp [rowB, go_sem]; done)) | ((with_reducible refine wpList_store_st 0 hS rfl rfl rfl rfl (by kernel_rfl) rfl rfl ?_); intro w1 hS1; clear hS; replace hS := hS1; clear hS1; try simp only [List.set_cons_zero, List.set_cons_succ, List.setIfInBounds_toArray, List.take_succ_cons, List.take_zero, List.drop_succ_cons, List.drop_zero, List.nil_append, List.cons_append, List.append_nil, List.drop_nil, List.take_nil, List.length_cons, List.length_nil, Nat.zero_add, Nat.add_zero, Nat.reduceAdd] at hS) | ((with_reducible refine wpList_storerow_st 0 hS rfl rfl rfl rfl (by kernel_rfl) rfl rfl rfl rfl ?_); intro w1 hS1; clear hS; replace hS := hS1; clear hS1; try simp only [List.set_cons_zero, List.set_cons_succ, List.setIfInBounds_toArray, List.take_succ_cons, List.take_zero, List.drop_succ_cons, List.drop_zero, List.nil_append, List.cons_append, List.append_nil, List.drop_nil, List.take_nil, List.length_cons, List.length_nil, Nat.zero_add, Nat.add_zero, Nat.reduceAdd] at hS) | ((with_reducible refine wpList_gload_st 0 hS rfl (by with_unfolding_all rfl) rfl rfl ?_ rfl ?_); focus (simp [scalarB, go_sem]; done)))
          go_ret
          exact ⟨rfl, hS.below⟩
      · rw [decide_eq_false (fun h => c2 h.2.1)]
        have d2 : decide (n ≤ 1099511627776) = false := decide_eq_false c2
        go_enter Try.func87, Try.ntmps87
        go_wp2_with (first | (with_reducible refine wpList_box_st hS rfl rfl rfl ?_; intro g1 w1 hS1; clear hS; replace hS := hS1; clear hS1) | (with_reducible refine wpList_box1_st hS rfl rfl rfl ?_; intro g1 w1 hS1; clear hS; replace hS := hS1; clear hS1) | (with_reducible refine wpList_alloc_st hS rfl rfl (by assumption) ?_; intro g1 w1 hS1; clear hS; replace hS := hS1; clear hS1) | (with_reducible refine wpList_alloc1_st hS rfl rfl (by assumption) rfl ?_; intro g1 w1 hS1; clear hS; replace hS := hS1; clear hS1) | ((with_reducible refine wpList_load_st 0 hS rfl rfl rfl rfl ?_ rfl ?_); focus (simp [scalarB, go_sem]; done)) | ((with_reducible refine wpList_loadall_st 0 hS rfl rfl rfl rfl ?_ (by kernel_rfl) ?_); focus (simp [rowB, go_sem]; done)) | ((with_reducible refine wpList_store_st 0 hS rfl rfl rfl rfl (by kernel_rfl) rfl rfl ?_); intro w1 hS1; clear hS; replace hS := hS1; clear hS1; try simp only [List.set_cons_zero, List.set_cons_succ, List.setIfInBounds_toArray, List.take_succ_cons, List.take_zero, List.drop_succ_cons, List.drop_zero, List.nil_append, List.cons_append, List.append_nil, List.drop_nil, List.take_nil, List.length_cons, List.length_nil, Nat.zero_add, Nat.add_zero, Nat.reduceAdd] at hS) | ((with_reducible refine wpList_storerow_st 0 hS rfl rfl rfl rfl (by kernel_rfl) rfl rfl rfl rfl ?_); intro w1 hS1; clear hS; replace hS := hS1; clear hS1; try simp only [List.set_cons_zero, List.set_cons_succ, List.setIfInBounds_toArray, List.take_succ_cons, List.take_zero, List.drop_succ_cons, List.drop_zero, List.nil_append, List.cons_append, List.append_nil, List.drop_nil, List.take_nil, List.length_cons, List.length_nil, Nat.zero_add, Nat.add_zero, Nat.reduceAdd] at hS) | ((with_reducible refine wpList_gload_st 0 hS rfl (by with_unfolding_all rfl) rfl rfl ?_ rfl ?_); focus (simp [scalarB, go_sem]; done)))
        go_ret
        exact ⟨rfl, hS.below⟩
    · rw [decide_eq_false (fun h => c1 h.1)]
      have d1 : decide (0 ≤ n) = false := decide_eq_false c1
      go_enter Try.func87, Try.ntmps87
      go_wp2_with (first | (with_reducible refine wpList_box_st hS rfl rfl rfl ?_; intro g1 w1 hS1; clear hS; replace hS := hS1; clear hS1) | (with_reducible refine wpList_box1_st hS rfl rfl rfl ?_; intro g1 w1 hS1; clear hS; replace hS := hS1; clear hS1) | (with_reducible refine wpList_alloc_st hS rfl rfl (by assumption) ?_; intro g1 w1 hS1; clear hS; replace hS := hS1; clear hS1) | (with_reducible refine wpList_alloc1_st hS rfl rfl (by assumption) rfl ?_; intro g1 w1 hS1; clear hS; replace hS := hS1; clear hS1) | ((with_reducible refine wpList_load_st 0 hS rfl rfl rfl rfl ?_ rfl ?_); focus (simp [scalarB, go_sem]; done)) | ((with_reducible refine wpList_loadall_st 0 hS rfl rfl rfl rfl ?_ (by kernel_rfl) ?_); focus (simp [rowB, go_sem]; done)) | ((with_reducible refine wpList_store_st 0 hS rfl rfl rfl rfl (by kernel_rfl) rfl rfl ?_); intro w1 hS1; clear hS; replace hS := hS1; clear hS1; try simp only [List.set_cons_zero, List.set_cons_succ, List.setIfInBounds_toArray, List.take_succ_cons, List.take_zero, List.drop_succ_cons, List.drop_zero, List.nil_append, List.cons_append, List.append_nil, List.drop_nil, List.take_nil, List.length_cons, List.length_nil, Nat.zero_add, Nat.add_zero, Nat.reduceAdd] at hS) | ((with_reducible refine wpList_storerow_st 0 hS rfl rfl rfl rfl (by kernel_rfl) rfl rfl rfl rfl ?_); intro w1 hS1; clear hS; replace hS := hS1; clear hS1; try simp only [List.set_cons_zero, List.set_cons_succ, List.setIfInBounds_toArray, List.take_succ_cons, List.take_zero, List.drop_succ_cons, List.drop_zero, List.nil_append, List.cons_append, List.append_nil, List.drop_nil, List.take_nil, List.length_cons, List.length_nil, Nat.zero_add, Nat.add_zero, Nat.reduceAdd] at hS) | ((with_reducible refine wpList_gload_st 0 hS rfl (by with_unfolding_all rfl) rfl rfl ?_ rfl ?_); focus (simp [scalarB, go_sem]; done)))
      go_ret
      exact ⟨rfl, hS.below⟩
  by_cases h2 : k = 2
  · subst h2
    have hr : Vl.ok ⟨2, n, s⟩ = decide (n = 0 ∧ s.size ≤ 24) := by simp [Vl.ok]
    rw [hr]
    clear hE hG h0 h1 hr hb
    simp only [vlRow]
    by_cases c1 : n = 0
    · subst c1
      by_cases c2 : s.size ≤ 24
      · rw [decide_eq_true ⟨rfl, c2⟩]
        have d2 : decide ((s.size : Int) ≤ 24) = true := decide_eq_true (by omega)
        go_enter Try.func87, Try.ntmps87
        go_wp2_with (first | (with_reducible refine wpList_box_st hS rfl rfl rfl ?_; intro g1 w1 hS1; clear hS; replace hS := hS1; clear hS1) | (with_reducible refine wpList_box1_st hS rfl rfl rfl ?_; intro g1 w1 hS1; clear hS; replace hS := hS1; clear hS1) | (with_reducible refine wpList_alloc_st hS rfl rfl (by assumption) ?_; intro g1 w1 hS1; clear hS; replace hS := hS1; clear hS1) | (with_reducible refine wpList_alloc1_st hS rfl rfl (by assumption) rfl ?_; intro g1 w1 hS1; clear hS; replace hS := hS1; clear hS1) | ((with_reducible refine wpList_load_st 0 hS rfl rfl rfl rfl ?_ rfl ?_); focus (simp [scalarB, go_sem]; done)) | ((with_reducible refine wpList_loadall_st 0 hS rfl rfl rfl rfl ?_ (by kernel_rfl) ?_); focus (simp [rowB, go_sem]; done)) | ((with_reducible refine wpList_store_st 0 hS rfl rfl rfl rfl (by kernel_rfl) rfl rfl ?_); intro w1 hS1; clear hS; replace hS := hS1; clear hS1; try simp only [List.set_cons_zero, List.set_cons_succ, List.setIfInBounds_toArray, List.take_succ_cons, List.take_zero, List.drop_succ_cons, List.drop_zero, List.nil_append, List.cons_append, List.append_nil, List.drop_nil, List.take_nil, List.length_cons, List.length_nil, Nat.zero_add, Nat.add_zero, Nat.reduceAdd] at hS) | ((with_reducible refine wpList_storerow_st 0 hS rfl rfl rfl rfl (by kernel_rfl) rfl rfl rfl rfl ?_); intro w1 hS1; clear hS; replace hS := hS1; clear hS1; try simp only [List.set_cons_zero, List.set_cons_succ, List.setIfInBounds_toArray, List.take_succ_cons, List.take_zero, List.drop_succ_cons, List.drop_zero, List.nil_append, List.cons_append, List.append_nil, List.drop_nil, List.take_nil, List.length_cons, List.length_nil, Nat.zero_add, Nat.add_zero, Nat.reduceAdd] at hS) | ((with_reducible refine wpList_gload_st 0 hS rfl (by with_unfolding_all rfl) rfl rfl ?_ rfl ?_); focus (simp [scalarB, go_sem]; done)))
        go_ret
        exact ⟨rfl, hS.below⟩
      · rw [decide_eq_false (fun h => c2 h.2)]
        have d2 : decide ((s.size : Int) ≤ 24) = false := decide_eq_false (by omega)
        go_enter Try.func87, Try.ntmps87
        go_wp2_with (first | (with_reducible refine wpList_box_st hS rfl rfl rfl ?_; intro g1 w1 hS1; clear hS; replace hS := hS1; clear hS1) | (with_reducible refine wpList_box1_st hS rfl rfl rfl ?_; intro g1 w1 hS1; clear hS; replace hS := hS1; clear hS1) | (with_reducible refine wpList_alloc_st hS rfl rfl (by assumption) ?_; intro g1 w1 hS1; clear hS; replace hS := hS1; clear hS1) | (with_reducible refine wpList_alloc1_st hS rfl rfl (by assumption) rfl ?_; intro g1 w1 hS1; clear hS; replace hS := hS1; clear hS1) | ((with_reducible refine wpList_load_st 0 hS rfl rfl rfl rfl ?_ rfl ?_); focus (simp [scalarB, go_sem]; done)) | ((with_reducible refine wpList_loadall_st 0 hS rfl rfl rfl rfl ?_ (by kernel_rfl) ?_); focus (simp [rowB, go_sem]; done)) | ((with_reducible refine wpList_store_st 0 hS rfl rfl rfl rfl (by kernel_rfl) rfl rfl ?_); intro w1 hS1; clear hS; replace hS := hS1; clear hS1; try simp only [List.set_cons_zero, List.set_cons_succ, List.setIfInBounds_toArray, List.take_succ_cons, List.take_zero, List.drop_succ_cons, List.drop_zero, List.nil_append, List.cons_append, List.append_nil, List.drop_nil, List.take_nil, List.length_cons, List.length_nil, Nat.zero_add, Nat.add_zero, Nat.reduceAdd] at hS) | ((with_reducible refine wpList_storerow_st 0 hS rfl rfl rfl rfl (by kernel_rfl) rfl rfl rfl rfl ?_); intro w1 hS1; clear hS; replace hS := hS1; clear hS1; try simp only [List.set_cons_zero, List.set_cons_succ, List.setIfInBounds_toArray, List.take_succ_cons, List.take_zero, List.drop_succ_cons, List.drop_zero, List.nil_append, List.cons_append, List.append_nil, List.drop_nil, List.take_nil, List.length_cons, List.length_nil, Nat.zero_add, Nat.add_zero, Nat.reduceAdd] at hS) | ((with_reducible refine wpList_gload_st 0 hS rfl (by with_unfolding_all rfl) rfl rfl ?_ rfl ?_); focus (simp [scalarB, go_sem]; done)))
        go_ret
        exact ⟨rfl, hS.below⟩
    · rw [decide_eq_false (fun h => c1 h.1)]
      have d1 : (n == 0) = false := by rw [beq_eq_false_iff_ne]; exact c1
      go_enter Try.func87, Try.ntmps87
      go_wp2_with (first | (with_reducible refine wpList_box_st hS rfl rfl rfl ?_; intro g1 w1 hS1; clear hS; replace hS := hS1; clear hS1) | (with_reducible refine wpList_box1_st hS rfl rfl rfl ?_; intro g1 w1 hS1; clear hS; replace hS := hS1; clear hS1) | (with_reducible refine wpList_alloc_st hS rfl rfl (by assumption) ?_; intro g1 w1 hS1; clear hS; replace hS := hS1; clear hS1) | (with_reducible refine wpList_alloc1_st hS rfl rfl (by assumption) rfl ?_; intro g1 w1 hS1; clear hS; replace hS := hS1; clear hS1) | ((with_reducible refine wpList_load_st 0 hS rfl rfl rfl rfl ?_ rfl ?_); focus (simp [scalarB, go_sem]; done)) | ((with_reducible refine wpList_loadall_st 0 hS rfl rfl rfl rfl ?_ (by kernel_rfl) ?_); focus (simp [rowB, go_sem]; done)) | ((with_reducible refine wpList_store_st 0 hS rfl rfl rfl rfl (by kernel_rfl) rfl rfl ?_); intro w1 hS1; clear hS; replace hS := hS1; clear hS1; try simp only [List.set_cons_zero, List.set_cons_succ, List.setIfInBounds_toArray, List.take_succ_cons, List.take_zero, List.drop_succ_cons, List.drop_zero, List.nil_append, List.cons_append, List.append_nil, List.drop_nil, List.take_nil, List.length_cons, List.length_nil, Nat.zero_add, Nat.add_zero, Nat.reduceAdd] at hS) | ((with_reducible refine wpList_storerow_st 0 hS rfl rfl rfl rfl (by kernel_rfl) rfl rfl rfl rfl ?_); intro w1 hS1; clear hS; replace hS := hS1; clear hS1; try simp only [List.set_cons_zero, List.set_cons_succ, List.setIfInBounds_toArray, List.take_succ_cons, List.take_zero, List.drop_succ_cons, List.drop_zero, List.nil_append, List.cons_append, List.append_nil, List.drop_nil, List.take_nil, List.length_cons, List.length_nil, Nat.zero_add, Nat.add_zero, Nat.reduceAdd] at hS) | ((with_reducible refine wpList_gload_st 0 hS rfl (by with_unfolding_all rfl) rfl rfl ?_ rfl ?_); focus (simp [scalarB, go_sem]; done)))
      go_ret
      exact ⟨rfl, hS.below⟩
  · have hr : Vl.ok ⟨k, n, s⟩ = false := by simp [Vl.ok, h0, h1, h2]
    rw [hr]
    have e0 : (k == 0) = false := by rw [beq_eq_false_iff_ne]; exact h0
    have e1 : (k == 1) = false := by rw [beq_eq_false_iff_ne]; exact h1
    have e2 : (k == 2) = false := by rw [beq_eq_false_iff_ne]; exact h2
    clear hE hG h0 h1 hr hb h2
    simp only [vlRow]
    go_enter Try.func87, Try.ntmps87
    go_wp2_with (first | (with_reducible refine wpList_box_st hS rfl rfl rfl ?_; intro g1 w1 hS1; clear hS; replace hS := hS1; clear hS1) | (with_reducible refine wpList_box1_st hS rfl rfl rfl ?_; intro g1 w1 hS1; clear hS; replace hS := hS1; clear hS1) | (with_reducible refine wpList_alloc_st hS rfl rfl (by assumption) ?_; intro g1 w1 hS1; clear hS; replace hS := hS1; clear hS1) | (with_reducible refine wpList_alloc1_st hS rfl rfl (by assumption) rfl ?_; intro g1 w1 hS1; clear hS; replace hS := hS1; clear hS1) | ((with_reducible refine wpList_load_st 0 hS rfl rfl rfl rfl ?_ rfl ?_); focus (simp [scalarB, go_sem]; done)) | ((with_reducible refine wpList_loadall_st 0 hS rfl rfl rfl rfl ?_ (by kernel_rfl) ?_); focus (simp [rowB, go_sem]; done)) | ((with_reducible refine wpList_store_st 0 hS rfl rfl rfl rfl (by kernel_rfl) rfl rfl ?_); intro w1 hS1; clear hS; replace hS := hS1; clear hS1; try simp only [List.set_cons_zero, List.set_cons_succ, List.setIfInBounds_toArray, List.take_succ_cons, List.take_zero, List.drop_succ_cons, List.drop_zero, List.nil_append, List.cons_append, List.append_nil, List.drop_nil, List.take_nil, List.length_cons, List.length_nil, Nat.zero_add, Nat.add_zero, Nat.reduceAdd] at hS) | ((with_reducible refine wpList_storerow_st 0 hS rfl rfl rfl rfl (by kernel_rfl) rfl rfl rfl rfl ?_); intro w1 hS1; clear hS; replace hS := hS1; clear hS1; try simp only [List.set_cons_zero, List.set_cons_succ, List.setIfInBounds_toArray, List.take_succ_cons, List.take_zero, List.drop_succ_cons, List.drop_zero, List.nil_append, List.cons_append, List.append_nil, List.drop_nil, List.take_nil, List.length_cons, List.length_nil, Nat.zero_add, Nat.add_zero, Nat.reduceAdd] at hS) | ((with_reducible refine wpList_gload_st 0 hS rfl (by with_unfolding_all rfl) rfl rfl ?_ rfl ?_); focus (simp [scalarB, go_sem]; done)))
    go_ret
    exact ⟨rfl, hS.below⟩
theorem high_bits : ∀ i : Fin 32, 9 ≤ i.val → (4294966784 : Nat).testBit i.val = true := by decide
theorem low_mask : ∀ m : Fin 512, m.val &&& 4294966784 = 0 := by decide +kernel
theorem within_mask (m : Nat) (hm : m < 4294967296) : (bits .andNot .u32 (m : Int) 511 == 0) = decide (m ≤ 511) := by
  rw [show (511 : Int) = ((511 : Nat) : Int) by rfl, u32_andNot_nat m 511 hm (by decide), show (4294967295 - 511 : Nat) = 4294966784 by rfl]
  by_cases h : m ≤ 511
  · rw [decide_eq_true h, low_mask ⟨m, by omega⟩]
    rfl
  · rw [decide_eq_false h, beq_eq_false_iff_ne]
    intro e
    obtain ⟨i, hi⟩ := Nat.exists_testBit_of_ne_zero (show m / 2 ^ 9 ≠ 0 by omega)
    rw [Nat.testBit_div_two_pow] at hi
    have hlt : i + 9 < 32 := by
      rcases Nat.lt_or_ge (i + 9) 32 with h | h
      · exact h
      · have h2 : 2 ^ 32 ≤ 2 ^ (i + 9) := Nat.pow_le_pow_right (by decide) h
        rw [Nat.testBit_lt_two_pow (show m < 2 ^ (i + 9) by omega)] at hi
        cases hi
    have hb := high_bits ⟨i + 9, hlt⟩ (by simp)
    have e' : m &&& 4294966784 = 0 := by omega
    have := congrArg (fun x => Nat.testBit x (i + 9)) e'
    simp only [Nat.testBit_and, Nat.zero_testBit, hi] at this
    simp only at hb
    rw [hb] at this
    cases this
theorem wmask_any (m : Nat) (hm : m < 4294967296) (w : World) : Calls Try.prog 101 #[.int .u32 m, .int .u32 511] w fun e w' => e = .returned (.bool (decide (m ≤ 511))) ∧ w = w' := by
  have h := within_mask m hm
  generalize decide (m ≤ 511) = r at h ⊢
  go_enter Try.func101, Try.ntmps101
  go_wp2_with fail
  go_ret
  exact ⟨rfl, rfl⟩
theorem mcheck_any (m : Nat) (hm : m < 4294967296) (w : World) : Calls Try.prog 85 #[.int .u32 m] w fun e w' => e = .returned (.bool (decide (m ≤ 511))) ∧ w = w' := by
  have cW := Lib.hid (fun W : World => wmask_any m hm W)
  go_enter Try.func85, Try.ntmps85
  go_wp2_with (go_at_call 101; (with_reducible refine (cW.out _).mono ?_); rintro _ _ ⟨rfl, rfl⟩)
  go_ret
  exact ⟨rfl, rfl⟩
end Go.Proofs.Ytplgpbbghhlbjaa
end

section
/- Which patches and cards may be. -/
set_option linter.unusedSimpArgs false
set_option linter.unusedVariables false
namespace Go.Ofp
/-- Is a field of a patch one that may not be? -/
def badAt (m : Nat) (v : Vl) (i : Nat) : Bool := !v.ok || (decide (v.kind ≠ 0) && !m.testBit i)
def badF (m : Nat) (f : List Vl) (k : Nat) : Bool := (List.range k).any fun i => badAt m (f.getD i Vl.zero) i
/-- What is wrong with a patch. -/
def Pt.check (p : Pt) : Int :=
  if p.mask = 0 ∨ 511 < p.mask then 11 else if 65536 ≤ p.lab ∨ (p.lab ≠ 0 ∧ p.mask.testBit 8 = false) then 1 else if badF p.mask p.f 8 then 1 else 0
theorem badF_next (m : Nat) (f : List Vl) (k : Nat) : badF m f (k + 1) = (badF m f k || badAt m (f.getD k Vl.zero) k) := by
  unfold badF
  rw [List.range_succ, List.any_append]
  simp
theorem badF_of {m : Nat} {f : List Vl} {k n : Nat} (hk : k < n) (h : badAt m (f.getD k Vl.zero) k = true) : badF m f n = true := by
  unfold badF
  rw [List.any_eq_true]
  exact ⟨k, List.mem_range.2 hk, h⟩
/-- Which cards may be. -/
def Cd.ok (c : Cd) : Bool := decide (1 ≤ c.id ∧ c.id < 1073741824 ∧ 1 ≤ c.ver ∧ c.ver ≤ 1099511627776 ∧ c.lab < 65536) && c.f.all Vl.ok
/-- What is unlike in cards. -/
def Cd.unlike (a b : Cd) : List Nat := (List.range 8).filter fun i => decide (a.f.getD i Vl.zero ≠ b.f.getD i Vl.zero)
end Go.Ofp
namespace Go.Proofs.Ytplgpbbghhlbjaa
open Go.RowKit Go.Ofp
set_option linter.unusedVariables false
set_option maxRecDepth 100000
set_option maxHeartbeats 4000000

theorem fl_index (f : List Vl) (hf : f.length = 8) (k : Nat) (v : Vl) (hv : f[k]? = some v) (W : World) : (Instr.index 36 (.agg (flRow f).toArray) (.int .i64 k)).run Try.prog W = .ok (.agg (vlRow v).toArray) W := by
  have hk : k < 8 := by
    have := (List.getElem?_eq_some_iff.1 hv).1
    omega
  obtain ⟨i, hi, -, hs, -⟩ := elem_value
  have p1 := run_part_row (P := Try.prog) (t := 35) (n := 3) (by kernel_rfl) (by kernel_rfl) (flRow f).toArray (k * 3) W
  have q1 := fl_at [] f k v hv
  simp only [List.nil_append, List.length_nil, Nat.zero_add] at q1
  rw [extract_list, q1] at p1
  unfold Instr.index
  simp [asIntOf, run_underlying Try.underlying36, sizeOf, typeInfo, hi, hs, p1]
  omega

theorem cp_main (p : Pt) (hg : p.f.length = 8) (hm : p.mask ≠ 0 ∧ p.mask ≤ 511) (hlab : p.lab < 65536) (hl2 : p.lab = 0 ∨ p.mask.testBit 8 = true) (w : World) :
    Calls Try.prog 58 #[.agg (ptRow p).toArray] w fun e w' => e = .returned (.int .i64 (if badF p.mask p.f 8 then 1 else 0)) ∧ Below w.heap.size w w' := by
  have hS := St.start w
  have ev := elem_value
  have cC := fun W : World => mcheck_any p.mask (by omega) W
  rw [decide_eq_true hm.2] at cC
  have cL := fun W : World => labels_any p.mask (by omega) W
  have cV := Lib.hid (fun (v : Vl) (W : World) => vcheck_any v W)
  obtain ⟨m, lab, f⟩ := p
  obtain ⟨hm1, hm2⟩ := hm
  simp only [ptRow] at hg hm1 hm2 hlab hl2 cC cL ⊢
  have z1 : ((m : Int) == 0) = false := by rw [beq_eq_false_iff_ne]; omega
  have z2 : ((lab : Int) / 65536 != 0) = false := by
    have : (lab : Int) / 65536 = 0 := by omega
    rw [this]
    rfl
  replace cC := Lib.hid cC
  have hfl : (flRow f).length = 24 := by rw [flRow_length, hg]
  have hg2 : ((Value.int .u32 m :: .int .u32 lab :: flRow f).toArray.toList.drop 2).take 24 = flRow f := List.take_of_length_le (Nat.le_of_eq hfl)
  have hl3 : ((lab : Int) != 0) = false ∨ ((lab : Int) != 0) = true ∧ m.testBit 8 = true := by
    by_cases h : lab = 0
    · subst h
      exact .inl rfl
    · exact .inr ⟨by rw [bne_iff_ne]; omega, hl2.resolve_left h⟩
  clear hl2
  obtain ⟨er, her⟩ : ∃ er : Int, (if badF m f 8 then 1 else 0) = er := ⟨_, rfl⟩
  rw [her]
  replace her := Lib.hid her
  rcases hl3 with y1 | ⟨y1, y2⟩
  · go_enter Try.func58, Try.ntmps58
    go_wp2_with (first
      | (go_at_call 85; (with_reducible refine (cC.out _).mono ?_); rintro _ _ ⟨rfl, rfl⟩)
      | (with_reducible refine wpList_box_st (L := []) hS rfl rfl rfl ?_; intro gp w1 hS1; clear hS; have hS := hS1; clear hS1)
      | ((with_reducible refine wpList_gload_st 0 hS rfl (by with_unfolding_all rfl) rfl rfl ?_ rfl ?_); focus (simp [scalarB, go_sem]; done))
      | ((with_reducible refine wpList_loadrow_st (n := 24) 0 hS rfl rfl rfl rfl ?_ (by kernel_rfl) hg2 hfl ?_); focus (simp [rowB, go_sem]; done)))
    clear cL cC z1 z2 hm1 hlab y1
    go_loopg [33] 8 (fun gk vx wr => ∃ k : Nat, k + gk = 8 ∧ vx = .int .i64 k ∧ Hid (badF m f k = false) ∧ St w [] [Ch.blk gp 40 (Value.int .u32 m :: .int .u32 lab :: flRow f).toArray] wr)
    case atStart => exact ⟨0, Nat.zero_add _, rfl, Lib.hid rfl, hS⟩
    case round =>
      obtain ⟨k, hkn, rfl, hr, hS1⟩ := hrel
      clear hS
      have hS := hS1
      clear hS1
      by_cases hlt : k < 8
      · have hvf : f[k]? = some (f.getD k Vl.zero) := by rw [List.getD_eq_getElem?_getD, List.getElem?_eq_getElem (by omega)]; rfl
        have hnext := badF_next m f k
        have hof := fun h => badF_of (m := m) (f := f) (k := k) (n := 8) hlt h
        rw [hr.out] at hnext
        simp only [Bool.false_or, badAt] at hnext hof
        generalize f.getD k Vl.zero = v at *
        have hix := fl_index f hg k v hvf
        clear hvf
        have cV2 := cV.out v
        have hE := fun W : World => neq_vl v Vl.zero W
        have hz : v.ok = true → (decide (v = Vl.zero) = decide (v.kind = 0)) := by
          intro h
          rw [decide_eq_decide]
          constructor
          · rintro rfl
            rfl
          · intro hk
            obtain ⟨a, b, c⟩ := v
            simp only at hk
            subst hk
            simp only [Vl.ok, if_true, decide_eq_true_eq] at h
            rw [h.1, ba_empty h.2]
            rfl
        have hsh : (bits .and .u32 ((m : Int) / 2 ^ k) 1 == 0) = !m.testBit k := by
          rw [show (m : Int) / 2 ^ k = ((m / 2 ^ k : Nat) : Int) by simp, show (1 : Int) = ((1 : Nat) : Int) by rfl, u32_and_nat (m / 2 ^ k) 1 (Nat.lt_of_le_of_lt (Nat.div_le_self _ _) (by omega)) (by decide), Nat.and_one_is_mod, Nat.testBit_eq_decide_div_mod_eq]
          rcases Nat.mod_two_eq_zero_or_one (m / 2 ^ k) with h | h <;> rw [h] <;> rfl
        cases hok : v.ok with
        | false =>
          rw [hok] at cV2 hof
          clear hz hE hsh hok
          obtain ⟨vk, vn, vs⟩ := v
          simp only [vlRow] at cV2 hix
          replace cV2 := Lib.hid cV2
          replace hof := Lib.hid (hof rfl)
          go_wp2_with (first
            | (go_at_call 87; (with_reducible refine (cV2.out _).mono ?_); rintro _ w9 ⟨rfl, hk9⟩; have hS1 := hS.keepB hk9; clear hk9 hS; have hS := hS1; clear hS1)
            | (with_reducible refine wpList_box_st hS rfl rfl rfl ?_; intro g1 w1 hS1; clear hS; replace hS := hS1; clear hS1) | (with_reducible refine wpList_box1_st hS rfl rfl rfl ?_; intro g1 w1 hS1; clear hS; replace hS := hS1; clear hS1) | (with_reducible refine wpList_alloc_st hS rfl rfl (by assumption) ?_; intro g1 w1 hS1; clear hS; replace hS := hS1; clear hS1) | (with_reducible refine wpList_alloc1_st hS rfl rfl (by assumption) rfl ?_; intro g1 w1 hS1; clear hS; replace hS := hS1; clear hS1) | ((with_reducible refine wpList_load_st 0 hS rfl rfl rfl rfl ?_ rfl ?_); focus (simp [scalarB, go_sem]; done)) | ((with_reducible refine wpList_loadall_st 0 hS rfl rfl rfl rfl ?_ (by kernel_rfl) ?_); focus (simp [rowB, go_sem]; done)) | ((with_reducible refine wpList_store_st 0 hS rfl rfl rfl rfl (by kernel_rfl) rfl rfl ?_); intro w1 hS1; clear hS; replace hS := hS1; clear hS1; try simp only [List.set_cons_zero, List.set_cons_succ, List.setIfInBounds_toArray, List.take_succ_cons, List.take_zero, List.drop_succ_cons, List.drop_zero, List.nil_append, List.cons_append, List.append_nil, List.drop_nil, List.take_nil, List.length_cons, List.length_nil, Nat.zero_add, Nat.add_zero, Nat.reduceAdd] at hS) | ((with_reducible refine wpList_storerow_st 0 hS rfl rfl rfl rfl (by kernel_rfl) rfl rfl rfl rfl ?_); intro w1 hS1; clear hS; replace hS := hS1; clear hS1; try simp only [List.set_cons_zero, List.set_cons_succ, List.setIfInBounds_toArray, List.take_succ_cons, List.take_zero, List.drop_succ_cons, List.drop_zero, List.nil_append, List.cons_append, List.append_nil, List.drop_nil, List.take_nil, List.length_cons, List.length_nil, Nat.zero_add, Nat.add_zero, Nat.reduceAdd] at hS))
          go_ret
          exact ⟨by rw [← her.out, hof.out]; rfl, hS.below⟩
        | true =>
          rw [hok] at cV2 hof hnext
          rw [hz hok] at hE
          have hG := guard_vl
          by_cases hk0 : v.kind = 0
          · rw [decide_eq_true hk0] at hE
            have hnx : badF m f (k + 1) = false := by rw [hnext]; simp [hk0]
            clear hz hsh hok hk0 hof hnext
            obtain ⟨vk, vn, vs⟩ := v
            simp only [vlRow, Vl.zero] at cV2 hix hE
            replace cV2 := Lib.hid cV2
            replace hnx := Lib.hid hnx
            go_wp2_with (first
              | (go_at_call 87; (with_reducible refine (cV2.out _).mono ?_); rintro _ w9 ⟨rfl, hk9⟩; have hS1 := hS.keepB hk9; clear hk9 hS; have hS := hS1; clear hS1)
              | ((with_reducible refine wpList_gloadrow_st (n := 3) 0 hS rfl (by with_unfolding_all rfl) rfl rfl ?_ (by kernel_rfl) rfl rfl ?_); focus (simp [rowB, go_sem]; done))
              | (with_reducible refine wpList_box_st hS rfl rfl rfl ?_; intro g1 w1 hS1; clear hS; replace hS := hS1; clear hS1) | (with_reducible refine wpList_box1_st hS rfl rfl rfl ?_; intro g1 w1 hS1; clear hS; replace hS := hS1; clear hS1) | (with_reducible refine wpList_alloc_st hS rfl rfl (by assumption) ?_; intro g1 w1 hS1; clear hS; replace hS := hS1; clear hS1) | (with_reducible refine wpList_alloc1_st hS rfl rfl (by assumption) rfl ?_; intro g1 w1 hS1; clear hS; replace hS := hS1; clear hS1) | ((with_reducible refine wpList_load_st 0 hS rfl rfl rfl rfl ?_ rfl ?_); focus (simp [scalarB, go_sem]; done)) | ((with_reducible refine wpList_loadall_st 0 hS rfl rfl rfl rfl ?_ (by kernel_rfl) ?_); focus (simp [rowB, go_sem]; done)) | ((with_reducible refine wpList_store_st 0 hS rfl rfl rfl rfl (by kernel_rfl) rfl rfl ?_); intro w1 hS1; clear hS; replace hS := hS1; clear hS1; try simp only [List.set_cons_zero, List.set_cons_succ, List.setIfInBounds_toArray, List.take_succ_cons, List.take_zero, List.drop_succ_cons, List.drop_zero, List.nil_append, List.cons_append, List.append_nil, List.drop_nil, List.take_nil, List.length_cons, List.length_nil, Nat.zero_add, Nat.add_zero, Nat.reduceAdd] at hS) | ((with_reducible refine wpList_storerow_st 0 hS rfl rfl rfl rfl (by kernel_rfl) rfl rfl rfl rfl ?_); intro w1 hS1; clear hS; replace hS := hS1; clear hS1; try simp only [List.set_cons_zero, List.set_cons_succ, List.setIfInBounds_toArray, List.take_succ_cons, List.take_zero, List.drop_succ_cons, List.drop_zero, List.nil_append, List.cons_append, List.append_nil, List.drop_nil, List.take_nil, List.length_cons, List.length_nil, Nat.zero_add, Nat.add_zero, Nat.reduceAdd] at hS))
            go_roundg (8 - (k + 1))
            case measure => omega
            case rel => exact ⟨k + 1, by omega, by go_num, hnx, hS.drop⟩
          · rw [decide_eq_false hk0] at hE
            cases hb : m.testBit k with
            | true =>
              have hnx : badF m f (k + 1) = false := by rw [hnext]; simp [hb]
              rw [hb] at hsh
              clear hz hok hk0 hof hnext hb
              obtain ⟨vk, vn, vs⟩ := v
              simp only [vlRow, Vl.zero] at cV2 hix hE
              replace cV2 := Lib.hid cV2
              replace hnx := Lib.hid hnx
              go_wp2_with (first
                | (go_at_call 87; (with_reducible refine (cV2.out _).mono ?_); rintro _ w9 ⟨rfl, hk9⟩; have hS1 := hS.keepB hk9; clear hk9 hS; have hS := hS1; clear hS1)
                | ((with_reducible refine wpList_gloadrow_st (n := 3) 0 hS rfl (by with_unfolding_all rfl) rfl rfl ?_ (by kernel_rfl) rfl rfl ?_); focus (simp [rowB, go_sem]; done))
                | ((with_reducible refine wpList_gload_st 1 hS rfl (by with_unfolding_all rfl) rfl rfl ?_ rfl ?_); focus (simp [scalarB, go_sem]; done))
                | (with_reducible refine wpList_box_st hS rfl rfl rfl ?_; intro g1 w1 hS1; clear hS; replace hS := hS1; clear hS1) | (with_reducible refine wpList_box1_st hS rfl rfl rfl ?_; intro g1 w1 hS1; clear hS; replace hS := hS1; clear hS1) | (with_reducible refine wpList_alloc_st hS rfl rfl (by assumption) ?_; intro g1 w1 hS1; clear hS; replace hS := hS1; clear hS1) | (with_reducible refine wpList_alloc1_st hS rfl rfl (by assumption) rfl ?_; intro g1 w1 hS1; clear hS; replace hS := hS1; clear hS1) | ((with_reducible refine wpList_load_st 0 hS rfl rfl rfl rfl ?_ rfl ?_); focus (simp [scalarB, go_sem]; done)) | ((with_reducible refine wpList_loadall_st 0 hS rfl rfl rfl rfl ?_ (by kernel_rfl) ?_); focus (simp [rowB, go_sem]; done)) | ((with_reducible refine wpList_store_st 0 hS rfl rfl rfl rfl (by kernel_rfl) rfl rfl ?_); intro w1 hS1; clear hS; replace hS := hS1; clear hS1; try simp only [List.set_cons_zero, List.set_cons_succ, List.setIfInBounds_toArray, List.take_succ_cons, List.take_zero, List.drop_succ_cons, List.drop_zero, List.nil_append, List.cons_append, List.append_nil, List.drop_nil, List.take_nil, List.length_cons, List.length_nil, Nat.zero_add, Nat.add_zero, Nat.reduceAdd] at hS) | ((with_reducible refine wpList_storerow_st 0 hS rfl rfl rfl rfl (by kernel_rfl) rfl rfl rfl rfl ?_); intro w1 hS1; clear hS; replace hS := hS1; clear hS1; try simp only [List.set_cons_zero, List.set_cons_succ, List.setIfInBounds_toArray, List.take_succ_cons, List.take_zero, List.drop_succ_cons, List.drop_zero, List.nil_append, List.cons_append, List.append_nil, List.drop_nil, List.take_nil, List.length_cons, List.length_nil, Nat.zero_add, Nat.add_zero, Nat.reduceAdd] at hS))
              go_roundg (8 - (k + 1))
              case measure => omega
              case rel => exact ⟨k + 1, by omega, by go_num, hnx, hS.drop⟩
            | false =>
              have hof2 : badF m f 8 = true := hof (by simp [hb, hk0])
              rw [hb] at hsh
              clear hz hok hk0 hof hnext hb
              obtain ⟨vk, vn, vs⟩ := v
              simp only [vlRow, Vl.zero] at cV2 hix hE
              replace cV2 := Lib.hid cV2
              replace hof2 := Lib.hid hof2
              go_wp2_with (first
                | (go_at_call 87; (with_reducible refine (cV2.out _).mono ?_); rintro _ w9 ⟨rfl, hk9⟩; have hS1 := hS.keepB hk9; clear hk9 hS; have hS := hS1; clear hS1)
                | ((with_reducible refine wpList_gloadrow_st (n := 3) 0 hS rfl (by with_unfolding_all rfl) rfl rfl ?_ (by kernel_rfl) rfl rfl ?_); focus (simp [rowB, go_sem]; done))
                | ((with_reducible refine wpList_gload_st 1 hS rfl (by with_unfolding_all rfl) rfl rfl ?_ rfl ?_); focus (simp [scalarB, go_sem]; done))
                | (with_reducible refine wpList_box_st hS rfl rfl rfl ?_; intro g1 w1 hS1; clear hS; replace hS := hS1; clear hS1) | (with_reducible refine wpList_box1_st hS rfl rfl rfl ?_; intro g1 w1 hS1; clear hS; replace hS := hS1; clear hS1) | (with_reducible refine wpList_alloc_st hS rfl rfl (by assumption) ?_; intro g1 w1 hS1; clear hS; replace hS := hS1; clear hS1) | (with_reducible refine wpList_alloc1_st hS rfl rfl (by assumption) rfl ?_; intro g1 w1 hS1; clear hS; replace hS := hS1; clear hS1) | ((with_reducible refine wpList_load_st 0 hS rfl rfl rfl rfl ?_ rfl ?_); focus (simp [scalarB, go_sem]; done)) | ((with_reducible refine wpList_loadall_st 0 hS rfl rfl rfl rfl ?_ (by kernel_rfl) ?_); focus (simp [rowB, go_sem]; done)) | ((with_reducible refine wpList_store_st 0 hS rfl rfl rfl rfl (by kernel_rfl) rfl rfl ?_); intro w1 hS1; clear hS; replace hS := hS1; clear hS1; try simp only [List.set_cons_zero, List.set_cons_succ, List.setIfInBounds_toArray, List.take_succ_cons, List.take_zero, List.drop_succ_cons, List.drop_zero, List.nil_append, List.cons_append, List.append_nil, List.drop_nil, List.take_nil, List.length_cons, List.length_nil, Nat.zero_add, Nat.add_zero, Nat.reduceAdd] at hS) | ((with_reducible refine wpList_storerow_st 0 hS rfl rfl rfl rfl (by kernel_rfl) rfl rfl rfl rfl ?_); intro w1 hS1; clear hS; replace hS := hS1; clear hS1; try simp only [List.set_cons_zero, List.set_cons_succ, List.setIfInBounds_toArray, List.take_succ_cons, List.take_zero, List.drop_succ_cons, List.drop_zero, List.nil_append, List.cons_append, List.append_nil, List.drop_nil, List.take_nil, List.length_cons, List.length_nil, Nat.zero_add, Nat.add_zero, Nat.reduceAdd] at hS))
              go_ret
              exact ⟨by rw [← her.out, hof2.out]; rfl, hS.below⟩
      · obtain rfl : k = 8 := by omega
        go_wp2_with fail
        go_ret
        exact ⟨by rw [← her.out, hr.out]; rfl, hS.below⟩
  · rw [y2] at cL
    replace cL := Lib.hid cL
    go_enter Try.func58, Try.ntmps58
    go_wp2_with (first
      | (go_at_call 85; (with_reducible refine (cC.out _).mono ?_); rintro _ _ ⟨rfl, rfl⟩)
      | (go_at_call 86; (with_reducible refine (cL.out _).mono ?_); rintro _ _ ⟨rfl, rfl⟩)
      | (with_reducible refine wpList_box_st (L := []) hS rfl rfl rfl ?_; intro gp w1 hS1; clear hS; have hS := hS1; clear hS1)
      | ((with_reducible refine wpList_gload_st 0 hS rfl (by with_unfolding_all rfl) rfl rfl ?_ rfl ?_); focus (simp [scalarB, go_sem]; done))
      | ((with_reducible refine wpList_loadrow_st (n := 24) 0 hS rfl rfl rfl rfl ?_ (by kernel_rfl) hg2 hfl ?_); focus (simp [rowB, go_sem]; done)))
    clear y2
    clear cL cC z1 z2 hm1 hlab y1
    go_loopg [33] 8 (fun gk vx wr => ∃ k : Nat, k + gk = 8 ∧ vx = .int .i64 k ∧ Hid (badF m f k = false) ∧ St w [] [Ch.blk gp 40 (Value.int .u32 m :: .int .u32 lab :: flRow f).toArray] wr)
    case atStart => exact ⟨0, Nat.zero_add _, rfl, Lib.hid rfl, hS⟩
    case round =>
      obtain ⟨k, hkn, rfl, hr, hS1⟩ := hrel
      clear hS
      have hS := hS1
      clear hS1
      by_cases hlt : k < 8
      · have hvf : f[k]? = some (f.getD k Vl.zero) := by rw [List.getD_eq_getElem?_getD, List.getElem?_eq_getElem (by omega)]; rfl
        have hnext := badF_next m f k
        have hof := fun h => badF_of (m := m) (f := f) (k := k) (n := 8) hlt h
        rw [hr.out] at hnext
        simp only [Bool.false_or, badAt] at hnext hof
        generalize f.getD k Vl.zero = v at *
        have hix := fl_index f hg k v hvf
        clear hvf
        have cV2 := cV.out v
        have hE := fun W : World => neq_vl v Vl.zero W
        have hz : v.ok = true → (decide (v = Vl.zero) = decide (v.kind = 0)) := by
          intro h
          rw [decide_eq_decide]
          constructor
          · rintro rfl
            rfl
          · intro hk
            obtain ⟨a, b, c⟩ := v
            simp only at hk
            subst hk
            simp only [Vl.ok, if_true, decide_eq_true_eq] at h
            rw [h.1, ba_empty h.2]
            rfl
        have hsh : (bits .and .u32 ((m : Int) / 2 ^ k) 1 == 0) = !m.testBit k := by
          rw [show (m : Int) / 2 ^ k = ((m / 2 ^ k : Nat) : Int) by simp, show (1 : Int) = ((1 : Nat) : Int) by rfl, u32_and_nat (m / 2 ^ k) 1 (Nat.lt_of_le_of_lt (Nat.div_le_self _ _) (by omega)) (by decide), Nat.and_one_is_mod, Nat.testBit_eq_decide_div_mod_eq]
          rcases Nat.mod_two_eq_zero_or_one (m / 2 ^ k) with h | h <;> rw [h] <;> rfl
        cases hok : v.ok with
        | false =>
          rw [hok] at cV2 hof
          clear hz hE hsh hok
          obtain ⟨vk, vn, vs⟩ := v
          simp only [vlRow] at cV2 hix
          replace cV2 := Lib.hid cV2
          replace hof := Lib.hid (hof rfl)
          go_wp2_with (first
            | (go_at_call 87; (with_reducible refine (cV2.out _).mono ?_); rintro _ w9 ⟨rfl, hk9⟩; have hS1 := hS.keepB hk9; clear hk9 hS; have hS := hS1; clear hS1)
            | (with_reducible refine wpList_box_st hS rfl rfl rfl ?_; intro g1 w1 hS1; clear hS; replace hS := hS1; clear hS1) | (with_reducible refine wpList_box1_st hS rfl rfl rfl ?_; intro g1 w1 hS1; clear hS; replace hS := hS1; clear hS1) | (with_reducible refine wpList_alloc_st hS rfl rfl (by assumption) ?_; intro g1 w1 hS1; clear hS; replace hS := hS1; clear hS1) | (with_reducible refine wpList_alloc1_st hS rfl rfl (by assumption) rfl ?_; intro g1 w1 hS1; clear hS; replace hS := hS1; clear hS1) | ((with_reducible refine wpList_load_st 0 hS rfl rfl rfl rfl ?_ rfl ?_); focus (simp [scalarB, go_sem]; done)) | ((with_reducible refine wpList_loadall_st 0 hS rfl rfl rfl rfl ?_ (by kernel_rfl) ?_); focus (simp [rowB, go_sem]; done)) | ((with_reducible refine wpList_store_st 0 hS rfl rfl rfl rfl (by kernel_rfl) rfl rfl ?_); intro w1 hS1; clear hS; replace hS := hS1; clear hS1; try simp only [List.set_cons_zero, List.set_cons_succ, List.setIfInBounds_toArray, List.take_succ_cons, List.take_zero, List.drop_succ_cons, List.drop_zero, List.nil_append, List.cons_append, List.append_nil, List.drop_nil, List.take_nil, List.length_cons, List.length_nil, Nat.zero_add, Nat.add_zero, Nat.reduceAdd] at hS) | ((with_reducible refine wpList_storerow_st 0 hS rfl rfl rfl rfl (by kernel_rfl) rfl rfl rfl rfl ?_); intro w1 hS1; clear hS; replace hS := hS1; clear hS1; try simp only [List.set_cons_zero, List.set_cons_succ, List.setIfInBounds_toArray, List.take_succ_cons, List.take_zero, List.drop_succ_cons, List.drop_zero, List.nil_append, List.cons_append, List.append_nil, List.drop_nil, List.take_nil, List.length_cons, List.length_nil, Nat.zero_add, Nat.add_zero, Nat.reduceAdd] at hS))
          go_ret
          exact ⟨by rw [← her.out, hof.out]; rfl, hS.below⟩
        | true =>
          rw [hok] at cV2 hof hnext
          rw [hz hok] at hE
          have hG := guard_vl
          by_cases hk0 : v.kind = 0
          · rw [decide_eq_true hk0] at hE
            have hnx : badF m f (k + 1) = false := by rw [hnext]; simp [hk0]
            clear hz hsh hok hk0 hof hnext
            obtain ⟨vk, vn, vs⟩ := v
            simp only [vlRow, Vl.zero] at cV2 hix hE
            replace cV2 := Lib.hid cV2
            replace hnx := Lib.hid hnx
            go_wp2_with (first
              | (go_at_call 87; (with_reducible refine (cV2.out _).mono ?_); rintro _ w9 ⟨rfl, hk9⟩; have hS1 := hS.keepB hk9; clear hk9 hS; have hS := hS1; clear hS1)
              | ((with_reducible refine wpList_gloadrow_st (n := 3) 0 hS rfl (by with_unfolding_all rfl) rfl rfl ?_ (by kernel_rfl) rfl rfl ?_); focus (simp [rowB, go_sem]; done))
              | (with_reducible refine wpList_box_st hS rfl rfl rfl ?_; intro g1 w1 hS1; clear hS; replace hS := hS1; clear hS1) | (with_reducible refine wpList_box1_st hS rfl rfl rfl ?_; intro g1 w1 hS1; clear hS; replace hS := hS1; clear hS1) | (with_reducible refine wpList_alloc_st hS rfl rfl (by assumption) ?_; intro g1 w1 hS1; clear hS; replace hS := hS1; clear hS1) | (with_reducible refine wpList_alloc1_st hS rfl rfl (by assumption) rfl ?_; intro g1 w1 hS1; clear hS; replace hS := hS1; clear hS1) | ((with_reducible refine wpList_load_st 0 hS rfl rfl rfl rfl ?_ rfl ?_); focus (simp [scalarB, go_sem]; done)) | ((with_reducible refine wpList_loadall_st 0 hS rfl rfl rfl rfl ?_ (by kernel_rfl) ?_); focus (simp [rowB, go_sem]; done)) | ((with_reducible refine wpList_store_st 0 hS rfl rfl rfl rfl (by kernel_rfl) rfl rfl ?_); intro w1 hS1; clear hS; replace hS := hS1; clear hS1; try simp only [List.set_cons_zero, List.set_cons_succ, List.setIfInBounds_toArray, List.take_succ_cons, List.take_zero, List.drop_succ_cons, List.drop_zero, List.nil_append, List.cons_append, List.append_nil, List.drop_nil, List.take_nil, List.length_cons, List.length_nil, Nat.zero_add, Nat.add_zero, Nat.reduceAdd] at hS) | ((with_reducible refine wpList_storerow_st 0 hS rfl rfl rfl rfl (by kernel_rfl) rfl rfl rfl rfl ?_); intro w1 hS1; clear hS; replace hS := hS1; clear hS1; try simp only [List.set_cons_zero, List.set_cons_succ, List.setIfInBounds_toArray, List.take_succ_cons, List.take_zero, List.drop_succ_cons, List.drop_zero, List.nil_append, List.cons_append, List.append_nil, List.drop_nil, List.take_nil, List.length_cons, List.length_nil, Nat.zero_add, Nat.add_zero, Nat.reduceAdd] at hS))
            go_roundg (8 - (k + 1))
            case measure => omega
            case rel => exact ⟨k + 1, by omega, by go_num, hnx, hS.drop⟩
          · rw [decide_eq_false hk0] at hE
            cases hb : m.testBit k with
            | true =>
              have hnx : badF m f (k + 1) = false := by rw [hnext]; simp [hb]
              rw [hb] at hsh
              clear hz hok hk0 hof hnext hb
              obtain ⟨vk, vn, vs⟩ := v
              simp only [vlRow, Vl.zero] at cV2 hix hE
              replace cV2 := Lib.hid cV2
              replace hnx := Lib.hid hnx
              go_wp2_with (first
                | (go_at_call 87; (with_reducible refine (cV2.out _).mono ?_); rintro _ w9 ⟨rfl, hk9⟩; have hS1 := hS.keepB hk9; clear hk9 hS; have hS := hS1; clear hS1)
                | ((with_reducible refine wpList_gloadrow_st (n := 3) 0 hS rfl (by with_unfolding_all rfl) rfl rfl ?_ (by kernel_rfl) rfl rfl ?_); focus (simp [rowB, go_sem]; done))
                | ((with_reducible refine wpList_gload_st 1 hS rfl (by with_unfolding_all rfl) rfl rfl ?_ rfl ?_); focus (simp [scalarB, go_sem]; done))
                | (with_reducible refine wpList_box_st hS rfl rfl rfl ?_; intro g1 w1 hS1; clear hS; replace hS := hS1; clear hS1) | (with_reducible refine wpList_box1_st hS rfl rfl rfl ?_; intro g1 w1 hS1; clear hS; replace hS := hS1; clear hS1) | (with_reducible refine wpList_alloc_st hS rfl rfl (by assumption) ?_; intro g1 w1 hS1; clear hS; replace hS := hS1; clear hS1) | (with_reducible refine wpList_alloc1_st hS rfl rfl (by assumption) rfl ?_; intro g1 w1 hS1; clear hS; replace hS := hS1; clear hS1) | ((with_reducible refine wpList_load_st 0 hS rfl rfl rfl rfl ?_ rfl ?_); focus (simp [scalarB, go_sem]; done)) | ((with_reducible refine wpList_loadall_st 0 hS rfl rfl rfl rfl ?_ (by kernel_rfl) ?_); focus (simp [rowB, go_sem]; done)) | ((with_reducible refine wpList_store_st 0 hS rfl rfl rfl rfl (by kernel_rfl) rfl rfl ?_); intro w1 hS1; clear hS; replace hS := hS1; clear hS1; try simp only [List.set_cons_zero, List.set_cons_succ, List.setIfInBounds_toArray, List.take_succ_cons, List.take_zero, List.drop_succ_cons, List.drop_zero, List.nil_append, List.cons_append, List.append_nil, List.drop_nil, List.take_nil, List.length_cons, List.length_nil, Nat.zero_add, Nat.add_zero, Nat.reduceAdd] at hS) | ((with_reducible refine wpList_storerow_st 0 hS rfl rfl rfl rfl (by kernel_rfl) rfl rfl rfl rfl ?_); intro w1 hS1; clear hS; replace hS := hS1; clear hS1; try simp only [List.set_cons_zero, List.set_cons_succ, List.setIfInBounds_toArray, List.take_succ_cons, List.take_zero, List.drop_succ_cons, List.drop_zero, List.nil_append, List.cons_append, List.append_nil, List.drop_nil, List.take_nil, List.length_cons, List.length_nil, Nat.zero_add, Nat.add_zero, Nat.reduceAdd] at hS))
              go_roundg (8 - (k + 1))
              case measure => omega
              case rel => exact ⟨k + 1, by omega, by go_num, hnx, hS.drop⟩
            | false =>
              have hof2 : badF m f 8 = true := hof (by simp [hb, hk0])
              rw [hb] at hsh
              clear hz hok hk0 hof hnext hb
              obtain ⟨vk, vn, vs⟩ := v
              simp only [vlRow, Vl.zero] at cV2 hix hE
              replace cV2 := Lib.hid cV2
              replace hof2 := Lib.hid hof2
              go_wp2_with (first
                | (go_at_call 87; (with_reducible refine (cV2.out _).mono ?_); rintro _ w9 ⟨rfl, hk9⟩; have hS1 := hS.keepB hk9; clear hk9 hS; have hS := hS1; clear hS1)
                | ((with_reducible refine wpList_gloadrow_st (n := 3) 0 hS rfl (by with_unfolding_all rfl) rfl rfl ?_ (by kernel_rfl) rfl rfl ?_); focus (simp [rowB, go_sem]; done))
                | ((with_reducible refine wpList_gload_st 1 hS rfl (by with_unfolding_all rfl) rfl rfl ?_ rfl ?_); focus (simp [scalarB, go_sem]; done))
                | (with_reducible refine wpList_box_st hS rfl rfl rfl ?_; intro g1 w1 hS1; clear hS; replace hS := hS1; clear hS1) | (with_reducible refine wpList_box1_st hS rfl rfl rfl ?_; intro g1 w1 hS1; clear hS; replace hS := hS1; clear hS1) | (with_reducible refine wpList_alloc_st hS rfl rfl (by assumption) ?_; intro g1 w1 hS1; clear hS; replace hS := hS1; clear hS1) | (with_reducible refine wpList_alloc1_st hS rfl rfl (by assumption) rfl ?_; intro g1 w1 hS1; clear hS; replace hS := hS1; clear hS1) | ((with_reducible refine wpList_load_st 0 hS rfl rfl rfl rfl ?_ rfl ?_); focus (simp [scalarB, go_sem]; done)) | ((with_reducible refine wpList_loadall_st 0 hS rfl rfl rfl rfl ?_ (by kernel_rfl) ?_); focus (simp [rowB, go_sem]; done)) | ((with_reducible refine wpList_store_st 0 hS rfl rfl rfl rfl (by kernel_rfl) rfl rfl ?_); intro w1 hS1; clear hS; replace hS := hS1; clear hS1; try simp only [List.set_cons_zero, List.set_cons_succ, List.setIfInBounds_toArray, List.take_succ_cons, List.take_zero, List.drop_succ_cons, List.drop_zero, List.nil_append, List.cons_append, List.append_nil, List.drop_nil, List.take_nil, List.length_cons, List.length_nil, Nat.zero_add, Nat.add_zero, Nat.reduceAdd] at hS) | ((with_reducible refine wpList_storerow_st 0 hS rfl rfl rfl rfl (by kernel_rfl) rfl rfl rfl rfl ?_); intro w1 hS1; clear hS; replace hS := hS1; clear hS1; try simp only [List.set_cons_zero, List.set_cons_succ, List.setIfInBounds_toArray, List.take_succ_cons, List.take_zero, List.drop_succ_cons, List.drop_zero, List.nil_append, List.cons_append, List.append_nil, List.drop_nil, List.take_nil, List.length_cons, List.length_nil, Nat.zero_add, Nat.add_zero, Nat.reduceAdd] at hS))
              go_ret
              exact ⟨by rw [← her.out, hof2.out]; rfl, hS.below⟩
      · obtain rfl : k = 8 := by omega
        go_wp2_with fail
        go_ret
        exact ⟨by rw [← her.out, hr.out]; rfl, hS.below⟩

theorem cp_any (p : Pt) (hg : p.f.length = 8) (hmm : p.mask < 4294967296) (hll : p.lab < 4294967296) (w : World) :
    Calls Try.prog 58 #[.agg (ptRow p).toArray] w fun e w' => e = .returned (.int .i64 p.check) ∧ Below w.heap.size w w' := by
  have hS := St.start w
  have cC := fun W : World => mcheck_any p.mask hmm W
  have cL := fun W : World => labels_any p.mask hmm W
  unfold Pt.check
  by_cases h1 : p.mask = 0 ∨ 511 < p.mask
  · rw [if_pos h1]
    obtain ⟨m, lab, f⟩ := p
    simp only [ptRow] at *
    rcases h1 with h1 | h1
    · have z1 : ((m : Int) == 0) = true := by rw [h1]; rfl
      clear cC cL h1
      go_enter Try.func58, Try.ntmps58
      go_wp2_with (first
        | (go_at_call 85; (with_reducible refine (cC.out _).mono ?_); rintro _ _ ⟨rfl, rfl⟩)
        | (go_at_call 86; (with_reducible refine (cL.out _).mono ?_); rintro _ _ ⟨rfl, rfl⟩)
        | (with_reducible refine wpList_box_st (L := []) hS rfl rfl rfl ?_; intro gp w1 hS1; clear hS; have hS := hS1; clear hS1)
        | ((with_reducible refine wpList_gload_st 0 hS rfl (by with_unfolding_all rfl) rfl rfl ?_ rfl ?_); focus (simp [scalarB, go_sem]; done)))
      go_ret
      exact ⟨rfl, hS.below⟩
    · have z1 : ((m : Int) == 0) = false := by rw [beq_eq_false_iff_ne]; omega
      rw [decide_eq_false (by omega)] at cC
      replace cC := Lib.hid cC
      clear cL h1
      go_enter Try.func58, Try.ntmps58
      go_wp2_with (first
        | (go_at_call 85; (with_reducible refine (cC.out _).mono ?_); rintro _ _ ⟨rfl, rfl⟩)
        | (go_at_call 86; (with_reducible refine (cL.out _).mono ?_); rintro _ _ ⟨rfl, rfl⟩)
        | (with_reducible refine wpList_box_st (L := []) hS rfl rfl rfl ?_; intro gp w1 hS1; clear hS; have hS := hS1; clear hS1)
        | ((with_reducible refine wpList_gload_st 0 hS rfl (by with_unfolding_all rfl) rfl rfl ?_ rfl ?_); focus (simp [scalarB, go_sem]; done)))
      go_ret
      exact ⟨rfl, hS.below⟩
  rw [if_neg h1]
  by_cases h2 : 65536 ≤ p.lab ∨ p.lab ≠ 0 ∧ p.mask.testBit 8 = false
  · rw [if_pos h2]
    rw [decide_eq_true (show p.mask ≤ 511 by omega)] at cC
    obtain ⟨m, lab, f⟩ := p
    simp only [ptRow] at *
    have z1 : ((m : Int) == 0) = false := by rw [beq_eq_false_iff_ne]; omega
    replace cC := Lib.hid cC
    by_cases h3 : 65536 ≤ lab
    · have z2 : ((lab : Int) / 65536 != 0) = true := by rw [bne_iff_ne]; omega
      clear cL h1 h2 h3
      go_enter Try.func58, Try.ntmps58
      go_wp2_with (first
        | (go_at_call 85; (with_reducible refine (cC.out _).mono ?_); rintro _ _ ⟨rfl, rfl⟩)
        | (go_at_call 86; (with_reducible refine (cL.out _).mono ?_); rintro _ _ ⟨rfl, rfl⟩)
        | (with_reducible refine wpList_box_st (L := []) hS rfl rfl rfl ?_; intro gp w1 hS1; clear hS; have hS := hS1; clear hS1)
        | ((with_reducible refine wpList_gload_st 0 hS rfl (by with_unfolding_all rfl) rfl rfl ?_ rfl ?_); focus (simp [scalarB, go_sem]; done)))
      go_ret
      exact ⟨rfl, hS.below⟩
    · have z2 : ((lab : Int) / 65536 != 0) = false := by
        have : (lab : Int) / 65536 = 0 := by omega
        rw [this]
        rfl
      obtain ⟨h4, h5⟩ := h2.resolve_left h3
      have z3 : ((lab : Int) != 0) = true := by rw [bne_iff_ne]; omega
      rw [h5] at cL
      replace cL := Lib.hid cL
      clear h1 h2 h3 h4 h5
      go_enter Try.func58, Try.ntmps58
      go_wp2_with (first
        | (go_at_call 85; (with_reducible refine (cC.out _).mono ?_); rintro _ _ ⟨rfl, rfl⟩)
        | (go_at_call 86; (with_reducible refine (cL.out _).mono ?_); rintro _ _ ⟨rfl, rfl⟩)
        | (with_reducible refine wpList_box_st (L := []) hS rfl rfl rfl ?_; intro gp w1 hS1; clear hS; have hS := hS1; clear hS1)
        | ((with_reducible refine wpList_gload_st 0 hS rfl (by with_unfolding_all rfl) rfl rfl ?_ rfl ?_); focus (simp [scalarB, go_sem]; done)))
      go_ret
      exact ⟨rfl, hS.below⟩
  · rw [if_neg h2]
    exact cp_main p hg ⟨by omega, by omega⟩ (by omega) (by
      by_cases h : p.lab = 0
      · exact .inl h
      · right
        cases hb : p.mask.testBit 8 with
        | true => rfl
        | false => exact absurd (.inr ⟨h, hb⟩) h2) w
end Go.Proofs.Ytplgpbbghhlbjaa
end

section
/- Which patches may be: the document's answer. -/
set_option linter.unusedSimpArgs false
set_option linter.unusedVariables false
namespace Go.Proofs.Ytplgpbbghhlbjaa
open Go.RowKit Go.Ofp
set_option linter.unusedVariables false
set_option maxRecDepth 100000
set_option maxHeartbeats 4000000

end Go.Proofs.Ytplgpbbghhlbjaa
end

section
/- Which cards may be. -/
set_option linter.unusedSimpArgs false
set_option linter.unusedVariables false
namespace Go.Proofs.Ytplgpbbghhlbjaa
open Go.RowKit Go.Ofp
set_option linter.unusedVariables false
set_option maxRecDepth 100000
set_option maxHeartbeats 4000000

end Go.Proofs.Ytplgpbbghhlbjaa
end

section
/- Which cards may be: the document's answer. -/
set_option linter.unusedSimpArgs false
set_option linter.unusedVariables false
namespace Go.Proofs.Ytplgpbbghhlbjaa
open Go.RowKit Go.Ofp
set_option linter.unusedVariables false
set_option maxRecDepth 100000
set_option maxHeartbeats 4000000

end Go.Proofs.Ytplgpbbghhlbjaa
end

section
/- What is unlike in cards. -/
set_option linter.unusedSimpArgs false
set_option linter.unusedVariables false
namespace Go.Ofp
end Go.Ofp
namespace Go.Proofs.Ytplgpbbghhlbjaa
open Go.RowKit Go.Ofp
set_option linter.unusedVariables false
set_option maxRecDepth 100000
set_option maxHeartbeats 4000000

end Go.Proofs.Ytplgpbbghhlbjaa
end

section
/- What is unlike in cards: the reference. -/
set_option linter.unusedSimpArgs false
set_option linter.unusedVariables false
namespace Go.Ofp
end Go.Ofp
namespace Go.Proofs.Ytplgpbbghhlbjaa
open Go.RowKit Go.Ofp
set_option linter.unusedVariables false
set_option maxRecDepth 100000
set_option maxHeartbeats 4000000

end Go.Proofs.Ytplgpbbghhlbjaa
end

section
/- Lists of cards that are the same. -/
set_option linter.unusedSimpArgs false
set_option linter.unusedVariables false
namespace Go.Ofp
open Go.RowKit
theorem sl_range {w : World} {g off j n : Nat} {l vs : List Value} (h : Sl w (some ⟨g, off, none⟩) l) (hv : (l.drop j).take n = vs) : w.rangeAt g (off + j) vs := by
  intro k v hk
  rw [← hv, List.getElem?_take] at hk
  split at hk
  · rw [List.getElem?_drop] at hk
    have := h.add (j + k) v hk
    rwa [Addr.add_lit, ← Nat.add_assoc] at this
  · cases hk
/-- A struct or an array out of old memory. -/
theorem wpList_rangerow {P : Program} {w : World} {ops : Array Oper} {rest : List Oper} {o : Oper} {a : Act} {Q : Exit → Act → World → Prop} {g j n : Nat} {vs : List Value} (hc : w.rangeAt g j vs) (hgd : o.guard = none) {t : TypeId} {x : Operand} (ho : o.op = .load t x) (hx : a.eval x = .pointer (some ⟨g, j, none⟩))
    (hu : rowB P t = true) (hsz : sizeB P t n = true) (hl : vs.length = n) (h : wpList P ops Q rest (a.put o.dst (.agg vs.toArray)) w) : wpList P ops Q (o :: rest) a w := by
  refine wpList_plain hgd fun K hK => ?_
  have hr := run_loadrow (P := P) hu hsz hl hc
  unfold Oper.wp execOp
  simp only [ho, hx, Sem.run_bind, hr, Result.andThen_ok, Sem.run_pure]
  exact hK _ _ h
end Go.Ofp
namespace Go.Proofs.Ytplgpbbghhlbjaa
open Go.RowKit Go.Ofp
set_option linter.unusedVariables false
set_option maxRecDepth 100000
set_option maxHeartbeats 4000000

end Go.Proofs.Ytplgpbbghhlbjaa
end

section
/- Writes that wait: plain law. -/
set_option linter.unusedSimpArgs false
set_option linter.unusedVariables false
namespace Go.Ofp
/-- A write that waits. -/
structure Wr where
  id : Int
  base : Int
  p : Pt
deriving DecidableEq
def Wr.isOf (id : Int) (w : Wr) : Bool := decide (w.id = id)
def ofId (l : List Wr) (id : Int) : List Wr := l.filter (Wr.isOf id)
def notId (l : List Wr) (id : Int) : List Wr := l.filter fun w => !w.isOf id
/-- The next version. -/
def nextBase (b : Int) (l : List Wr) : Int := l.foldl (fun _ w => w.base + 1) b
def doneQ (l : List Wr) (ok : Bool) : List Wr × List Wr :=
  match l with
  | [] => ([], [])
  | h :: t => if ok then (t, []) else (notId (h :: t) h.id, ofId (h :: t) h.id)
theorem nextBase_snoc (b : Int) (l : List Wr) (w : Wr) : nextBase b (l ++ [w]) = w.base + 1 := by simp [nextBase]
theorem ofId_snoc (l : List Wr) (w : Wr) (id : Int) : ofId (l ++ [w]) id = ofId l id ++ (if w.id = id then [w] else []) := by
  unfold ofId
  rw [List.filter_append]
  by_cases h : w.id = id
  · rw [if_pos h, List.filter_cons, if_pos (by simp [Wr.isOf, h]), List.filter_nil]
  · rw [if_neg h, List.filter_cons, if_neg (by simp [Wr.isOf, h]), List.filter_nil]
theorem notId_snoc (l : List Wr) (w : Wr) (id : Int) : notId (l ++ [w]) id = notId l id ++ (if w.id = id then [] else [w]) := by
  unfold notId
  rw [List.filter_append]
  by_cases h : w.id = id
  · rw [if_pos h, List.filter_cons, if_neg (by simp [Wr.isOf, h]), List.filter_nil]
  · rw [if_neg h, List.filter_cons, if_pos (by simp [Wr.isOf, h]), List.filter_nil]
end Go.Ofp
namespace Go.Proofs.Ytplgpbbghhlbjaa
open Go.RowKit Go.Ofp
set_option linter.unusedVariables false
set_option maxRecDepth 100000
set_option maxHeartbeats 4000000
def wrRow (q : Wr) : List Value := .int .i64 q.id :: .int .i64 q.base :: ptRow q.p
def qRow (l : List Wr) : List Value := (l.map wrRow).flatten
theorem ptRow_one (p : Pt) : (ptRow p).all Value.oneCell' = true := by
  simp only [ptRow, List.all_cons, fl_one]
  rfl
theorem wrRow_one (q : Wr) : (wrRow q).all Value.oneCell' = true := by
  simp only [wrRow, List.all_cons, ptRow_one]
  rfl
theorem wrRow_len (q : Wr) (h : q.p.f.length = 8) : (wrRow q).length = 28 := by simp [wrRow, ptRow, flRow_length, h]
theorem qRow_all (l : List Wr) (h : ∀ q ∈ l, q.p.f.length = 8) : ∀ r ∈ l.map wrRow, r.length = 28 := by
  intro r hr
  obtain ⟨q, hq, rfl⟩ := List.mem_map.1 hr
  exact wrRow_len q (h q hq)
theorem qRow_len (l : List Wr) (h : ∀ q ∈ l, q.p.f.length = 8) : (qRow l).length = l.length * 28 := by
  rw [qRow, flat_len2 28 _ (qRow_all l h), List.length_map]
theorem qRow_at (l : List Wr) (h : ∀ q ∈ l, q.p.f.length = 8) (k : Nat) (hk : k < l.length) : ((qRow l).drop (k * 28)).take 28 = wrRow l[k] := by
  have := flat_elem 28 _ (qRow_all l h) k (by simpa using hk)
  rwa [List.getElem_map] at this
theorem qRow_snoc (l : List Wr) (q : Wr) : qRow (l ++ [q]) = qRow l ++ wrRow q := by simp [qRow]
theorem elem_wr : Elem Try.prog 46 (.agg #[.int .i64 0, .int .i64 0, .int .u32 0, .int .u32 0, .int .i64 0, .int .i64 0, .string ⟨#[]⟩, .int .i64 0, .int .i64 0, .string ⟨#[]⟩, .int .i64 0, .int .i64 0, .string ⟨#[]⟩, .int .i64 0, .int .i64 0, .string ⟨#[]⟩, .int .i64 0, .int .i64 0, .string ⟨#[]⟩, .int .i64 0, .int .i64 0, .string ⟨#[]⟩, .int .i64 0, .int .i64 0, .string ⟨#[]⟩, .int .i64 0, .int .i64 0, .string ⟨#[]⟩]) 28 280 := Elem.mk (by kernel_rfl) (by rfl) (by decide)
end Go.Proofs.Ytplgpbbghhlbjaa
end
