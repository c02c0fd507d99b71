/- Texts laid together: MapC Repl1 Repl2 Repl3 Repl4. -/
import Derived.Test.YtajldelodnjmoaaM23
import Derived.Test.YtajldelodnjmoaaM5
import Derived.Test.YtajldelodnjmoaaM7
section
/- Maps: cleared; looked at in old memory. -/
set_option linter.unusedSimpArgs false
set_option linter.unusedVariables false
namespace Go.Ofp
open Go.RowKit Go.Maps
section
variable {P : Program} {k : TypeId} {w : World} {b n : Nat} {f : Int → Option Value}
theorem IMap.clear {t e : TypeId} (h : IMap P k w b n f) (ht : P.underlying t = some (.map k e)) (ty : TypeId) :
    ∃ w', (Builtin.clear_ #[t] ty #[.map (some b)]).run P w = .ok (.tuple #[]) w' ∧ IMap P k w' b 0 noM ∧ w.grownBy w' (some b) := by
  obtain ⟨D, ⟨es, clock, hb, F, hs, rfl⟩, hf⟩ := h
  refine ⟨Go.ChangeMaps.setBlock w b (.map #[] clock), ?_, ⟨.map [], ⟨#[], clock, Go.ChangeMaps.heap_setBlock_same hb _, ⟨by simp, MapKept.stamped_empty clock, by simp⟩, Nat.le_refl _, rfl⟩, fun i _ => ⟨rfl, fun v hv => by cases hv⟩⟩, World.mapTurned.grown ⟨es, clock, #[], clock, hb, rfl⟩⟩
  simp [Builtin.clear_, run_underlying ht, MapKept.run_getObj_map hb, MapKept.run_setObj_map _ hb, Result.andThen, Go.ChangeMaps.setBlock]
theorem IMap.below {w' : World} (h : IMap P k w b n f) (hb : Below w.heap.size w w') : IMap P k w' b n f := h.keep (hb.block b h.lt)
end
section
variable {P : Program} {w0 w : World} {F : List Nat} {L : List Ch} {ops : Array Oper} {rest : List Oper} {o : Oper} {a : Act} {Q : Exit → Act → World → Prop} {k : TypeId} {b n : Nat} {f : Int → Option Value}
/-- clear(m). -/
theorem wpList_mapclear_st (i : Nat) (hS : St w0 F L w) (hi : L[i]? = some (Ch.map P k b n f)) (hgd : o.guard = none) {t e : TypeId} {x : Operand} (ho : o.op = .call { callee := .builtin .clear, args := #[x], argTypes := #[t] }) (hx : a.eval x = .map (some b))
    (ht : P.underlying t = some (.map k e))
    (h : ∀ w', St w0 F (L.set i (Ch.map P k b 0 noM)) w' → wpList P ops Q rest (a.put o.dst (.tuple #[])) w') : wpList P ops Q (o :: rest) a w := by
  refine wpList_plain hgd fun K hK => ?_
  obtain ⟨w', hr, h2, h3⟩ := IMap.clear (hS.get i hi) ht o.type
  unfold Oper.wp execOp
  simp only [ho, resolve, invoke, builtin, hx, List.map_toArray, List.map_cons, List.map_nil, Sem.run_bind, Sem.run_pure, hr, Result.andThen_ok]
  exact hK _ _ (h w' (hS.upd i hi (Fr.of_grown h3) (by simp [Ch.map]) h2 (by simp [Ch.map])))
/-- m[i], of a map that lies there. -/
theorem wpList_look_im (hm : IMap P k w b n f) (hgd : o.guard = none) {t e : TypeId} {x y : Operand} (ho : o.op = .lookup t x y false) (hx : a.eval x = .map (some b)) {j : Int} (hy : a.eval y = .int .i64 j)
    (hk : P.underlying k = some (.int .i64)) (ht : P.underlying t = some (.map k e)) {z : Value} (hz : ∀ W, (zeroValue e).run P W = .ok z W) (hj : (Lit.int .i64 j).wf = true)
    (h : wpList P ops Q rest (a.put o.dst ((f j).getD z)) w) : wpList P ops Q (o :: rest) a w := by
  refine wpList_plain hgd fun K hK => ?_
  have hr := hm.look (P := P) hk ht (hz w) hj
  unfold Oper.wp execOp
  simp only [ho, hx, hy, Sem.run_bind, hr, Result.andThen_ok, Sem.run_pure]
  exact hK _ _ h
end
end Go.Ofp
end

section
/- Tokens: the program's and the document's. -/
set_option linter.unusedSimpArgs false
set_option linter.unusedVariables false
namespace Go.Ofp
open Go.RowKit
structure Tk where
  dev : Int
  epoch : Int
  seq : Int
  cur : Int
deriving DecidableEq
def Tk.none : Tk := ⟨0, 0, 0, 0⟩
def Tk.ok (t : Tk) : Bool := decide (0 ≤ t.dev ∧ t.dev < 6 ∧ 1 ≤ t.epoch ∧ t.epoch ≤ 1099511627776 ∧ 0 ≤ t.seq ∧ t.seq ≤ 1099511627776 ∧ 0 ≤ t.cur ∧ t.cur ≤ 1073741824)
def Tk.goes (a b : Tk) : Bool := a.ok && b.ok && decide (a.dev = b.dev ∧ a.epoch = b.epoch ∧ a.seq ≤ b.seq ∧ a.cur ≤ b.cur)
def tkL (t : Tk) : List Int := [t.dev, t.epoch, t.seq, t.cur]
def tkTop : List Int := [5, 1099511627776, 1099511627776, 1073741824]
theorem tk_bad (t : Tk) (j : Nat) (z top : Int) (h1 : (tkL t)[j]? = some z) (h2 : tkTop[j]? = some top) (h : ¬ (0 ≤ z ∧ z ≤ top)) : t.ok = false := by
  unfold Tk.ok
  rw [decide_eq_false_iff_not]
  intro hh
  match j with
  | 0 => simp [tkL, tkTop] at h1 h2; omega
  | 1 => simp [tkL, tkTop] at h1 h2; omega
  | 2 => simp [tkL, tkTop] at h1 h2; omega
  | 3 => simp [tkL, tkTop] at h1 h2; omega
  | j + 4 => simp [tkL] at h1
theorem tk_good (t : Tk) (h : ∀ j z top, j < 4 → (tkL t)[j]? = some z → tkTop[j]? = some top → 0 ≤ z ∧ z ≤ top) : t.ok = decide (0 < t.epoch) := by
  have h0 := h 0 _ _ (by decide) rfl rfl
  have h1 := h 1 _ _ (by decide) rfl rfl
  have h2 := h 2 _ _ (by decide) rfl rfl
  have h3 := h 3 _ _ (by decide) rfl rfl
  unfold Tk.ok
  exact decide_eq_decide.2 ⟨fun h => by omega, fun h => ⟨by omega, by omega, by omega, by omega, by omega, by omega, by omega, by omega⟩⟩
end Go.Ofp
namespace Go.Proofs.Ytajldelodnjmoaa
open Go.RowKit Go.Ofp
set_option linter.unusedVariables false
set_option maxRecDepth 100000
set_option maxHeartbeats 4000000
def tkRow (t : Tk) : List Value := [.int .i64 t.dev, .int .i64 t.epoch, .int .i64 t.seq, .int .i64 t.cur]
theorem elem_tk : Elem Try.prog 64 (.agg #[.int .i64 0, .int .i64 0, .int .i64 0, .int .i64 0]) 4 32 := Elem.mk (by kernel_rfl) (by rfl) (by decide)
theorem elem_a4 : Elem Try.prog 109 (.agg #[.int .i64 0, .int .i64 0, .int .i64 0, .int .i64 0]) 4 32 := Elem.mk (by kernel_rfl) (by rfl) (by decide)

theorem eq_tk (d : Nat) (p q : Tk) (w : World) : (Op.equalIn (d + 5) 64 (.agg (tkRow p).toArray) (.agg (tkRow q).toArray)).run Try.prog w = .ok (decide (p = q)) w := by
  have hp : Try.prog.stoodInHeld 64 = false := by kernel_rfl
  have hff := fields_of Try.underlying64
  have hu : Try.prog.underlying 64 = some (.struct (Try.prog.fieldsOf 64)) := by rw [hff, Try.underlying64]
  rw [run_equalIn_struct w (d + 4) _ _ _ hu hp, hff]
  obtain ⟨a1, a2, a3, a4⟩ := p
  obtain ⟨b1, b2, b3, b4⟩ := q
  have h3 := Try.underlying3
  have e1 : ∀ x y : Int, (Op.equalIn (d + 4) 3 (.int .i64 x) (.int .i64 y)).run Try.prog w = .ok (x == y) w := fun x y => by simp [Op.equalIn, run_underlying h3]
  have p1 := part_i (tkRow ⟨a1, a2, a3, a4⟩) 0 a1 rfl w
  have p2 := part_i (tkRow ⟨a1, a2, a3, a4⟩) 1 a2 rfl w
  have p3 := part_i (tkRow ⟨a1, a2, a3, a4⟩) 2 a3 rfl w
  have p4 := part_i (tkRow ⟨a1, a2, a3, a4⟩) 3 a4 rfl w
  have q1 := part_i (tkRow ⟨b1, b2, b3, b4⟩) 0 b1 rfl w
  have q2 := part_i (tkRow ⟨b1, b2, b3, b4⟩) 1 b2 rfl w
  have q3 := part_i (tkRow ⟨b1, b2, b3, b4⟩) 2 b3 rfl w
  have q4 := part_i (tkRow ⟨b1, b2, b3, b4⟩) 3 b4 rfl w
  generalize tkRow ⟨a1, a2, a3, a4⟩ = A at *
  generalize tkRow ⟨b1, b2, b3, b4⟩ = B at *
  simp only [Op.eqFields, ne_eq, String.reduceEq, not_false_eq_true, if_true, Sem.run_bind, p1, q1, e1, Result.andThen_ok]
  by_cases k1 : a1 = b1
  · subst k1
    by_cases k2 : a2 = b2
    · subst k2
      by_cases k3 : a3 = b3
      · subst k3
        by_cases k4 : a4 = b4
        · subst k4
          simp [p2, p3, p4, q2, q3, q4, e1]
        · simp [p2, p3, p4, q2, q3, q4, e1, k4]
      · simp [p2, p3, q2, q3, e1, k3]
    · simp [p2, q2, e1, k2]
  · simp [k1]
theorem eql_tk (p q : Tk) (w : World) : (binOp .eql 64 (.agg (tkRow p).toArray) (.agg (tkRow q).toArray)).run Try.prog w = .ok (.bool (decide (p = q))) w := by
  rw [run_eql_struct, eq_tk 9995 p q w]
  rfl
theorem neq_tk (p q : Tk) (w : World) : (binOp .neq 64 (.agg (tkRow p).toArray) (.agg (tkRow q).toArray)).run Try.prog w = .ok (.bool (!decide (p = q))) w := by
  rw [run_neq_struct, eq_tk 9995 p q w]
  rfl
theorem guard_tk (op : BinOp) (x y : Operand) (xs ys : Array Value) (w : World) : (eqGuard op 64 x y (.agg xs) (.agg ys)).run Try.prog w = .ok () w :=
  run_eqGuard_agg w op _ x y xs ys (by kernel_rfl)

theorem parts_any (t : Tk) (w : World) : Calls Try.prog 78 #[.agg (tkRow t).toArray] w fun e w' => e = .returned (.agg ((tkL t).map vi).toArray) ∧ Below w.heap.size w w' := by
  have hS := St.start w
  have ea := elem_a4
  obtain ⟨dev, epoch, seq, cur⟩ := t
  have h1 : tkRow ⟨dev, epoch, seq, cur⟩ = [.int .i64 dev, .int .i64 epoch, .int .i64 seq, .int .i64 cur] := rfl
  have h2 : (tkL ⟨dev, epoch, seq, cur⟩).map vi = [.int .i64 dev, .int .i64 epoch, .int .i64 seq, .int .i64 cur] := rfl
  rw [h1, h2]
  clear h1 h2
  go_enter Try.func78, Try.ntmps78
  go_wp2_with (first | (with_reducible refine wpList_box_st hS rfl rfl rfl ?_; intro g1 w1 hS1; clear hS; replace hS := hS1; clear hS1) | (with_reducible refine wpList_box1_st hS rfl rfl rfl ?_; intro g1 w1 hS1; clear hS; replace hS := hS1; clear hS1) | (with_reducible refine wpList_alloc_st hS rfl rfl (by assumption) ?_; intro g1 w1 hS1; clear hS; replace hS := hS1; clear hS1) | (with_reducible refine wpList_alloc1_st hS rfl rfl (by assumption) rfl ?_; intro g1 w1 hS1; clear hS; replace hS := hS1; clear hS1) | ((with_reducible refine wpList_load_st 0 hS rfl rfl rfl rfl ?_ rfl ?_); focus (simp [scalarB, go_sem]; done)) | ((with_reducible refine wpList_loadall_st 0 hS rfl rfl rfl rfl ?_ (by kernel_rfl) ?_); focus (simp [rowB, go_sem]; done)) | ((with_reducible refine wpList_store_st 0 hS rfl rfl rfl rfl (by kernel_rfl) rfl rfl ?_); intro w1 hS1; clear hS; replace hS := hS1; clear hS1; try simp only [List.set_cons_zero, List.set_cons_succ, List.setIfInBounds_toArray, List.take_succ_cons, List.take_zero, List.drop_succ_cons, List.drop_zero, List.nil_append, List.cons_append, List.append_nil, List.drop_nil, List.take_nil, List.length_cons, List.length_nil, Nat.zero_add, Nat.add_zero, Nat.reduceAdd] at hS) | ((with_reducible refine wpList_storerow_st 0 hS rfl rfl rfl rfl (by kernel_rfl) rfl rfl rfl rfl ?_); intro w1 hS1; clear hS; replace hS := hS1; clear hS1; try simp only [List.set_cons_zero, List.set_cons_succ, List.setIfInBounds_toArray, List.take_succ_cons, List.take_zero, List.drop_succ_cons, List.drop_zero, List.nil_append, List.cons_append, List.append_nil, List.drop_nil, List.take_nil, List.length_cons, List.length_nil, Nat.zero_add, Nat.add_zero, Nat.reduceAdd] at hS) | ((with_reducible refine wpList_load_st 1 hS rfl rfl rfl rfl ?_ rfl ?_); focus (simp [scalarB, go_sem]; done)) | ((with_reducible refine wpList_loadall_st 1 hS rfl rfl rfl rfl ?_ (by kernel_rfl) ?_); focus (simp [rowB, go_sem]; done)) | ((with_reducible refine wpList_store_st 1 hS rfl rfl rfl rfl (by kernel_rfl) rfl rfl ?_); intro w1 hS1; clear hS; replace hS := hS1; clear hS1; try simp only [List.set_cons_zero, List.set_cons_succ, List.setIfInBounds_toArray, List.take_succ_cons, List.take_zero, List.drop_succ_cons, List.drop_zero, List.nil_append, List.cons_append, List.append_nil, List.drop_nil, List.take_nil, List.length_cons, List.length_nil, Nat.zero_add, Nat.add_zero, Nat.reduceAdd] at hS) | ((with_reducible refine wpList_storerow_st 1 hS rfl rfl rfl rfl (by kernel_rfl) rfl rfl rfl rfl ?_); intro w1 hS1; clear hS; replace hS := hS1; clear hS1; try simp only [List.set_cons_zero, List.set_cons_succ, List.setIfInBounds_toArray, List.take_succ_cons, List.take_zero, List.drop_succ_cons, List.drop_zero, List.nil_append, List.cons_append, List.append_nil, List.drop_nil, List.take_nil, List.length_cons, List.length_nil, Nat.zero_add, Nat.add_zero, Nat.reduceAdd] at hS))
  exact bodyPost_ret (v := .agg #[.int .i64 dev, .int .i64 epoch, .int .i64 seq, .int .i64 cur]) (results_blk Try.results78 rfl hS 0 rfl (by kernel_rfl) (by kernel_rfl)) rfl ⟨rfl, hS.below⟩
theorem topmost_any (w : World) : Calls Try.prog 79 #[] w fun e w' => e = .returned (.agg (tkTop.map vi).toArray) ∧ Below w.heap.size w w' := by
  have hS := St.start w
  have ea := elem_a4
  go_enter Try.func79, Try.ntmps79
  go_wp2_with (first | (with_reducible refine wpList_box_st hS rfl rfl rfl ?_; intro g1 w1 hS1; clear hS; replace hS := hS1; clear hS1) | (with_reducible refine wpList_box1_st hS rfl rfl rfl ?_; intro g1 w1 hS1; clear hS; replace hS := hS1; clear hS1) | (with_reducible refine wpList_alloc_st hS rfl rfl (by assumption) ?_; intro g1 w1 hS1; clear hS; replace hS := hS1; clear hS1) | (with_reducible refine wpList_alloc1_st hS rfl rfl (by assumption) rfl ?_; intro g1 w1 hS1; clear hS; replace hS := hS1; clear hS1) | ((with_reducible refine wpList_load_st 0 hS rfl rfl rfl rfl ?_ rfl ?_); focus (simp [scalarB, go_sem]; done)) | ((with_reducible refine wpList_loadall_st 0 hS rfl rfl rfl rfl ?_ (by kernel_rfl) ?_); focus (simp [rowB, go_sem]; done)) | ((with_reducible refine wpList_store_st 0 hS rfl rfl rfl rfl (by kernel_rfl) rfl rfl ?_); intro w1 hS1; clear hS; replace hS := hS1; clear hS1; try simp only [List.set_cons_zero, List.set_cons_succ, List.setIfInBounds_toArray, List.take_succ_cons, List.take_zero, List.drop_succ_cons, List.drop_zero, List.nil_append, List.cons_append, List.append_nil, List.drop_nil, List.take_nil, List.length_cons, List.length_nil, Nat.zero_add, Nat.add_zero, Nat.reduceAdd] at hS) | ((with_reducible refine wpList_storerow_st 0 hS rfl rfl rfl rfl (by kernel_rfl) rfl rfl rfl rfl ?_); intro w1 hS1; clear hS; replace hS := hS1; clear hS1; try simp only [List.set_cons_zero, List.set_cons_succ, List.setIfInBounds_toArray, List.take_succ_cons, List.take_zero, List.drop_succ_cons, List.drop_zero, List.nil_append, List.cons_append, List.append_nil, List.drop_nil, List.take_nil, List.length_cons, List.length_nil, Nat.zero_add, Nat.add_zero, Nat.reduceAdd] at hS))
  exact bodyPost_ret (v := .agg (tkTop.map vi).toArray) (results_blk Try.results79 rfl hS 0 rfl (by kernel_rfl) (by kernel_rfl)) rfl ⟨rfl, hS.below⟩
theorem first26_any (dev epoch seq : Int) (w : World) : Calls Try.prog 64 #[.int .i64 dev, .int .i64 epoch, .int .i64 seq] w fun e w' => e = .returned (.agg (tkRow ⟨dev, epoch, seq, 0⟩).toArray) ∧ Below w.heap.size w w' := by
  have hS := St.start w
  have ea := elem_tk
  have h1 : tkRow ⟨dev, epoch, seq, 0⟩ = [.int .i64 dev, .int .i64 epoch, .int .i64 seq, .int .i64 0] := rfl
  rw [h1]
  clear h1
  go_enter Try.func64, Try.ntmps64
  go_wp2_with (first | (with_reducible refine wpList_box_st hS rfl rfl rfl ?_; intro g1 w1 hS1; clear hS; replace hS := hS1; clear hS1) | (with_reducible refine wpList_box1_st hS rfl rfl rfl ?_; intro g1 w1 hS1; clear hS; replace hS := hS1; clear hS1) | (with_reducible refine wpList_alloc_st hS rfl rfl (by assumption) ?_; intro g1 w1 hS1; clear hS; replace hS := hS1; clear hS1) | (with_reducible refine wpList_alloc1_st hS rfl rfl (by assumption) rfl ?_; intro g1 w1 hS1; clear hS; replace hS := hS1; clear hS1) | ((with_reducible refine wpList_load_st 0 hS rfl rfl rfl rfl ?_ rfl ?_); focus (simp [scalarB, go_sem]; done)) | ((with_reducible refine wpList_loadall_st 0 hS rfl rfl rfl rfl ?_ (by kernel_rfl) ?_); focus (simp [rowB, go_sem]; done)) | ((with_reducible refine wpList_store_st 0 hS rfl rfl rfl rfl (by kernel_rfl) rfl rfl ?_); intro w1 hS1; clear hS; replace hS := hS1; clear hS1; try simp only [List.set_cons_zero, List.set_cons_succ, List.setIfInBounds_toArray, List.take_succ_cons, List.take_zero, List.drop_succ_cons, List.drop_zero, List.nil_append, List.cons_append, List.append_nil, List.drop_nil, List.take_nil, List.length_cons, List.length_nil, Nat.zero_add, Nat.add_zero, Nat.reduceAdd] at hS) | ((with_reducible refine wpList_storerow_st 0 hS rfl rfl rfl rfl (by kernel_rfl) rfl rfl rfl rfl ?_); intro w1 hS1; clear hS; replace hS := hS1; clear hS1; try simp only [List.set_cons_zero, List.set_cons_succ, List.setIfInBounds_toArray, List.take_succ_cons, List.take_zero, List.drop_succ_cons, List.drop_zero, List.nil_append, List.cons_append, List.append_nil, List.drop_nil, List.take_nil, List.length_cons, List.length_nil, Nat.zero_add, Nat.add_zero, Nat.reduceAdd] at hS))
  exact bodyPost_ret (v := .agg #[.int .i64 dev, .int .i64 epoch, .int .i64 seq, .int .i64 0]) (results_blk Try.results64 rfl hS 0 rfl (by kernel_rfl) (by kernel_rfl)) rfl ⟨rfl, hS.below⟩

theorem tcheck26_any (t : Tk) (w : World) : Calls Try.prog 65 #[.agg (tkRow t).toArray] w fun e w' => e = .returned (.bool t.ok) ∧ Below w.heap.size w w' := by
  have hS := St.start w
  have ea := elem_a4
  have cP := Lib.hid fun W : World => parts_any t W
  have cM := Lib.hid fun W : World => topmost_any W
  have hbad := Lib.hid fun j z top h1 h2 h => tk_bad t j z top h1 h2 h
  have hgood := Lib.hid (tk_good t)
  have hl4 : ((tkL t).map vi).length = 4 := rfl
  have ht4 : (tkTop.map vi).length = 4 := rfl
  have ho4 : ((tkL t).map vi).all Value.oneCell' = true := rfl
  have hp4 : (tkTop.map vi).all Value.oneCell' = true := rfl
  have hrl : (tkRow t).length = 4 := rfl
  have hrs : sizeB Try.prog 64 (tkRow t).toArray.size = true := by kernel_rfl
  have hep : tkRow t = [.int .i64 t.dev, .int .i64 t.epoch, .int .i64 t.seq, .int .i64 t.cur] := rfl
  have hz := fun j (hj : j < 4) => show ∃ z, (tkL t)[j]? = some z ∧ ((tkL t).map vi).toArray[j]? = some (.int .i64 z) from by
    refine ⟨(tkL t)[j]'hj, List.getElem?_eq_getElem hj, ?_⟩
    have h := List.getElem?_eq_getElem (show j < (tkL t).length from hj)
    simp [vi, h]
    rfl
  have hy := fun j (hj : j < 4) => show ∃ z, tkTop[j]? = some z ∧ (tkTop.map vi).toArray[j]? = some (.int .i64 z) from by
    refine ⟨tkTop[j]'hj, List.getElem?_eq_getElem hj, ?_⟩
    have h := List.getElem?_eq_getElem (show j < tkTop.length from hj)
    simp [vi, h]
    rfl
  replace hz := Lib.hid hz
  replace hy := Lib.hid hy
  generalize ((tkL t).map vi) = PL at *
  generalize (tkTop.map vi) = TL at *
  obtain ⟨R, hR⟩ : ∃ R, t.ok = R := ⟨_, rfl⟩
  rw [hR]
  replace hR := Lib.hid hR
  rw [hep] at hrs ⊢
  rw [hep] at cP
  clear hep hrl
  go_enter Try.func65, Try.ntmps65
  go_wp2_with (first
    | (go_at_call 78; (with_reducible refine (cP.out _).mono ?_); rintro _ w3 ⟨rfl, hk9⟩; have hS1 := hS.keepB hk9; clear hk9 hS; have hS := hS1; clear hS1)
    | (go_at_call 79; (with_reducible refine (cM.out _).mono ?_); rintro _ w3 ⟨rfl, hk9⟩; have hS1 := hS.keepB hk9; clear hk9 hS; have hS := hS1; clear hS1)
    | (with_reducible refine wpList_alloc_st (L := [_]) hS rfl rfl ea ?_; intro gA w1 hS1; clear hS; have hS := hS1; clear hS1)
    | (with_reducible refine wpList_alloc_st (L := [_, _]) hS rfl rfl ea ?_; intro gB w1 hS1; clear hS; have hS := hS1; clear hS1)
    | ((with_reducible refine wpList_storerow_st (n := 4) (vs := PL) 1 hS rfl rfl rfl rfl (by kernel_rfl) rfl hl4 ho4 (by kernel_rfl) ?_); intro w1 hS1; clear hS; have hS := hS1; clear hS1; try simp only [List.set_cons_zero, List.set_cons_succ, List.setIfInBounds_toArray, List.take_succ_cons, List.take_zero, List.drop_succ_cons, List.drop_zero, List.nil_append, List.cons_append, List.append_nil, List.drop_nil, List.take_nil, List.length_cons, List.length_nil, Nat.zero_add, Nat.add_zero, Nat.reduceAdd] at hS)
    | ((with_reducible refine wpList_storerow_st (n := 4) (vs := TL) 0 hS rfl rfl rfl rfl (by kernel_rfl) rfl ht4 hp4 (by kernel_rfl) ?_); intro w1 hS1; clear hS; have hS := hS1; clear hS1; try simp only [List.set_cons_zero, List.set_cons_succ, List.setIfInBounds_toArray, List.take_succ_cons, List.take_zero, List.drop_succ_cons, List.drop_zero, List.nil_append, List.cons_append, List.append_nil, List.drop_nil, List.take_nil, List.length_cons, List.length_nil, Nat.zero_add, Nat.add_zero, Nat.reduceAdd] at hS)
    | (with_reducible refine wpList_box_st hS rfl rfl rfl ?_; intro g1 w1 hS1; clear hS; replace hS := hS1; clear hS1) | (with_reducible refine wpList_box1_st hS rfl rfl rfl ?_; intro g1 w1 hS1; clear hS; replace hS := hS1; clear hS1) | (with_reducible refine wpList_alloc_st hS rfl rfl (by assumption) ?_; intro g1 w1 hS1; clear hS; replace hS := hS1; clear hS1) | (with_reducible refine wpList_alloc1_st hS rfl rfl (by assumption) rfl ?_; intro g1 w1 hS1; clear hS; replace hS := hS1; clear hS1) | ((with_reducible refine wpList_load_st 0 hS rfl rfl rfl rfl ?_ rfl ?_); focus (simp [scalarB, go_sem]; done)) | ((with_reducible refine wpList_loadall_st 0 hS rfl rfl rfl rfl ?_ (by kernel_rfl) ?_); focus (simp [rowB, go_sem]; done)) | ((with_reducible refine wpList_store_st 0 hS rfl rfl rfl rfl (by kernel_rfl) rfl rfl ?_); intro w1 hS1; clear hS; replace hS := hS1; clear hS1; try simp only [List.set_cons_zero, List.set_cons_succ, List.setIfInBounds_toArray, List.take_succ_cons, List.take_zero, List.drop_succ_cons, List.drop_zero, List.nil_append, List.cons_append, List.append_nil, List.drop_nil, List.take_nil, List.length_cons, List.length_nil, Nat.zero_add, Nat.add_zero, Nat.reduceAdd] at hS) | ((with_reducible refine wpList_storerow_st 0 hS rfl rfl rfl rfl (by kernel_rfl) rfl rfl rfl rfl ?_); intro w1 hS1; clear hS; replace hS := hS1; clear hS1; try simp only [List.set_cons_zero, List.set_cons_succ, List.setIfInBounds_toArray, List.take_succ_cons, List.take_zero, List.drop_succ_cons, List.drop_zero, List.nil_append, List.cons_append, List.append_nil, List.drop_nil, List.take_nil, List.length_cons, List.length_nil, Nat.zero_add, Nat.add_zero, Nat.reduceAdd] at hS))
  go_loopg [9] 4 (fun gk vx wr => ∃ j : Nat, j + gk = 4 ∧ vx = .int .i64 j ∧ Hid (∀ i z top, i < j → (tkL t)[i]? = some z → tkTop[i]? = some top → 0 ≤ z ∧ z ≤ top) ∧ St w [] [Ch.blk gB 109 TL.toArray, Ch.blk gA 109 PL.toArray, Ch.blk g1 64 #[.int .i64 t.dev, .int .i64 t.epoch, .int .i64 t.seq, .int .i64 t.cur]] wr)
  case atStart => exact ⟨0, Nat.zero_add _, rfl, Lib.hid (fun i z top h => absurd h (Nat.not_lt_zero i)), hS⟩
  case round =>
    clear hS
    obtain ⟨j, hj, rfl, hg, hS⟩ := hrel
    by_cases hlt : j < 4
    · obtain ⟨z, z1, z2⟩ := hz.out j hlt
      obtain ⟨y, y1, y2⟩ := hy.out j hlt
      have dj : decide ((j : Int) < 4) = true := decide_eq_true (by omega)
      have dji : (j : Int) < 4 := by omega
      have k1 := hS.kcell 1 rfl j z2
      have k2 := hS.kcell 0 rfl j y2
      clear z2 y2
      by_cases h1 : z < 0
      · have hRf := Lib.hid (show R = false from hR.out.symm.trans (hbad.out j z y z1 y1 (by omega)))
        have d1 : decide (z < 0) = true := decide_eq_true h1
        clear h1 z1 y1
        go_wp2_with fail
        refine mixs_begin (by kernel_rfl) hS ?_
        clear hS
        intro w2 hS
        refine mixs_take 0 (v := ?_) rfl (by kernel_rfl) (fun _ _ _ h => h) (by kernel_rfl) (by assumption) (fun s => ?hy) ?_; case hy => (go_simp <;> with_reducible rfl)
        try simp only [List.getElem_toArray, List.getElem_cons_succ, List.getElem_cons_zero, Act.put, List.setIfInBounds_toArray, List.set_cons_zero, List.set_cons_succ]
        refine mixs_take 1 (v := ?_) rfl (by kernel_rfl) (fun _ _ _ h => h) (by kernel_rfl) (by assumption) (fun s => ?hy) ?_; case hy => (go_simp <;> with_reducible rfl)
        try simp only [List.getElem_toArray, List.getElem_cons_succ, List.getElem_cons_zero, Act.put, List.setIfInBounds_toArray, List.set_cons_zero, List.set_cons_succ]
        refine mixs_take 2 (v := ?_) rfl (by kernel_rfl) (fun _ _ _ h => h) (by kernel_rfl) (by assumption) (fun s => ?hy) ?_; case hy => (go_simp <;> with_reducible rfl)
        try simp only [List.getElem_toArray, List.getElem_cons_succ, List.getElem_cons_zero, Act.put, List.setIfInBounds_toArray, List.set_cons_zero, List.set_cons_succ]
        refine mixs_take 3 (v := ?_) rfl (by kernel_rfl) (fun _ _ _ h => h) (by kernel_rfl) (by assumption) (fun s => ?hy) ?_; case hy => (go_simp <;> with_reducible rfl)
        try simp only [List.getElem_toArray, List.getElem_cons_succ, List.getElem_cons_zero, Act.put, List.setIfInBounds_toArray, List.set_cons_zero, List.set_cons_succ]
        refine mixs_take 4 (v := ?_) rfl (by kernel_rfl) (fun _ _ _ h => h) (by kernel_rfl) (by assumption) (fun s => ?hy) ?_; case hy => (go_simp <;> with_reducible rfl)
        try simp only [List.getElem_toArray, List.getElem_cons_succ, List.getElem_cons_zero, Act.put, List.setIfInBounds_toArray, List.set_cons_zero, List.set_cons_succ]
        refine mixs_skip 5 rfl (by kernel_rfl) (fun _ _ _ h => h) (by kernel_rfl) (by assumption) ?_
        try simp only [List.getElem_toArray, List.getElem_cons_succ, List.getElem_cons_zero, Act.put, List.setIfInBounds_toArray, List.set_cons_zero, List.set_cons_succ]
        refine mixs_skip 6 rfl (by kernel_rfl) (fun _ _ _ h => h) (by kernel_rfl) (by assumption) ?_
        try simp only [List.getElem_toArray, List.getElem_cons_succ, List.getElem_cons_zero, Act.put, List.setIfInBounds_toArray, List.set_cons_zero, List.set_cons_succ]
        refine mixs_skip 7 rfl (by kernel_rfl) (fun _ _ _ h => h) (by kernel_rfl) (by assumption) ?_
        try simp only [List.getElem_toArray, List.getElem_cons_succ, List.getElem_cons_zero, Act.put, List.setIfInBounds_toArray, List.set_cons_zero, List.set_cons_succ]
        refine mixs_skip 8 rfl (by kernel_rfl) (fun _ _ _ h => h) (by kernel_rfl) (by assumption) ?_
        try simp only [List.getElem_toArray, List.getElem_cons_succ, List.getElem_cons_zero, Act.put, List.setIfInBounds_toArray, List.set_cons_zero, List.set_cons_succ]
        refine mixs_skip 9 rfl (by kernel_rfl) (fun _ _ _ h => h) (by kernel_rfl) (by assumption) ?_
        try simp only [List.getElem_toArray, List.getElem_cons_succ, List.getElem_cons_zero, Act.put, List.setIfInBounds_toArray, List.set_cons_zero, List.set_cons_succ]
        refine mixs_skip 10 rfl (by kernel_rfl) (fun _ _ _ h => h) (by kernel_rfl) (by assumption) ?_
        try simp only [List.getElem_toArray, List.getElem_cons_succ, List.getElem_cons_zero, Act.put, List.setIfInBounds_toArray, List.set_cons_zero, List.set_cons_succ]
        refine mixs_skip 11 rfl (by kernel_rfl) (fun _ _ _ h => h) (by kernel_rfl) (by assumption) ?_
        try simp only [List.getElem_toArray, List.getElem_cons_succ, List.getElem_cons_zero, Act.put, List.setIfInBounds_toArray, List.set_cons_zero, List.set_cons_succ]
        refine mixs_take 12 (v := ?_) rfl (by kernel_rfl) (fun _ _ _ h => h) (by kernel_rfl) (by assumption) (fun s => ?hy) ?_; case hy => (go_simp <;> with_reducible rfl)
        try simp only [List.getElem_toArray, List.getElem_cons_succ, List.getElem_cons_zero, Act.put, List.setIfInBounds_toArray, List.set_cons_zero, List.set_cons_succ]
        refine wpAnyH_done (by kernel_rfl) ?_ _
        clear k1 k2
        go_wp2_with fail
        go_ret
        exact ⟨by rw [hRf.out]; rfl, hS.below⟩
      have d1 : decide (z < 0) = false := decide_eq_false h1
      by_cases h2 : y < z
      · have hRf := Lib.hid (show R = false from hR.out.symm.trans (hbad.out j z y z1 y1 (by omega)))
        have d2 : decide (y < z) = true := decide_eq_true h2
        clear h1 h2 z1 y1
        go_wp2_with fail
        refine mixs_begin (by kernel_rfl) hS ?_
        clear hS
        intro w2 hS
        refine mixs_take 0 (v := ?_) rfl (by kernel_rfl) (fun _ _ _ h => h) (by kernel_rfl) (by assumption) (fun s => ?hy) ?_; case hy => (go_simp <;> with_reducible rfl)
        try simp only [List.getElem_toArray, List.getElem_cons_succ, List.getElem_cons_zero, Act.put, List.setIfInBounds_toArray, List.set_cons_zero, List.set_cons_succ]
        refine mixs_take 1 (v := ?_) rfl (by kernel_rfl) (fun _ _ _ h => h) (by kernel_rfl) (by assumption) (fun s => ?hy) ?_; case hy => (go_simp <;> with_reducible rfl)
        try simp only [List.getElem_toArray, List.getElem_cons_succ, List.getElem_cons_zero, Act.put, List.setIfInBounds_toArray, List.set_cons_zero, List.set_cons_succ]
        refine mixs_take 2 (v := ?_) rfl (by kernel_rfl) (fun _ _ _ h => h) (by kernel_rfl) (by assumption) (fun s => ?hy) ?_; case hy => (go_simp <;> with_reducible rfl)
        try simp only [List.getElem_toArray, List.getElem_cons_succ, List.getElem_cons_zero, Act.put, List.setIfInBounds_toArray, List.set_cons_zero, List.set_cons_succ]
        refine mixs_take 3 (v := ?_) rfl (by kernel_rfl) (fun _ _ _ h => h) (by kernel_rfl) (by assumption) (fun s => ?hy) ?_; case hy => (go_simp <;> with_reducible rfl)
        try simp only [List.getElem_toArray, List.getElem_cons_succ, List.getElem_cons_zero, Act.put, List.setIfInBounds_toArray, List.set_cons_zero, List.set_cons_succ]
        refine mixs_take 4 (v := ?_) rfl (by kernel_rfl) (fun _ _ _ h => h) (by kernel_rfl) (by assumption) (fun s => ?hy) ?_; case hy => (go_simp <;> with_reducible rfl)
        try simp only [List.getElem_toArray, List.getElem_cons_succ, List.getElem_cons_zero, Act.put, List.setIfInBounds_toArray, List.set_cons_zero, List.set_cons_succ]
        refine mixs_take 5 (v := ?_) rfl (by kernel_rfl) (fun _ _ _ h => h) (by kernel_rfl) (by assumption) (fun s => ?hy) ?_; case hy => (go_simp <;> with_reducible rfl)
        try simp only [List.getElem_toArray, List.getElem_cons_succ, List.getElem_cons_zero, Act.put, List.setIfInBounds_toArray, List.set_cons_zero, List.set_cons_succ]
        refine mixs_take 6 (v := ?_) rfl (by kernel_rfl) (fun _ _ _ h => h) (by kernel_rfl) (by assumption) (fun s => ?hy) ?_; case hy => (go_simp <;> with_reducible rfl)
        try simp only [List.getElem_toArray, List.getElem_cons_succ, List.getElem_cons_zero, Act.put, List.setIfInBounds_toArray, List.set_cons_zero, List.set_cons_succ]
        refine mixs_take 7 (v := ?_) rfl (by kernel_rfl) (fun _ _ _ h => h) (by kernel_rfl) (by assumption) (fun s => ?hy) ?_; case hy => (go_simp <;> with_reducible rfl)
        try simp only [List.getElem_toArray, List.getElem_cons_succ, List.getElem_cons_zero, Act.put, List.setIfInBounds_toArray, List.set_cons_zero, List.set_cons_succ]
        refine mixs_take 8 (v := ?_) rfl (by kernel_rfl) (fun _ _ _ h => h) (by kernel_rfl) (by assumption) (fun s => ?hy) ?_; case hy => (go_simp <;> with_reducible rfl)
        try simp only [List.getElem_toArray, List.getElem_cons_succ, List.getElem_cons_zero, Act.put, List.setIfInBounds_toArray, List.set_cons_zero, List.set_cons_succ]
        refine mixs_take 9 (v := ?_) rfl (by kernel_rfl) (fun _ _ _ h => h) (by kernel_rfl) (by assumption) (fun s => ?hy) ?_; case hy => (go_simp <;> with_reducible rfl)
        try simp only [List.getElem_toArray, List.getElem_cons_succ, List.getElem_cons_zero, Act.put, List.setIfInBounds_toArray, List.set_cons_zero, List.set_cons_succ]
        refine mixs_take 10 (v := ?_) rfl (by kernel_rfl) (fun _ _ _ h => h) (by kernel_rfl) (by assumption) (fun s => ?hy) ?_; case hy => (go_simp <;> with_reducible rfl)
        try simp only [List.getElem_toArray, List.getElem_cons_succ, List.getElem_cons_zero, Act.put, List.setIfInBounds_toArray, List.set_cons_zero, List.set_cons_succ]
        refine mixs_take 11 (v := ?_) rfl (by kernel_rfl) (fun _ _ _ h => h) (by kernel_rfl) (by assumption) (fun s => ?hy) ?_; case hy => (go_simp <;> with_reducible rfl)
        try simp only [List.getElem_toArray, List.getElem_cons_succ, List.getElem_cons_zero, Act.put, List.setIfInBounds_toArray, List.set_cons_zero, List.set_cons_succ]
        refine mixs_take 12 (v := ?_) rfl (by kernel_rfl) (fun _ _ _ h => h) (by kernel_rfl) (by assumption) (fun s => ?hy) ?_; case hy => (go_simp <;> with_reducible rfl)
        try simp only [List.getElem_toArray, List.getElem_cons_succ, List.getElem_cons_zero, Act.put, List.setIfInBounds_toArray, List.set_cons_zero, List.set_cons_succ]
        refine wpAnyH_done (by kernel_rfl) ?_ _
        clear k1 k2
        go_wp2_with fail
        go_ret
        exact ⟨by rw [hRf.out]; rfl, hS.below⟩
      · have d2 : decide (y < z) = false := decide_eq_false h2
        have hg2 := Lib.hid (show ∀ i z top, i < j + 1 → (tkL t)[i]? = some z → tkTop[i]? = some top → 0 ≤ z ∧ z ≤ top from fun i a b hi ha hb => by
          by_cases e : i < j
          · exact hg.out i a b e ha hb
          · have : i = j := by omega
            subst this
            rw [z1] at ha
            rw [y1] at hb
            cases ha
            cases hb
            omega)
        clear h1 h2 z1 y1
        go_wp2_with fail
        refine mixs_begin (by kernel_rfl) hS ?_
        clear hS
        intro w2 hS
        refine mixs_take 0 (v := ?_) rfl (by kernel_rfl) (fun _ _ _ h => h) (by kernel_rfl) (by assumption) (fun s => ?hy) ?_; case hy => (go_simp <;> with_reducible rfl)
        try simp only [List.getElem_toArray, List.getElem_cons_succ, List.getElem_cons_zero, Act.put, List.setIfInBounds_toArray, List.set_cons_zero, List.set_cons_succ]
        refine mixs_take 1 (v := ?_) rfl (by kernel_rfl) (fun _ _ _ h => h) (by kernel_rfl) (by assumption) (fun s => ?hy) ?_; case hy => (go_simp <;> with_reducible rfl)
        try simp only [List.getElem_toArray, List.getElem_cons_succ, List.getElem_cons_zero, Act.put, List.setIfInBounds_toArray, List.set_cons_zero, List.set_cons_succ]
        refine mixs_take 2 (v := ?_) rfl (by kernel_rfl) (fun _ _ _ h => h) (by kernel_rfl) (by assumption) (fun s => ?hy) ?_; case hy => (go_simp <;> with_reducible rfl)
        try simp only [List.getElem_toArray, List.getElem_cons_succ, List.getElem_cons_zero, Act.put, List.setIfInBounds_toArray, List.set_cons_zero, List.set_cons_succ]
        refine mixs_take 3 (v := ?_) rfl (by kernel_rfl) (fun _ _ _ h => h) (by kernel_rfl) (by assumption) (fun s => ?hy) ?_; case hy => (go_simp <;> with_reducible rfl)
        try simp only [List.getElem_toArray, List.getElem_cons_succ, List.getElem_cons_zero, Act.put, List.setIfInBounds_toArray, List.set_cons_zero, List.set_cons_succ]
        refine mixs_take 4 (v := ?_) rfl (by kernel_rfl) (fun _ _ _ h => h) (by kernel_rfl) (by assumption) (fun s => ?hy) ?_; case hy => (go_simp <;> with_reducible rfl)
        try simp only [List.getElem_toArray, List.getElem_cons_succ, List.getElem_cons_zero, Act.put, List.setIfInBounds_toArray, List.set_cons_zero, List.set_cons_succ]
        refine mixs_take 5 (v := ?_) rfl (by kernel_rfl) (fun _ _ _ h => h) (by kernel_rfl) (by assumption) (fun s => ?hy) ?_; case hy => (go_simp <;> with_reducible rfl)
        try simp only [List.getElem_toArray, List.getElem_cons_succ, List.getElem_cons_zero, Act.put, List.setIfInBounds_toArray, List.set_cons_zero, List.set_cons_succ]
        refine mixs_take 6 (v := ?_) rfl (by kernel_rfl) (fun _ _ _ h => h) (by kernel_rfl) (by assumption) (fun s => ?hy) ?_; case hy => (go_simp <;> with_reducible rfl)
        try simp only [List.getElem_toArray, List.getElem_cons_succ, List.getElem_cons_zero, Act.put, List.setIfInBounds_toArray, List.set_cons_zero, List.set_cons_succ]
        refine mixs_take 7 (v := ?_) rfl (by kernel_rfl) (fun _ _ _ h => h) (by kernel_rfl) (by assumption) (fun s => ?hy) ?_; case hy => (go_simp <;> with_reducible rfl)
        try simp only [List.getElem_toArray, List.getElem_cons_succ, List.getElem_cons_zero, Act.put, List.setIfInBounds_toArray, List.set_cons_zero, List.set_cons_succ]
        refine mixs_take 8 (v := ?_) rfl (by kernel_rfl) (fun _ _ _ h => h) (by kernel_rfl) (by assumption) (fun s => ?hy) ?_; case hy => (go_simp <;> with_reducible rfl)
        try simp only [List.getElem_toArray, List.getElem_cons_succ, List.getElem_cons_zero, Act.put, List.setIfInBounds_toArray, List.set_cons_zero, List.set_cons_succ]
        refine mixs_take 9 (v := ?_) rfl (by kernel_rfl) (fun _ _ _ h => h) (by kernel_rfl) (by assumption) (fun s => ?hy) ?_; case hy => (go_simp <;> with_reducible rfl)
        try simp only [List.getElem_toArray, List.getElem_cons_succ, List.getElem_cons_zero, Act.put, List.setIfInBounds_toArray, List.set_cons_zero, List.set_cons_succ]
        refine mixs_take 10 (v := ?_) rfl (by kernel_rfl) (fun _ _ _ h => h) (by kernel_rfl) (by assumption) (fun s => ?hy) ?_; case hy => (go_simp <;> with_reducible rfl)
        try simp only [List.getElem_toArray, List.getElem_cons_succ, List.getElem_cons_zero, Act.put, List.setIfInBounds_toArray, List.set_cons_zero, List.set_cons_succ]
        refine mixs_take 11 (v := ?_) rfl (by kernel_rfl) (fun _ _ _ h => h) (by kernel_rfl) (by assumption) (fun s => ?hy) ?_; case hy => (go_simp <;> with_reducible rfl)
        try simp only [List.getElem_toArray, List.getElem_cons_succ, List.getElem_cons_zero, Act.put, List.setIfInBounds_toArray, List.set_cons_zero, List.set_cons_succ]
        refine mixs_take 12 (v := ?_) rfl (by kernel_rfl) (fun _ _ _ h => h) (by kernel_rfl) (by assumption) (fun s => ?hy) ?_; case hy => (go_simp <;> with_reducible rfl)
        try simp only [List.getElem_toArray, List.getElem_cons_succ, List.getElem_cons_zero, Act.put, List.setIfInBounds_toArray, List.set_cons_zero, List.set_cons_succ]
        refine wpAnyH_done (by kernel_rfl) ?_ _
        clear k1 k2
        go_wp2_with fail
        go_roundg (4 - (j + 1))
        case measure => omega
        case rel => exact ⟨j + 1, by omega, by go_num, hg2, hS⟩
    · have dj : decide ((j : Int) < 4) = false := decide_eq_false (by omega)
      have hRg := Lib.hid (show R = decide (0 < t.epoch) from hR.out.symm.trans (hgood.out fun i z top hi => hg.out i z top (by omega)))
      generalize hde : decide (0 < t.epoch) = de at *
      go_wp2_with (first | (with_reducible refine wpList_box_st hS rfl rfl rfl ?_; intro g1 w1 hS1; clear hS; replace hS := hS1; clear hS1) | (with_reducible refine wpList_box1_st hS rfl rfl rfl ?_; intro g1 w1 hS1; clear hS; replace hS := hS1; clear hS1) | (with_reducible refine wpList_alloc_st hS rfl rfl (by assumption) ?_; intro g1 w1 hS1; clear hS; replace hS := hS1; clear hS1) | (with_reducible refine wpList_alloc1_st hS rfl rfl (by assumption) rfl ?_; intro g1 w1 hS1; clear hS; replace hS := hS1; clear hS1) | ((with_reducible refine wpList_load_st 0 hS rfl rfl rfl rfl ?_ rfl ?_); focus (simp [scalarB, go_sem]; done)) | ((with_reducible refine wpList_loadall_st 0 hS rfl rfl rfl rfl ?_ (by kernel_rfl) ?_); focus (simp [rowB, go_sem]; done)) | ((with_reducible refine wpList_store_st 0 hS rfl rfl rfl rfl (by kernel_rfl) rfl rfl ?_); intro w1 hS1; clear hS; replace hS := hS1; clear hS1; try simp only [List.set_cons_zero, List.set_cons_succ, List.setIfInBounds_toArray, List.take_succ_cons, List.take_zero, List.drop_succ_cons, List.drop_zero, List.nil_append, List.cons_append, List.append_nil, List.drop_nil, List.take_nil, List.length_cons, List.length_nil, Nat.zero_add, Nat.add_zero, Nat.reduceAdd] at hS) | ((with_reducible refine wpList_storerow_st 0 hS rfl rfl rfl rfl (by kernel_rfl) rfl rfl rfl rfl ?_); intro w1 hS1; clear hS; replace hS := hS1; clear hS1; try simp only [List.set_cons_zero, List.set_cons_succ, List.setIfInBounds_toArray, List.take_succ_cons, List.take_zero, List.drop_succ_cons, List.drop_zero, List.nil_append, List.cons_append, List.append_nil, List.drop_nil, List.take_nil, List.length_cons, List.length_nil, Nat.zero_add, Nat.add_zero, Nat.reduceAdd] at hS) | ((with_reducible refine wpList_load_st 1 hS rfl rfl rfl rfl ?_ rfl ?_); focus (simp [scalarB, go_sem]; done)) | ((with_reducible refine wpList_loadall_st 1 hS rfl rfl rfl rfl ?_ (by kernel_rfl) ?_); focus (simp [rowB, go_sem]; done)) | ((with_reducible refine wpList_store_st 1 hS rfl rfl rfl rfl (by kernel_rfl) rfl rfl ?_); intro w1 hS1; clear hS; replace hS := hS1; clear hS1; try simp only [List.set_cons_zero, List.set_cons_succ, List.setIfInBounds_toArray, List.take_succ_cons, List.take_zero, List.drop_succ_cons, List.drop_zero, List.nil_append, List.cons_append, List.append_nil, List.drop_nil, List.take_nil, List.length_cons, List.length_nil, Nat.zero_add, Nat.add_zero, Nat.reduceAdd] at hS) | ((with_reducible refine wpList_storerow_st 1 hS rfl rfl rfl rfl (by kernel_rfl) rfl rfl rfl rfl ?_); intro w1 hS1; clear hS; replace hS := hS1; clear hS1; try simp only [List.set_cons_zero, List.set_cons_succ, List.setIfInBounds_toArray, List.take_succ_cons, List.take_zero, List.drop_succ_cons, List.drop_zero, List.nil_append, List.cons_append, List.append_nil, List.drop_nil, List.take_nil, List.length_cons, List.length_nil, Nat.zero_add, Nat.add_zero, Nat.reduceAdd] at hS) | ((with_reducible refine wpList_load_st 2 hS rfl rfl rfl rfl ?_ rfl ?_); focus (simp [scalarB, go_sem]; done)) | ((with_reducible refine wpList_loadall_st 2 hS rfl rfl rfl rfl ?_ (by kernel_rfl) ?_); focus (simp [rowB, go_sem]; done)) | ((with_reducible refine wpList_store_st 2 hS rfl rfl rfl rfl (by kernel_rfl) rfl rfl ?_); intro w1 hS1; clear hS; replace hS := hS1; clear hS1; try simp only [List.set_cons_zero, List.set_cons_succ, List.setIfInBounds_toArray, List.take_succ_cons, List.take_zero, List.drop_succ_cons, List.drop_zero, List.nil_append, List.cons_append, List.append_nil, List.drop_nil, List.take_nil, List.length_cons, List.length_nil, Nat.zero_add, Nat.add_zero, Nat.reduceAdd] at hS) | ((with_reducible refine wpList_storerow_st 2 hS rfl rfl rfl rfl (by kernel_rfl) rfl rfl rfl rfl ?_); intro w1 hS1; clear hS; replace hS := hS1; clear hS1; try simp only [List.set_cons_zero, List.set_cons_succ, List.setIfInBounds_toArray, List.take_succ_cons, List.take_zero, List.drop_succ_cons, List.drop_zero, List.nil_append, List.cons_append, List.append_nil, List.drop_nil, List.take_nil, List.length_cons, List.length_nil, Nat.zero_add, Nat.add_zero, Nat.reduceAdd] at hS))
      go_ret
      exact ⟨by rw [hRg.out]; rfl, hS.below⟩

theorem tgoes_any (s t : Tk) (w : World) : Calls Try.prog 80 #[.agg (tkRow s).toArray, .agg (tkRow t).toArray] w fun e w' => e = .returned (.bool (s.goes t)) ∧ Below w.heap.size w w' := by
  have hS := St.start w
  have cA := fun W : World => tcheck26_any s W
  have cB := fun W : World => tcheck26_any t W
  have ho : s.goes t = (s.ok && t.ok && decide (s.dev = t.dev ∧ s.epoch = t.epoch ∧ s.seq ≤ t.seq ∧ s.cur ≤ t.cur)) := rfl
  rw [ho]
  clear ho
  generalize s.ok = oa at *
  generalize t.ok = ob at *
  obtain ⟨a1, a2, a3, a4⟩ := s
  obtain ⟨b1, b2, b3, b4⟩ := t
  have h0 : tkRow ⟨a1, a2, a3, a4⟩ = [.int .i64 a1, .int .i64 a2, .int .i64 a3, .int .i64 a4] := rfl
  have h1 : tkRow ⟨b1, b2, b3, b4⟩ = [.int .i64 b1, .int .i64 b2, .int .i64 b3, .int .i64 b4] := rfl
  rw [h0] at cA ⊢
  rw [h1] at cB ⊢
  clear h0 h1
  dsimp only
  replace cA := Lib.hid cA
  replace cB := Lib.hid cB
  cases oa
  ·
    rw [Bool.false_and, Bool.false_and]
    go_enter Try.func80, Try.ntmps80
    go_wp2_with (first
      | (go_at_call 65; (with_reducible refine (cA.out _).mono ?_); rintro _ w3 ⟨rfl, hk9⟩; have hS1 := hS.keepB hk9; clear hk9 hS; have hS := hS1; clear hS1)
      | (go_at_call 65; (with_reducible refine (cB.out _).mono ?_); rintro _ w3 ⟨rfl, hk9⟩; have hS1 := hS.keepB hk9; clear hk9 hS; have hS := hS1; clear hS1)
      | ((with_reducible refine wpList_gload_st 0 hS rfl (by with_unfolding_all rfl) rfl rfl ?_ rfl ?_); focus (simp [scalarB, go_sem]; done))
      | ((with_reducible refine wpList_gload_st 1 hS rfl (by with_unfolding_all rfl) rfl rfl ?_ rfl ?_); focus (simp [scalarB, go_sem]; done))
      | ((with_reducible refine wpList_gloadrow_st (n := 4) (j := 0) 0 hS rfl (by with_unfolding_all rfl) rfl rfl ?_ (by kernel_rfl) rfl rfl ?_); focus (simp [rowB, go_sem]; done))
      | (with_reducible refine wpList_box_st hS rfl rfl rfl ?_; intro g1 w1 hS1; clear hS; replace hS := hS1; clear hS1) | (with_reducible refine wpList_box1_st hS rfl rfl rfl ?_; intro g1 w1 hS1; clear hS; replace hS := hS1; clear hS1) | (with_reducible refine wpList_alloc_st hS rfl rfl (by assumption) ?_; intro g1 w1 hS1; clear hS; replace hS := hS1; clear hS1) | (with_reducible refine wpList_alloc1_st hS rfl rfl (by assumption) rfl ?_; intro g1 w1 hS1; clear hS; replace hS := hS1; clear hS1) | ((with_reducible refine wpList_load_st 0 hS rfl rfl rfl rfl ?_ rfl ?_); focus (simp [scalarB, go_sem]; done)) | ((with_reducible refine wpList_loadall_st 0 hS rfl rfl rfl rfl ?_ (by kernel_rfl) ?_); focus (simp [rowB, go_sem]; done)) | ((with_reducible refine wpList_store_st 0 hS rfl rfl rfl rfl (by kernel_rfl) rfl rfl ?_); intro w1 hS1; clear hS; replace hS := hS1; clear hS1; try simp only [List.set_cons_zero, List.set_cons_succ, List.setIfInBounds_toArray, List.take_succ_cons, List.take_zero, List.drop_succ_cons, List.drop_zero, List.nil_append, List.cons_append, List.append_nil, List.drop_nil, List.take_nil, List.length_cons, List.length_nil, Nat.zero_add, Nat.add_zero, Nat.reduceAdd] at hS) | ((with_reducible refine wpList_storerow_st 0 hS rfl rfl rfl rfl (by kernel_rfl) rfl rfl rfl rfl ?_); intro w1 hS1; clear hS; replace hS := hS1; clear hS1; try simp only [List.set_cons_zero, List.set_cons_succ, List.setIfInBounds_toArray, List.take_succ_cons, List.take_zero, List.drop_succ_cons, List.drop_zero, List.nil_append, List.cons_append, List.append_nil, List.drop_nil, List.take_nil, List.length_cons, List.length_nil, Nat.zero_add, Nat.add_zero, Nat.reduceAdd] at hS) | ((with_reducible refine wpList_load_st 1 hS rfl rfl rfl rfl ?_ rfl ?_); focus (simp [scalarB, go_sem]; done)) | ((with_reducible refine wpList_loadall_st 1 hS rfl rfl rfl rfl ?_ (by kernel_rfl) ?_); focus (simp [rowB, go_sem]; done)) | ((with_reducible refine wpList_store_st 1 hS rfl rfl rfl rfl (by kernel_rfl) rfl rfl ?_); intro w1 hS1; clear hS; replace hS := hS1; clear hS1; try simp only [List.set_cons_zero, List.set_cons_succ, List.setIfInBounds_toArray, List.take_succ_cons, List.take_zero, List.drop_succ_cons, List.drop_zero, List.nil_append, List.cons_append, List.append_nil, List.drop_nil, List.take_nil, List.length_cons, List.length_nil, Nat.zero_add, Nat.add_zero, Nat.reduceAdd] at hS) | ((with_reducible refine wpList_storerow_st 1 hS rfl rfl rfl rfl (by kernel_rfl) rfl rfl rfl rfl ?_); intro w1 hS1; clear hS; replace hS := hS1; clear hS1; try simp only [List.set_cons_zero, List.set_cons_succ, List.setIfInBounds_toArray, List.take_succ_cons, List.take_zero, List.drop_succ_cons, List.drop_zero, List.nil_append, List.cons_append, List.append_nil, List.drop_nil, List.take_nil, List.length_cons, List.length_nil, Nat.zero_add, Nat.add_zero, Nat.reduceAdd] at hS))
    go_ret
    exact ⟨rfl, hS.below⟩
  cases ob
  ·
    rw [Bool.and_false, Bool.false_and]
    go_enter Try.func80, Try.ntmps80
    go_wp2_with (first
      | (go_at_call 65; (with_reducible refine (cA.out _).mono ?_); rintro _ w3 ⟨rfl, hk9⟩; have hS1 := hS.keepB hk9; clear hk9 hS; have hS := hS1; clear hS1)
      | (go_at_call 65; (with_reducible refine (cB.out _).mono ?_); rintro _ w3 ⟨rfl, hk9⟩; have hS1 := hS.keepB hk9; clear hk9 hS; have hS := hS1; clear hS1)
      | ((with_reducible refine wpList_gload_st 0 hS rfl (by with_unfolding_all rfl) rfl rfl ?_ rfl ?_); focus (simp [scalarB, go_sem]; done))
      | ((with_reducible refine wpList_gload_st 1 hS rfl (by with_unfolding_all rfl) rfl rfl ?_ rfl ?_); focus (simp [scalarB, go_sem]; done))
      | ((with_reducible refine wpList_gloadrow_st (n := 4) (j := 0) 0 hS rfl (by with_unfolding_all rfl) rfl rfl ?_ (by kernel_rfl) rfl rfl ?_); focus (simp [rowB, go_sem]; done))
      | (with_reducible refine wpList_box_st hS rfl rfl rfl ?_; intro g1 w1 hS1; clear hS; replace hS := hS1; clear hS1) | (with_reducible refine wpList_box1_st hS rfl rfl rfl ?_; intro g1 w1 hS1; clear hS; replace hS := hS1; clear hS1) | (with_reducible refine wpList_alloc_st hS rfl rfl (by assumption) ?_; intro g1 w1 hS1; clear hS; replace hS := hS1; clear hS1) | (with_reducible refine wpList_alloc1_st hS rfl rfl (by assumption) rfl ?_; intro g1 w1 hS1; clear hS; replace hS := hS1; clear hS1) | ((with_reducible refine wpList_load_st 0 hS rfl rfl rfl rfl ?_ rfl ?_); focus (simp [scalarB, go_sem]; done)) | ((with_reducible refine wpList_loadall_st 0 hS rfl rfl rfl rfl ?_ (by kernel_rfl) ?_); focus (simp [rowB, go_sem]; done)) | ((with_reducible refine wpList_store_st 0 hS rfl rfl rfl rfl (by kernel_rfl) rfl rfl ?_); intro w1 hS1; clear hS; replace hS := hS1; clear hS1; try simp only [List.set_cons_zero, List.set_cons_succ, List.setIfInBounds_toArray, List.take_succ_cons, List.take_zero, List.drop_succ_cons, List.drop_zero, List.nil_append, List.cons_append, List.append_nil, List.drop_nil, List.take_nil, List.length_cons, List.length_nil, Nat.zero_add, Nat.add_zero, Nat.reduceAdd] at hS) | ((with_reducible refine wpList_storerow_st 0 hS rfl rfl rfl rfl (by kernel_rfl) rfl rfl rfl rfl ?_); intro w1 hS1; clear hS; replace hS := hS1; clear hS1; try simp only [List.set_cons_zero, List.set_cons_succ, List.setIfInBounds_toArray, List.take_succ_cons, List.take_zero, List.drop_succ_cons, List.drop_zero, List.nil_append, List.cons_append, List.append_nil, List.drop_nil, List.take_nil, List.length_cons, List.length_nil, Nat.zero_add, Nat.add_zero, Nat.reduceAdd] at hS) | ((with_reducible refine wpList_load_st 1 hS rfl rfl rfl rfl ?_ rfl ?_); focus (simp [scalarB, go_sem]; done)) | ((with_reducible refine wpList_loadall_st 1 hS rfl rfl rfl rfl ?_ (by kernel_rfl) ?_); focus (simp [rowB, go_sem]; done)) | ((with_reducible refine wpList_store_st 1 hS rfl rfl rfl rfl (by kernel_rfl) rfl rfl ?_); intro w1 hS1; clear hS; replace hS := hS1; clear hS1; try simp only [List.set_cons_zero, List.set_cons_succ, List.setIfInBounds_toArray, List.take_succ_cons, List.take_zero, List.drop_succ_cons, List.drop_zero, List.nil_append, List.cons_append, List.append_nil, List.drop_nil, List.take_nil, List.length_cons, List.length_nil, Nat.zero_add, Nat.add_zero, Nat.reduceAdd] at hS) | ((with_reducible refine wpList_storerow_st 1 hS rfl rfl rfl rfl (by kernel_rfl) rfl rfl rfl rfl ?_); intro w1 hS1; clear hS; replace hS := hS1; clear hS1; try simp only [List.set_cons_zero, List.set_cons_succ, List.setIfInBounds_toArray, List.take_succ_cons, List.take_zero, List.drop_succ_cons, List.drop_zero, List.nil_append, List.cons_append, List.append_nil, List.drop_nil, List.take_nil, List.length_cons, List.length_nil, Nat.zero_add, Nat.add_zero, Nat.reduceAdd] at hS))
    go_ret
    exact ⟨rfl, hS.below⟩
  rw [Bool.and_true, Bool.true_and]
  by_cases h3 : ¬ (a1 = b1)
  ·
    have dh3 : (a1 == b1) = false := by simpa using h3
    rw [decide_eq_false (by omega)]
    go_enter Try.func80, Try.ntmps80
    go_wp2_with (first
      | (go_at_call 65; (with_reducible refine (cA.out _).mono ?_); rintro _ w3 ⟨rfl, hk9⟩; have hS1 := hS.keepB hk9; clear hk9 hS; have hS := hS1; clear hS1)
      | (go_at_call 65; (with_reducible refine (cB.out _).mono ?_); rintro _ w3 ⟨rfl, hk9⟩; have hS1 := hS.keepB hk9; clear hk9 hS; have hS := hS1; clear hS1)
      | ((with_reducible refine wpList_gload_st 0 hS rfl (by with_unfolding_all rfl) rfl rfl ?_ rfl ?_); focus (simp [scalarB, go_sem]; done))
      | ((with_reducible refine wpList_gload_st 1 hS rfl (by with_unfolding_all rfl) rfl rfl ?_ rfl ?_); focus (simp [scalarB, go_sem]; done))
      | ((with_reducible refine wpList_gloadrow_st (n := 4) (j := 0) 0 hS rfl (by with_unfolding_all rfl) rfl rfl ?_ (by kernel_rfl) rfl rfl ?_); focus (simp [rowB, go_sem]; done))
      | (with_reducible refine wpList_box_st hS rfl rfl rfl ?_; intro g1 w1 hS1; clear hS; replace hS := hS1; clear hS1) | (with_reducible refine wpList_box1_st hS rfl rfl rfl ?_; intro g1 w1 hS1; clear hS; replace hS := hS1; clear hS1) | (with_reducible refine wpList_alloc_st hS rfl rfl (by assumption) ?_; intro g1 w1 hS1; clear hS; replace hS := hS1; clear hS1) | (with_reducible refine wpList_alloc1_st hS rfl rfl (by assumption) rfl ?_; intro g1 w1 hS1; clear hS; replace hS := hS1; clear hS1) | ((with_reducible refine wpList_load_st 0 hS rfl rfl rfl rfl ?_ rfl ?_); focus (simp [scalarB, go_sem]; done)) | ((with_reducible refine wpList_loadall_st 0 hS rfl rfl rfl rfl ?_ (by kernel_rfl) ?_); focus (simp [rowB, go_sem]; done)) | ((with_reducible refine wpList_store_st 0 hS rfl rfl rfl rfl (by kernel_rfl) rfl rfl ?_); intro w1 hS1; clear hS; replace hS := hS1; clear hS1; try simp only [List.set_cons_zero, List.set_cons_succ, List.setIfInBounds_toArray, List.take_succ_cons, List.take_zero, List.drop_succ_cons, List.drop_zero, List.nil_append, List.cons_append, List.append_nil, List.drop_nil, List.take_nil, List.length_cons, List.length_nil, Nat.zero_add, Nat.add_zero, Nat.reduceAdd] at hS) | ((with_reducible refine wpList_storerow_st 0 hS rfl rfl rfl rfl (by kernel_rfl) rfl rfl rfl rfl ?_); intro w1 hS1; clear hS; replace hS := hS1; clear hS1; try simp only [List.set_cons_zero, List.set_cons_succ, List.setIfInBounds_toArray, List.take_succ_cons, List.take_zero, List.drop_succ_cons, List.drop_zero, List.nil_append, List.cons_append, List.append_nil, List.drop_nil, List.take_nil, List.length_cons, List.length_nil, Nat.zero_add, Nat.add_zero, Nat.reduceAdd] at hS) | ((with_reducible refine wpList_load_st 1 hS rfl rfl rfl rfl ?_ rfl ?_); focus (simp [scalarB, go_sem]; done)) | ((with_reducible refine wpList_loadall_st 1 hS rfl rfl rfl rfl ?_ (by kernel_rfl) ?_); focus (simp [rowB, go_sem]; done)) | ((with_reducible refine wpList_store_st 1 hS rfl rfl rfl rfl (by kernel_rfl) rfl rfl ?_); intro w1 hS1; clear hS; replace hS := hS1; clear hS1; try simp only [List.set_cons_zero, List.set_cons_succ, List.setIfInBounds_toArray, List.take_succ_cons, List.take_zero, List.drop_succ_cons, List.drop_zero, List.nil_append, List.cons_append, List.append_nil, List.drop_nil, List.take_nil, List.length_cons, List.length_nil, Nat.zero_add, Nat.add_zero, Nat.reduceAdd] at hS) | ((with_reducible refine wpList_storerow_st 1 hS rfl rfl rfl rfl (by kernel_rfl) rfl rfl rfl rfl ?_); intro w1 hS1; clear hS; replace hS := hS1; clear hS1; try simp only [List.set_cons_zero, List.set_cons_succ, List.setIfInBounds_toArray, List.take_succ_cons, List.take_zero, List.drop_succ_cons, List.drop_zero, List.nil_append, List.cons_append, List.append_nil, List.drop_nil, List.take_nil, List.length_cons, List.length_nil, Nat.zero_add, Nat.add_zero, Nat.reduceAdd] at hS))
    go_ret
    exact ⟨rfl, hS.below⟩
  replace h3 := Decidable.not_not.1 h3
  have dh3 : (a1 == b1) = true := by simpa using h3
  replace h3 := Lib.hid h3
  by_cases h4 : ¬ (a2 = b2)
  ·
    have dh4 : (a2 == b2) = false := by simpa using h4
    rw [decide_eq_false (by omega)]
    go_enter Try.func80, Try.ntmps80
    go_wp2_with (first
      | (go_at_call 65; (with_reducible refine (cA.out _).mono ?_); rintro _ w3 ⟨rfl, hk9⟩; have hS1 := hS.keepB hk9; clear hk9 hS; have hS := hS1; clear hS1)
      | (go_at_call 65; (with_reducible refine (cB.out _).mono ?_); rintro _ w3 ⟨rfl, hk9⟩; have hS1 := hS.keepB hk9; clear hk9 hS; have hS := hS1; clear hS1)
      | ((with_reducible refine wpList_gload_st 0 hS rfl (by with_unfolding_all rfl) rfl rfl ?_ rfl ?_); focus (simp [scalarB, go_sem]; done))
      | ((with_reducible refine wpList_gload_st 1 hS rfl (by with_unfolding_all rfl) rfl rfl ?_ rfl ?_); focus (simp [scalarB, go_sem]; done))
      | ((with_reducible refine wpList_gloadrow_st (n := 4) (j := 0) 0 hS rfl (by with_unfolding_all rfl) rfl rfl ?_ (by kernel_rfl) rfl rfl ?_); focus (simp [rowB, go_sem]; done))
      | (with_reducible refine wpList_box_st hS rfl rfl rfl ?_; intro g1 w1 hS1; clear hS; replace hS := hS1; clear hS1) | (with_reducible refine wpList_box1_st hS rfl rfl rfl ?_; intro g1 w1 hS1; clear hS; replace hS := hS1; clear hS1) | (with_reducible refine wpList_alloc_st hS rfl rfl (by assumption) ?_; intro g1 w1 hS1; clear hS; replace hS := hS1; clear hS1) | (with_reducible refine wpList_alloc1_st hS rfl rfl (by assumption) rfl ?_; intro g1 w1 hS1; clear hS; replace hS := hS1; clear hS1) | ((with_reducible refine wpList_load_st 0 hS rfl rfl rfl rfl ?_ rfl ?_); focus (simp [scalarB, go_sem]; done)) | ((with_reducible refine wpList_loadall_st 0 hS rfl rfl rfl rfl ?_ (by kernel_rfl) ?_); focus (simp [rowB, go_sem]; done)) | ((with_reducible refine wpList_store_st 0 hS rfl rfl rfl rfl (by kernel_rfl) rfl rfl ?_); intro w1 hS1; clear hS; replace hS := hS1; clear hS1; try simp only [List.set_cons_zero, List.set_cons_succ, List.setIfInBounds_toArray, List.take_succ_cons, List.take_zero, List.drop_succ_cons, List.drop_zero, List.nil_append, List.cons_append, List.append_nil, List.drop_nil, List.take_nil, List.length_cons, List.length_nil, Nat.zero_add, Nat.add_zero, Nat.reduceAdd] at hS) | ((with_reducible refine wpList_storerow_st 0 hS rfl rfl rfl rfl (by kernel_rfl) rfl rfl rfl rfl ?_); intro w1 hS1; clear hS; replace hS := hS1; clear hS1; try simp only [List.set_cons_zero, List.set_cons_succ, List.setIfInBounds_toArray, List.take_succ_cons, List.take_zero, List.drop_succ_cons, List.drop_zero, List.nil_append, List.cons_append, List.append_nil, List.drop_nil, List.take_nil, List.length_cons, List.length_nil, Nat.zero_add, Nat.add_zero, Nat.reduceAdd] at hS) | ((with_reducible refine wpList_load_st 1 hS rfl rfl rfl rfl ?_ rfl ?_); focus (simp [scalarB, go_sem]; done)) | ((with_reducible refine wpList_loadall_st 1 hS rfl rfl rfl rfl ?_ (by kernel_rfl) ?_); focus (simp [rowB, go_sem]; done)) | ((with_reducible refine wpList_store_st 1 hS rfl rfl rfl rfl (by kernel_rfl) rfl rfl ?_); intro w1 hS1; clear hS; replace hS := hS1; clear hS1; try simp only [List.set_cons_zero, List.set_cons_succ, List.setIfInBounds_toArray, List.take_succ_cons, List.take_zero, List.drop_succ_cons, List.drop_zero, List.nil_append, List.cons_append, List.append_nil, List.drop_nil, List.take_nil, List.length_cons, List.length_nil, Nat.zero_add, Nat.add_zero, Nat.reduceAdd] at hS) | ((with_reducible refine wpList_storerow_st 1 hS rfl rfl rfl rfl (by kernel_rfl) rfl rfl rfl rfl ?_); intro w1 hS1; clear hS; replace hS := hS1; clear hS1; try simp only [List.set_cons_zero, List.set_cons_succ, List.setIfInBounds_toArray, List.take_succ_cons, List.take_zero, List.drop_succ_cons, List.drop_zero, List.nil_append, List.cons_append, List.append_nil, List.drop_nil, List.take_nil, List.length_cons, List.length_nil, Nat.zero_add, Nat.add_zero, Nat.reduceAdd] at hS))
    go_ret
    exact ⟨rfl, hS.below⟩
  replace h4 := Decidable.not_not.1 h4
  have dh4 : (a2 == b2) = true := by simpa using h4
  replace h4 := Lib.hid h4
  by_cases h5 : ¬ (a3 ≤ b3)
  ·
    have dh5 : decide (a3 ≤ b3) = false := decide_eq_false h5
    rw [decide_eq_false (by omega)]
    go_enter Try.func80, Try.ntmps80
    go_wp2_with (first
      | (go_at_call 65; (with_reducible refine (cA.out _).mono ?_); rintro _ w3 ⟨rfl, hk9⟩; have hS1 := hS.keepB hk9; clear hk9 hS; have hS := hS1; clear hS1)
      | (go_at_call 65; (with_reducible refine (cB.out _).mono ?_); rintro _ w3 ⟨rfl, hk9⟩; have hS1 := hS.keepB hk9; clear hk9 hS; have hS := hS1; clear hS1)
      | ((with_reducible refine wpList_gload_st 0 hS rfl (by with_unfolding_all rfl) rfl rfl ?_ rfl ?_); focus (simp [scalarB, go_sem]; done))
      | ((with_reducible refine wpList_gload_st 1 hS rfl (by with_unfolding_all rfl) rfl rfl ?_ rfl ?_); focus (simp [scalarB, go_sem]; done))
      | ((with_reducible refine wpList_gloadrow_st (n := 4) (j := 0) 0 hS rfl (by with_unfolding_all rfl) rfl rfl ?_ (by kernel_rfl) rfl rfl ?_); focus (simp [rowB, go_sem]; done))
      | (with_reducible refine wpList_box_st hS rfl rfl rfl ?_; intro g1 w1 hS1; clear hS; replace hS := hS1; clear hS1) | (with_reducible refine wpList_box1_st hS rfl rfl rfl ?_; intro g1 w1 hS1; clear hS; replace hS := hS1; clear hS1) | (with_reducible refine wpList_alloc_st hS rfl rfl (by assumption) ?_; intro g1 w1 hS1; clear hS; replace hS := hS1; clear hS1) | (with_reducible refine wpList_alloc1_st hS rfl rfl (by assumption) rfl ?_; intro g1 w1 hS1; clear hS; replace hS := hS1; clear hS1) | ((with_reducible refine wpList_load_st 0 hS rfl rfl rfl rfl ?_ rfl ?_); focus (simp [scalarB, go_sem]; done)) | ((with_reducible refine wpList_loadall_st 0 hS rfl rfl rfl rfl ?_ (by kernel_rfl) ?_); focus (simp [rowB, go_sem]; done)) | ((with_reducible refine wpList_store_st 0 hS rfl rfl rfl rfl (by kernel_rfl) rfl rfl ?_); intro w1 hS1; clear hS; replace hS := hS1; clear hS1; try simp only [List.set_cons_zero, List.set_cons_succ, List.setIfInBounds_toArray, List.take_succ_cons, List.take_zero, List.drop_succ_cons, List.drop_zero, List.nil_append, List.cons_append, List.append_nil, List.drop_nil, List.take_nil, List.length_cons, List.length_nil, Nat.zero_add, Nat.add_zero, Nat.reduceAdd] at hS) | ((with_reducible refine wpList_storerow_st 0 hS rfl rfl rfl rfl (by kernel_rfl) rfl rfl rfl rfl ?_); intro w1 hS1; clear hS; replace hS := hS1; clear hS1; try simp only [List.set_cons_zero, List.set_cons_succ, List.setIfInBounds_toArray, List.take_succ_cons, List.take_zero, List.drop_succ_cons, List.drop_zero, List.nil_append, List.cons_append, List.append_nil, List.drop_nil, List.take_nil, List.length_cons, List.length_nil, Nat.zero_add, Nat.add_zero, Nat.reduceAdd] at hS) | ((with_reducible refine wpList_load_st 1 hS rfl rfl rfl rfl ?_ rfl ?_); focus (simp [scalarB, go_sem]; done)) | ((with_reducible refine wpList_loadall_st 1 hS rfl rfl rfl rfl ?_ (by kernel_rfl) ?_); focus (simp [rowB, go_sem]; done)) | ((with_reducible refine wpList_store_st 1 hS rfl rfl rfl rfl (by kernel_rfl) rfl rfl ?_); intro w1 hS1; clear hS; replace hS := hS1; clear hS1; try simp only [List.set_cons_zero, List.set_cons_succ, List.setIfInBounds_toArray, List.take_succ_cons, List.take_zero, List.drop_succ_cons, List.drop_zero, List.nil_append, List.cons_append, List.append_nil, List.drop_nil, List.take_nil, List.length_cons, List.length_nil, Nat.zero_add, Nat.add_zero, Nat.reduceAdd] at hS) | ((with_reducible refine wpList_storerow_st 1 hS rfl rfl rfl rfl (by kernel_rfl) rfl rfl rfl rfl ?_); intro w1 hS1; clear hS; replace hS := hS1; clear hS1; try simp only [List.set_cons_zero, List.set_cons_succ, List.setIfInBounds_toArray, List.take_succ_cons, List.take_zero, List.drop_succ_cons, List.drop_zero, List.nil_append, List.cons_append, List.append_nil, List.drop_nil, List.take_nil, List.length_cons, List.length_nil, Nat.zero_add, Nat.add_zero, Nat.reduceAdd] at hS))
    go_ret
    exact ⟨rfl, hS.below⟩
  replace h5 := Decidable.not_not.1 h5
  have dh5 : decide (a3 ≤ b3) = true := decide_eq_true h5
  by_cases h6 : ¬ (a4 ≤ b4)
  ·
    have dh6 : decide (a4 ≤ b4) = false := decide_eq_false h6
    rw [decide_eq_false (by omega)]
    go_enter Try.func80, Try.ntmps80
    go_wp2_with (first
      | (go_at_call 65; (with_reducible refine (cA.out _).mono ?_); rintro _ w3 ⟨rfl, hk9⟩; have hS1 := hS.keepB hk9; clear hk9 hS; have hS := hS1; clear hS1)
      | (go_at_call 65; (with_reducible refine (cB.out _).mono ?_); rintro _ w3 ⟨rfl, hk9⟩; have hS1 := hS.keepB hk9; clear hk9 hS; have hS := hS1; clear hS1)
      | ((with_reducible refine wpList_gload_st 0 hS rfl (by with_unfolding_all rfl) rfl rfl ?_ rfl ?_); focus (simp [scalarB, go_sem]; done))
      | ((with_reducible refine wpList_gload_st 1 hS rfl (by with_unfolding_all rfl) rfl rfl ?_ rfl ?_); focus (simp [scalarB, go_sem]; done))
      | ((with_reducible refine wpList_gloadrow_st (n := 4) (j := 0) 0 hS rfl (by with_unfolding_all rfl) rfl rfl ?_ (by kernel_rfl) rfl rfl ?_); focus (simp [rowB, go_sem]; done))
      | (with_reducible refine wpList_box_st hS rfl rfl rfl ?_; intro g1 w1 hS1; clear hS; replace hS := hS1; clear hS1) | (with_reducible refine wpList_box1_st hS rfl rfl rfl ?_; intro g1 w1 hS1; clear hS; replace hS := hS1; clear hS1) | (with_reducible refine wpList_alloc_st hS rfl rfl (by assumption) ?_; intro g1 w1 hS1; clear hS; replace hS := hS1; clear hS1) | (with_reducible refine wpList_alloc1_st hS rfl rfl (by assumption) rfl ?_; intro g1 w1 hS1; clear hS; replace hS := hS1; clear hS1) | ((with_reducible refine wpList_load_st 0 hS rfl rfl rfl rfl ?_ rfl ?_); focus (simp [scalarB, go_sem]; done)) | ((with_reducible refine wpList_loadall_st 0 hS rfl rfl rfl rfl ?_ (by kernel_rfl) ?_); focus (simp [rowB, go_sem]; done)) | ((with_reducible refine wpList_store_st 0 hS rfl rfl rfl rfl (by kernel_rfl) rfl rfl ?_); intro w1 hS1; clear hS; replace hS := hS1; clear hS1; try simp only [List.set_cons_zero, List.set_cons_succ, List.setIfInBounds_toArray, List.take_succ_cons, List.take_zero, List.drop_succ_cons, List.drop_zero, List.nil_append, List.cons_append, List.append_nil, List.drop_nil, List.take_nil, List.length_cons, List.length_nil, Nat.zero_add, Nat.add_zero, Nat.reduceAdd] at hS) | ((with_reducible refine wpList_storerow_st 0 hS rfl rfl rfl rfl (by kernel_rfl) rfl rfl rfl rfl ?_); intro w1 hS1; clear hS; replace hS := hS1; clear hS1; try simp only [List.set_cons_zero, List.set_cons_succ, List.setIfInBounds_toArray, List.take_succ_cons, List.take_zero, List.drop_succ_cons, List.drop_zero, List.nil_append, List.cons_append, List.append_nil, List.drop_nil, List.take_nil, List.length_cons, List.length_nil, Nat.zero_add, Nat.add_zero, Nat.reduceAdd] at hS) | ((with_reducible refine wpList_load_st 1 hS rfl rfl rfl rfl ?_ rfl ?_); focus (simp [scalarB, go_sem]; done)) | ((with_reducible refine wpList_loadall_st 1 hS rfl rfl rfl rfl ?_ (by kernel_rfl) ?_); focus (simp [rowB, go_sem]; done)) | ((with_reducible refine wpList_store_st 1 hS rfl rfl rfl rfl (by kernel_rfl) rfl rfl ?_); intro w1 hS1; clear hS; replace hS := hS1; clear hS1; try simp only [List.set_cons_zero, List.set_cons_succ, List.setIfInBounds_toArray, List.take_succ_cons, List.take_zero, List.drop_succ_cons, List.drop_zero, List.nil_append, List.cons_append, List.append_nil, List.drop_nil, List.take_nil, List.length_cons, List.length_nil, Nat.zero_add, Nat.add_zero, Nat.reduceAdd] at hS) | ((with_reducible refine wpList_storerow_st 1 hS rfl rfl rfl rfl (by kernel_rfl) rfl rfl rfl rfl ?_); intro w1 hS1; clear hS; replace hS := hS1; clear hS1; try simp only [List.set_cons_zero, List.set_cons_succ, List.setIfInBounds_toArray, List.take_succ_cons, List.take_zero, List.drop_succ_cons, List.drop_zero, List.nil_append, List.cons_append, List.append_nil, List.drop_nil, List.take_nil, List.length_cons, List.length_nil, Nat.zero_add, Nat.add_zero, Nat.reduceAdd] at hS))
    go_ret
    exact ⟨rfl, hS.below⟩
  replace h6 := Decidable.not_not.1 h6
  have dh6 : decide (a4 ≤ b4) = true := decide_eq_true h6
  rw [decide_eq_true (show a1 = b1 ∧ a2 = b2 ∧ a3 ≤ b3 ∧ a4 ≤ b4 from ⟨h3.out, h4.out, h5, h6⟩)]
  go_enter Try.func80, Try.ntmps80
  go_wp2_with (first
    | (go_at_call 65; (with_reducible refine (cA.out _).mono ?_); rintro _ w3 ⟨rfl, hk9⟩; have hS1 := hS.keepB hk9; clear hk9 hS; have hS := hS1; clear hS1)
    | (go_at_call 65; (with_reducible refine (cB.out _).mono ?_); rintro _ w3 ⟨rfl, hk9⟩; have hS1 := hS.keepB hk9; clear hk9 hS; have hS := hS1; clear hS1)
    | ((with_reducible refine wpList_gload_st 0 hS rfl (by with_unfolding_all rfl) rfl rfl ?_ rfl ?_); focus (simp [scalarB, go_sem]; done))
    | ((with_reducible refine wpList_gload_st 1 hS rfl (by with_unfolding_all rfl) rfl rfl ?_ rfl ?_); focus (simp [scalarB, go_sem]; done))
    | ((with_reducible refine wpList_gloadrow_st (n := 4) (j := 0) 0 hS rfl (by with_unfolding_all rfl) rfl rfl ?_ (by kernel_rfl) rfl rfl ?_); focus (simp [rowB, go_sem]; done))
    | (with_reducible refine wpList_box_st hS rfl rfl rfl ?_; intro g1 w1 hS1; clear hS; replace hS := hS1; clear hS1) | (with_reducible refine wpList_box1_st hS rfl rfl rfl ?_; intro g1 w1 hS1; clear hS; replace hS := hS1; clear hS1) | (with_reducible refine wpList_alloc_st hS rfl rfl (by assumption) ?_; intro g1 w1 hS1; clear hS; replace hS := hS1; clear hS1) | (with_reducible refine wpList_alloc1_st hS rfl rfl (by assumption) rfl ?_; intro g1 w1 hS1; clear hS; replace hS := hS1; clear hS1) | ((with_reducible refine wpList_load_st 0 hS rfl rfl rfl rfl ?_ rfl ?_); focus (simp [scalarB, go_sem]; done)) | ((with_reducible refine wpList_loadall_st 0 hS rfl rfl rfl rfl ?_ (by kernel_rfl) ?_); focus (simp [rowB, go_sem]; done)) | ((with_reducible refine wpList_store_st 0 hS rfl rfl rfl rfl (by kernel_rfl) rfl rfl ?_); intro w1 hS1; clear hS; replace hS := hS1; clear hS1; try simp only [List.set_cons_zero, List.set_cons_succ, List.setIfInBounds_toArray, List.take_succ_cons, List.take_zero, List.drop_succ_cons, List.drop_zero, List.nil_append, List.cons_append, List.append_nil, List.drop_nil, List.take_nil, List.length_cons, List.length_nil, Nat.zero_add, Nat.add_zero, Nat.reduceAdd] at hS) | ((with_reducible refine wpList_storerow_st 0 hS rfl rfl rfl rfl (by kernel_rfl) rfl rfl rfl rfl ?_); intro w1 hS1; clear hS; replace hS := hS1; clear hS1; try simp only [List.set_cons_zero, List.set_cons_succ, List.setIfInBounds_toArray, List.take_succ_cons, List.take_zero, List.drop_succ_cons, List.drop_zero, List.nil_append, List.cons_append, List.append_nil, List.drop_nil, List.take_nil, List.length_cons, List.length_nil, Nat.zero_add, Nat.add_zero, Nat.reduceAdd] at hS) | ((with_reducible refine wpList_load_st 1 hS rfl rfl rfl rfl ?_ rfl ?_); focus (simp [scalarB, go_sem]; done)) | ((with_reducible refine wpList_loadall_st 1 hS rfl rfl rfl rfl ?_ (by kernel_rfl) ?_); focus (simp [rowB, go_sem]; done)) | ((with_reducible refine wpList_store_st 1 hS rfl rfl rfl rfl (by kernel_rfl) rfl rfl ?_); intro w1 hS1; clear hS; replace hS := hS1; clear hS1; try simp only [List.set_cons_zero, List.set_cons_succ, List.setIfInBounds_toArray, List.take_succ_cons, List.take_zero, List.drop_succ_cons, List.drop_zero, List.nil_append, List.cons_append, List.append_nil, List.drop_nil, List.take_nil, List.length_cons, List.length_nil, Nat.zero_add, Nat.add_zero, Nat.reduceAdd] at hS) | ((with_reducible refine wpList_storerow_st 1 hS rfl rfl rfl rfl (by kernel_rfl) rfl rfl rfl rfl ?_); intro w1 hS1; clear hS; replace hS := hS1; clear hS1; try simp only [List.set_cons_zero, List.set_cons_succ, List.setIfInBounds_toArray, List.take_succ_cons, List.take_zero, List.drop_succ_cons, List.drop_zero, List.nil_append, List.cons_append, List.append_nil, List.drop_nil, List.take_nil, List.length_cons, List.length_nil, Nat.zero_add, Nat.add_zero, Nat.reduceAdd] at hS))
  go_ret
  exact ⟨rfl, hS.below⟩

end Go.Proofs.Ytajldelodnjmoaa
end

section
/- Pages that may be: the program's and the document's. -/
set_option linter.unusedSimpArgs false
set_option linter.unusedVariables false
namespace Go.Ofp
open Go.RowKit
/-- May a page be? -/
def pgOk (code : Int) (reset : Bool) (fr tto : Tk) (l : List It) : Bool :=
  fr.ok && (if code ≠ 0 then decide (1 ≤ code ∧ code ≤ 16) && !reset && decide (tto = Tk.none) && decide (l.length = 0)
    else if reset = true then decide (l.length = 0) && tto.ok && decide (tto.dev = fr.dev ∧ tto.cur = 0)
    else fr.goes tto && decide (l.length ≤ 16) && itsMay Cd.ok 0 l)
end Go.Ofp
namespace Go.Proofs.Ytajldelodnjmoaa
open Go.RowKit Go.Ofp
set_option linter.unusedVariables false
set_option maxRecDepth 100000
set_option maxHeartbeats 4000000
def pgRow (code : Int) (reset : Bool) (fr tto : Tk) (a : Option Addr) (n c : Nat) : List Value := .int .i64 code :: .bool reset :: (tkRow fr ++ tkRow tto ++ [.slice a n c])

theorem pcheck_any (code : Int) (reset : Bool) (fr tto : Tk) (a : Option Addr) (n c : Nat) (l : List It) (w : World) (hl : Lst itRow ItIn w a n c l) (hn : n ≤ 1000) :
    Calls Try.prog 66 #[.agg (pgRow code reset fr tto a n c).toArray] w fun e w' => e = .returned (.bool (pgOk code reset fr tto l)) ∧ Below w.heap.size w w' := by
  have hS := St.start w
  have cF := fun W : World => tcheck26_any fr W
  have cT := fun W : World => tcheck26_any tto W
  have cG := fun W : World => tgoes_any fr tto W
  have cI := fun W (hb : Below w.heap.size w W) => tcki_any a n c l W (hl.below hb) hn
  have hE := fun W : World => eql_tk tto Tk.none W
  have hG := guard_tk
  have ho : pgOk code reset fr tto l = (fr.ok && (if code ≠ 0 then decide (1 ≤ code ∧ code ≤ 16) && !reset && decide (tto = Tk.none) && decide (n = 0) else if reset = true then decide (n = 0) && tto.ok && decide (tto.dev = fr.dev ∧ tto.cur = 0) else fr.goes tto && decide (n ≤ 16) && itsMay Cd.ok 0 l)) := by
    unfold pgOk
    rw [hl.len]
  rw [ho]
  clear ho
  have hnm : n ≤ 9223372036854775807 := by omega
  generalize fr.ok = okf at *
  generalize tto.ok = okt at *
  generalize fr.goes tto = gg at *
  generalize itsMay Cd.ok 0 l = im at *
  have hz0 : tkRow Tk.none = [.int .i64 0, .int .i64 0, .int .i64 0, .int .i64 0] := rfl
  rw [hz0] at hE
  generalize hzt : decide (tto = Tk.none) = zt at *
  clear hzt hz0
  obtain ⟨a1, a2, a3, a4⟩ := fr
  obtain ⟨b1, b2, b3, b4⟩ := tto
  have h0 : tkRow ⟨a1, a2, a3, a4⟩ = [.int .i64 a1, .int .i64 a2, .int .i64 a3, .int .i64 a4] := rfl
  have h1 : tkRow ⟨b1, b2, b3, b4⟩ = [.int .i64 b1, .int .i64 b2, .int .i64 b3, .int .i64 b4] := rfl
  have h2 : pgRow code reset ⟨a1, a2, a3, a4⟩ ⟨b1, b2, b3, b4⟩ a n c = [.int .i64 code, .bool reset, .int .i64 a1, .int .i64 a2, .int .i64 a3, .int .i64 a4, .int .i64 b1, .int .i64 b2, .int .i64 b3, .int .i64 b4, .slice a n c] := rfl
  rw [h0] at cF cG
  rw [h1] at cT cG hE
  rw [h2]
  clear h0 h1 h2
  dsimp only
  replace cF := Lib.hid cF
  replace cT := Lib.hid cT
  replace cG := Lib.hid cG
  replace cI := Lib.hid cI
  replace hl := Lib.hid hl
  cases okf
  ·
    rw [Bool.false_and]
    go_enter Try.func66, Try.ntmps66
    go_wp2_with (first
      | (go_at_call 65; (with_reducible refine (cF.out _).mono ?_); rintro _ w3 ⟨rfl, hk9⟩; have hS1 := hS.keepB hk9; clear hk9 hS; have hS := hS1; clear hS1)
      | (go_at_call 65; (with_reducible refine (cT.out _).mono ?_); rintro _ w3 ⟨rfl, hk9⟩; have hS1 := hS.keepB hk9; clear hk9 hS; have hS := hS1; clear hS1)
      | (go_at_call 80; (with_reducible refine (cG.out _).mono ?_); rintro _ w3 ⟨rfl, hk9⟩; have hS1 := hS.keepB hk9; clear hk9 hS; have hS := hS1; clear hS1)
      | (go_at_call 32; (with_reducible refine (cI.out _ hS.below).mono ?_); rintro _ w3 ⟨rfl, hk9⟩; have hS1 := hS.keepB hk9; clear hk9 hS; have hS := hS1; clear hS1)
      | ((with_reducible refine wpList_loadrow_st (t := 64) (n := 4) (j := 2) 0 hS rfl rfl rfl rfl ?_ (by kernel_rfl) rfl rfl ?_); focus (simp [rowB, go_sem]; done))
      | ((with_reducible refine wpList_loadrow_st (t := 64) (n := 4) (j := 6) 0 hS rfl rfl rfl rfl ?_ (by kernel_rfl) rfl rfl ?_); focus (simp [rowB, go_sem]; done))
      | ((with_reducible refine wpList_gloadrow_st (t := 64) (n := 4) (j := 6) 0 hS rfl (by with_unfolding_all rfl) rfl rfl ?_ (by kernel_rfl) rfl rfl ?_); focus (simp [rowB, go_sem]; done))
      | ((with_reducible refine wpList_gload_st 0 hS rfl (by with_unfolding_all rfl) rfl rfl ?_ rfl ?_); focus (simp [scalarB, go_sem]; done))
      | (with_reducible refine wpList_box_st hS rfl rfl rfl ?_; intro g1 w1 hS1; clear hS; replace hS := hS1; clear hS1) | (with_reducible refine wpList_box1_st hS rfl rfl rfl ?_; intro g1 w1 hS1; clear hS; replace hS := hS1; clear hS1) | (with_reducible refine wpList_alloc_st hS rfl rfl (by assumption) ?_; intro g1 w1 hS1; clear hS; replace hS := hS1; clear hS1) | (with_reducible refine wpList_alloc1_st hS rfl rfl (by assumption) rfl ?_; intro g1 w1 hS1; clear hS; replace hS := hS1; clear hS1) | ((with_reducible refine wpList_load_st 0 hS rfl rfl rfl rfl ?_ rfl ?_); focus (simp [scalarB, go_sem]; done)) | ((with_reducible refine wpList_loadall_st 0 hS rfl rfl rfl rfl ?_ (by kernel_rfl) ?_); focus (simp [rowB, go_sem]; done)) | ((with_reducible refine wpList_store_st 0 hS rfl rfl rfl rfl (by kernel_rfl) rfl rfl ?_); intro w1 hS1; clear hS; replace hS := hS1; clear hS1; try simp only [List.set_cons_zero, List.set_cons_succ, List.setIfInBounds_toArray, List.take_succ_cons, List.take_zero, List.drop_succ_cons, List.drop_zero, List.nil_append, List.cons_append, List.append_nil, List.drop_nil, List.take_nil, List.length_cons, List.length_nil, Nat.zero_add, Nat.add_zero, Nat.reduceAdd] at hS) | ((with_reducible refine wpList_storerow_st 0 hS rfl rfl rfl rfl (by kernel_rfl) rfl rfl rfl rfl ?_); intro w1 hS1; clear hS; replace hS := hS1; clear hS1; try simp only [List.set_cons_zero, List.set_cons_succ, List.setIfInBounds_toArray, List.take_succ_cons, List.take_zero, List.drop_succ_cons, List.drop_zero, List.nil_append, List.cons_append, List.append_nil, List.drop_nil, List.take_nil, List.length_cons, List.length_nil, Nat.zero_add, Nat.add_zero, Nat.reduceAdd] at hS))
    go_ret
    exact ⟨rfl, hS.below⟩
  rw [Bool.true_and]
  by_cases hc : code = 0
  · have dc : (code != 0) = false := by simpa using hc
    rw [if_neg (by simpa using hc)]
    replace hc := Lib.hid hc
    cases reset
    · rw [if_neg (by decide)]
      cases gg
      ·
        rw [Bool.false_and, Bool.false_and]
        go_enter Try.func66, Try.ntmps66
        go_wp2_with (first
          | (go_at_call 65; (with_reducible refine (cF.out _).mono ?_); rintro _ w3 ⟨rfl, hk9⟩; have hS1 := hS.keepB hk9; clear hk9 hS; have hS := hS1; clear hS1)
          | (go_at_call 65; (with_reducible refine (cT.out _).mono ?_); rintro _ w3 ⟨rfl, hk9⟩; have hS1 := hS.keepB hk9; clear hk9 hS; have hS := hS1; clear hS1)
          | (go_at_call 80; (with_reducible refine (cG.out _).mono ?_); rintro _ w3 ⟨rfl, hk9⟩; have hS1 := hS.keepB hk9; clear hk9 hS; have hS := hS1; clear hS1)
          | (go_at_call 32; (with_reducible refine (cI.out _ hS.below).mono ?_); rintro _ w3 ⟨rfl, hk9⟩; have hS1 := hS.keepB hk9; clear hk9 hS; have hS := hS1; clear hS1)
          | ((with_reducible refine wpList_loadrow_st (t := 64) (n := 4) (j := 2) 0 hS rfl rfl rfl rfl ?_ (by kernel_rfl) rfl rfl ?_); focus (simp [rowB, go_sem]; done))
          | ((with_reducible refine wpList_loadrow_st (t := 64) (n := 4) (j := 6) 0 hS rfl rfl rfl rfl ?_ (by kernel_rfl) rfl rfl ?_); focus (simp [rowB, go_sem]; done))
          | ((with_reducible refine wpList_gloadrow_st (t := 64) (n := 4) (j := 6) 0 hS rfl (by with_unfolding_all rfl) rfl rfl ?_ (by kernel_rfl) rfl rfl ?_); focus (simp [rowB, go_sem]; done))
          | ((with_reducible refine wpList_gload_st 0 hS rfl (by with_unfolding_all rfl) rfl rfl ?_ rfl ?_); focus (simp [scalarB, go_sem]; done))
          | (with_reducible refine wpList_box_st hS rfl rfl rfl ?_; intro g1 w1 hS1; clear hS; replace hS := hS1; clear hS1) | (with_reducible refine wpList_box1_st hS rfl rfl rfl ?_; intro g1 w1 hS1; clear hS; replace hS := hS1; clear hS1) | (with_reducible refine wpList_alloc_st hS rfl rfl (by assumption) ?_; intro g1 w1 hS1; clear hS; replace hS := hS1; clear hS1) | (with_reducible refine wpList_alloc1_st hS rfl rfl (by assumption) rfl ?_; intro g1 w1 hS1; clear hS; replace hS := hS1; clear hS1) | ((with_reducible refine wpList_load_st 0 hS rfl rfl rfl rfl ?_ rfl ?_); focus (simp [scalarB, go_sem]; done)) | ((with_reducible refine wpList_loadall_st 0 hS rfl rfl rfl rfl ?_ (by kernel_rfl) ?_); focus (simp [rowB, go_sem]; done)) | ((with_reducible refine wpList_store_st 0 hS rfl rfl rfl rfl (by kernel_rfl) rfl rfl ?_); intro w1 hS1; clear hS; replace hS := hS1; clear hS1; try simp only [List.set_cons_zero, List.set_cons_succ, List.setIfInBounds_toArray, List.take_succ_cons, List.take_zero, List.drop_succ_cons, List.drop_zero, List.nil_append, List.cons_append, List.append_nil, List.drop_nil, List.take_nil, List.length_cons, List.length_nil, Nat.zero_add, Nat.add_zero, Nat.reduceAdd] at hS) | ((with_reducible refine wpList_storerow_st 0 hS rfl rfl rfl rfl (by kernel_rfl) rfl rfl rfl rfl ?_); intro w1 hS1; clear hS; replace hS := hS1; clear hS1; try simp only [List.set_cons_zero, List.set_cons_succ, List.setIfInBounds_toArray, List.take_succ_cons, List.take_zero, List.drop_succ_cons, List.drop_zero, List.nil_append, List.cons_append, List.append_nil, List.drop_nil, List.take_nil, List.length_cons, List.length_nil, Nat.zero_add, Nat.add_zero, Nat.reduceAdd] at hS))
        go_ret
        exact ⟨rfl, hS.below⟩
      rw [Bool.true_and]
      by_cases hn16 : n ≤ 16
      · have d1 : decide (n ≤ 16) = true := decide_eq_true hn16
        have d2 : decide ((n : Int) ≤ 16) = true := decide_eq_true (by omega)
        rw [d1, Bool.true_and]
        cases im
        ·
          go_enter Try.func66, Try.ntmps66
          go_wp2_with (first
            | (go_at_call 65; (with_reducible refine (cF.out _).mono ?_); rintro _ w3 ⟨rfl, hk9⟩; have hS1 := hS.keepB hk9; clear hk9 hS; have hS := hS1; clear hS1)
            | (go_at_call 65; (with_reducible refine (cT.out _).mono ?_); rintro _ w3 ⟨rfl, hk9⟩; have hS1 := hS.keepB hk9; clear hk9 hS; have hS := hS1; clear hS1)
            | (go_at_call 80; (with_reducible refine (cG.out _).mono ?_); rintro _ w3 ⟨rfl, hk9⟩; have hS1 := hS.keepB hk9; clear hk9 hS; have hS := hS1; clear hS1)
            | (go_at_call 32; (with_reducible refine (cI.out _ hS.below).mono ?_); rintro _ w3 ⟨rfl, hk9⟩; have hS1 := hS.keepB hk9; clear hk9 hS; have hS := hS1; clear hS1)
            | ((with_reducible refine wpList_loadrow_st (t := 64) (n := 4) (j := 2) 0 hS rfl rfl rfl rfl ?_ (by kernel_rfl) rfl rfl ?_); focus (simp [rowB, go_sem]; done))
            | ((with_reducible refine wpList_loadrow_st (t := 64) (n := 4) (j := 6) 0 hS rfl rfl rfl rfl ?_ (by kernel_rfl) rfl rfl ?_); focus (simp [rowB, go_sem]; done))
            | ((with_reducible refine wpList_gloadrow_st (t := 64) (n := 4) (j := 6) 0 hS rfl (by with_unfolding_all rfl) rfl rfl ?_ (by kernel_rfl) rfl rfl ?_); focus (simp [rowB, go_sem]; done))
            | ((with_reducible refine wpList_gload_st 0 hS rfl (by with_unfolding_all rfl) rfl rfl ?_ rfl ?_); focus (simp [scalarB, go_sem]; done))
            | (with_reducible refine wpList_box_st hS rfl rfl rfl ?_; intro g1 w1 hS1; clear hS; replace hS := hS1; clear hS1) | (with_reducible refine wpList_box1_st hS rfl rfl rfl ?_; intro g1 w1 hS1; clear hS; replace hS := hS1; clear hS1) | (with_reducible refine wpList_alloc_st hS rfl rfl (by assumption) ?_; intro g1 w1 hS1; clear hS; replace hS := hS1; clear hS1) | (with_reducible refine wpList_alloc1_st hS rfl rfl (by assumption) rfl ?_; intro g1 w1 hS1; clear hS; replace hS := hS1; clear hS1) | ((with_reducible refine wpList_load_st 0 hS rfl rfl rfl rfl ?_ rfl ?_); focus (simp [scalarB, go_sem]; done)) | ((with_reducible refine wpList_loadall_st 0 hS rfl rfl rfl rfl ?_ (by kernel_rfl) ?_); focus (simp [rowB, go_sem]; done)) | ((with_reducible refine wpList_store_st 0 hS rfl rfl rfl rfl (by kernel_rfl) rfl rfl ?_); intro w1 hS1; clear hS; replace hS := hS1; clear hS1; try simp only [List.set_cons_zero, List.set_cons_succ, List.setIfInBounds_toArray, List.take_succ_cons, List.take_zero, List.drop_succ_cons, List.drop_zero, List.nil_append, List.cons_append, List.append_nil, List.drop_nil, List.take_nil, List.length_cons, List.length_nil, Nat.zero_add, Nat.add_zero, Nat.reduceAdd] at hS) | ((with_reducible refine wpList_storerow_st 0 hS rfl rfl rfl rfl (by kernel_rfl) rfl rfl rfl rfl ?_); intro w1 hS1; clear hS; replace hS := hS1; clear hS1; try simp only [List.set_cons_zero, List.set_cons_succ, List.setIfInBounds_toArray, List.take_succ_cons, List.take_zero, List.drop_succ_cons, List.drop_zero, List.nil_append, List.cons_append, List.append_nil, List.drop_nil, List.take_nil, List.length_cons, List.length_nil, Nat.zero_add, Nat.add_zero, Nat.reduceAdd] at hS))
          go_ret
          exact ⟨rfl, hS.below⟩
        ·
          go_enter Try.func66, Try.ntmps66
          go_wp2_with (first
            | (go_at_call 65; (with_reducible refine (cF.out _).mono ?_); rintro _ w3 ⟨rfl, hk9⟩; have hS1 := hS.keepB hk9; clear hk9 hS; have hS := hS1; clear hS1)
            | (go_at_call 65; (with_reducible refine (cT.out _).mono ?_); rintro _ w3 ⟨rfl, hk9⟩; have hS1 := hS.keepB hk9; clear hk9 hS; have hS := hS1; clear hS1)
            | (go_at_call 80; (with_reducible refine (cG.out _).mono ?_); rintro _ w3 ⟨rfl, hk9⟩; have hS1 := hS.keepB hk9; clear hk9 hS; have hS := hS1; clear hS1)
            | (go_at_call 32; (with_reducible refine (cI.out _ hS.below).mono ?_); rintro _ w3 ⟨rfl, hk9⟩; have hS1 := hS.keepB hk9; clear hk9 hS; have hS := hS1; clear hS1)
            | ((with_reducible refine wpList_loadrow_st (t := 64) (n := 4) (j := 2) 0 hS rfl rfl rfl rfl ?_ (by kernel_rfl) rfl rfl ?_); focus (simp [rowB, go_sem]; done))
            | ((with_reducible refine wpList_loadrow_st (t := 64) (n := 4) (j := 6) 0 hS rfl rfl rfl rfl ?_ (by kernel_rfl) rfl rfl ?_); focus (simp [rowB, go_sem]; done))
            | ((with_reducible refine wpList_gloadrow_st (t := 64) (n := 4) (j := 6) 0 hS rfl (by with_unfolding_all rfl) rfl rfl ?_ (by kernel_rfl) rfl rfl ?_); focus (simp [rowB, go_sem]; done))
            | ((with_reducible refine wpList_gload_st 0 hS rfl (by with_unfolding_all rfl) rfl rfl ?_ rfl ?_); focus (simp [scalarB, go_sem]; done))
            | (with_reducible refine wpList_box_st hS rfl rfl rfl ?_; intro g1 w1 hS1; clear hS; replace hS := hS1; clear hS1) | (with_reducible refine wpList_box1_st hS rfl rfl rfl ?_; intro g1 w1 hS1; clear hS; replace hS := hS1; clear hS1) | (with_reducible refine wpList_alloc_st hS rfl rfl (by assumption) ?_; intro g1 w1 hS1; clear hS; replace hS := hS1; clear hS1) | (with_reducible refine wpList_alloc1_st hS rfl rfl (by assumption) rfl ?_; intro g1 w1 hS1; clear hS; replace hS := hS1; clear hS1) | ((with_reducible refine wpList_load_st 0 hS rfl rfl rfl rfl ?_ rfl ?_); focus (simp [scalarB, go_sem]; done)) | ((with_reducible refine wpList_loadall_st 0 hS rfl rfl rfl rfl ?_ (by kernel_rfl) ?_); focus (simp [rowB, go_sem]; done)) | ((with_reducible refine wpList_store_st 0 hS rfl rfl rfl rfl (by kernel_rfl) rfl rfl ?_); intro w1 hS1; clear hS; replace hS := hS1; clear hS1; try simp only [List.set_cons_zero, List.set_cons_succ, List.setIfInBounds_toArray, List.take_succ_cons, List.take_zero, List.drop_succ_cons, List.drop_zero, List.nil_append, List.cons_append, List.append_nil, List.drop_nil, List.take_nil, List.length_cons, List.length_nil, Nat.zero_add, Nat.add_zero, Nat.reduceAdd] at hS) | ((with_reducible refine wpList_storerow_st 0 hS rfl rfl rfl rfl (by kernel_rfl) rfl rfl rfl rfl ?_); intro w1 hS1; clear hS; replace hS := hS1; clear hS1; try simp only [List.set_cons_zero, List.set_cons_succ, List.setIfInBounds_toArray, List.take_succ_cons, List.take_zero, List.drop_succ_cons, List.drop_zero, List.nil_append, List.cons_append, List.append_nil, List.drop_nil, List.take_nil, List.length_cons, List.length_nil, Nat.zero_add, Nat.add_zero, Nat.reduceAdd] at hS))
          go_ret
          exact ⟨rfl, hS.below⟩
      · have d1 : decide (n ≤ 16) = false := decide_eq_false hn16
        have d2 : decide ((n : Int) ≤ 16) = false := decide_eq_false (by omega)
        rw [d1, Bool.false_and]
        clear hn16
        cases im
        ·
          go_enter Try.func66, Try.ntmps66
          go_wp2_with (first
            | (go_at_call 65; (with_reducible refine (cF.out _).mono ?_); rintro _ w3 ⟨rfl, hk9⟩; have hS1 := hS.keepB hk9; clear hk9 hS; have hS := hS1; clear hS1)
            | (go_at_call 65; (with_reducible refine (cT.out _).mono ?_); rintro _ w3 ⟨rfl, hk9⟩; have hS1 := hS.keepB hk9; clear hk9 hS; have hS := hS1; clear hS1)
            | (go_at_call 80; (with_reducible refine (cG.out _).mono ?_); rintro _ w3 ⟨rfl, hk9⟩; have hS1 := hS.keepB hk9; clear hk9 hS; have hS := hS1; clear hS1)
            | (go_at_call 32; (with_reducible refine (cI.out _ hS.below).mono ?_); rintro _ w3 ⟨rfl, hk9⟩; have hS1 := hS.keepB hk9; clear hk9 hS; have hS := hS1; clear hS1)
            | ((with_reducible refine wpList_loadrow_st (t := 64) (n := 4) (j := 2) 0 hS rfl rfl rfl rfl ?_ (by kernel_rfl) rfl rfl ?_); focus (simp [rowB, go_sem]; done))
            | ((with_reducible refine wpList_loadrow_st (t := 64) (n := 4) (j := 6) 0 hS rfl rfl rfl rfl ?_ (by kernel_rfl) rfl rfl ?_); focus (simp [rowB, go_sem]; done))
            | ((with_reducible refine wpList_gloadrow_st (t := 64) (n := 4) (j := 6) 0 hS rfl (by with_unfolding_all rfl) rfl rfl ?_ (by kernel_rfl) rfl rfl ?_); focus (simp [rowB, go_sem]; done))
            | ((with_reducible refine wpList_gload_st 0 hS rfl (by with_unfolding_all rfl) rfl rfl ?_ rfl ?_); focus (simp [scalarB, go_sem]; done))
            | (with_reducible refine wpList_box_st hS rfl rfl rfl ?_; intro g1 w1 hS1; clear hS; replace hS := hS1; clear hS1) | (with_reducible refine wpList_box1_st hS rfl rfl rfl ?_; intro g1 w1 hS1; clear hS; replace hS := hS1; clear hS1) | (with_reducible refine wpList_alloc_st hS rfl rfl (by assumption) ?_; intro g1 w1 hS1; clear hS; replace hS := hS1; clear hS1) | (with_reducible refine wpList_alloc1_st hS rfl rfl (by assumption) rfl ?_; intro g1 w1 hS1; clear hS; replace hS := hS1; clear hS1) | ((with_reducible refine wpList_load_st 0 hS rfl rfl rfl rfl ?_ rfl ?_); focus (simp [scalarB, go_sem]; done)) | ((with_reducible refine wpList_loadall_st 0 hS rfl rfl rfl rfl ?_ (by kernel_rfl) ?_); focus (simp [rowB, go_sem]; done)) | ((with_reducible refine wpList_store_st 0 hS rfl rfl rfl rfl (by kernel_rfl) rfl rfl ?_); intro w1 hS1; clear hS; replace hS := hS1; clear hS1; try simp only [List.set_cons_zero, List.set_cons_succ, List.setIfInBounds_toArray, List.take_succ_cons, List.take_zero, List.drop_succ_cons, List.drop_zero, List.nil_append, List.cons_append, List.append_nil, List.drop_nil, List.take_nil, List.length_cons, List.length_nil, Nat.zero_add, Nat.add_zero, Nat.reduceAdd] at hS) | ((with_reducible refine wpList_storerow_st 0 hS rfl rfl rfl rfl (by kernel_rfl) rfl rfl rfl rfl ?_); intro w1 hS1; clear hS; replace hS := hS1; clear hS1; try simp only [List.set_cons_zero, List.set_cons_succ, List.setIfInBounds_toArray, List.take_succ_cons, List.take_zero, List.drop_succ_cons, List.drop_zero, List.nil_append, List.cons_append, List.append_nil, List.drop_nil, List.take_nil, List.length_cons, List.length_nil, Nat.zero_add, Nat.add_zero, Nat.reduceAdd] at hS))
          go_ret
          exact ⟨rfl, hS.below⟩
        ·
          go_enter Try.func66, Try.ntmps66
          go_wp2_with (first
            | (go_at_call 65; (with_reducible refine (cF.out _).mono ?_); rintro _ w3 ⟨rfl, hk9⟩; have hS1 := hS.keepB hk9; clear hk9 hS; have hS := hS1; clear hS1)
            | (go_at_call 65; (with_reducible refine (cT.out _).mono ?_); rintro _ w3 ⟨rfl, hk9⟩; have hS1 := hS.keepB hk9; clear hk9 hS; have hS := hS1; clear hS1)
            | (go_at_call 80; (with_reducible refine (cG.out _).mono ?_); rintro _ w3 ⟨rfl, hk9⟩; have hS1 := hS.keepB hk9; clear hk9 hS; have hS := hS1; clear hS1)
            | (go_at_call 32; (with_reducible refine (cI.out _ hS.below).mono ?_); rintro _ w3 ⟨rfl, hk9⟩; have hS1 := hS.keepB hk9; clear hk9 hS; have hS := hS1; clear hS1)
            | ((with_reducible refine wpList_loadrow_st (t := 64) (n := 4) (j := 2) 0 hS rfl rfl rfl rfl ?_ (by kernel_rfl) rfl rfl ?_); focus (simp [rowB, go_sem]; done))
            | ((with_reducible refine wpList_loadrow_st (t := 64) (n := 4) (j := 6) 0 hS rfl rfl rfl rfl ?_ (by kernel_rfl) rfl rfl ?_); focus (simp [rowB, go_sem]; done))
            | ((with_reducible refine wpList_gloadrow_st (t := 64) (n := 4) (j := 6) 0 hS rfl (by with_unfolding_all rfl) rfl rfl ?_ (by kernel_rfl) rfl rfl ?_); focus (simp [rowB, go_sem]; done))
            | ((with_reducible refine wpList_gload_st 0 hS rfl (by with_unfolding_all rfl) rfl rfl ?_ rfl ?_); focus (simp [scalarB, go_sem]; done))
            | (with_reducible refine wpList_box_st hS rfl rfl rfl ?_; intro g1 w1 hS1; clear hS; replace hS := hS1; clear hS1) | (with_reducible refine wpList_box1_st hS rfl rfl rfl ?_; intro g1 w1 hS1; clear hS; replace hS := hS1; clear hS1) | (with_reducible refine wpList_alloc_st hS rfl rfl (by assumption) ?_; intro g1 w1 hS1; clear hS; replace hS := hS1; clear hS1) | (with_reducible refine wpList_alloc1_st hS rfl rfl (by assumption) rfl ?_; intro g1 w1 hS1; clear hS; replace hS := hS1; clear hS1) | ((with_reducible refine wpList_load_st 0 hS rfl rfl rfl rfl ?_ rfl ?_); focus (simp [scalarB, go_sem]; done)) | ((with_reducible refine wpList_loadall_st 0 hS rfl rfl rfl rfl ?_ (by kernel_rfl) ?_); focus (simp [rowB, go_sem]; done)) | ((with_reducible refine wpList_store_st 0 hS rfl rfl rfl rfl (by kernel_rfl) rfl rfl ?_); intro w1 hS1; clear hS; replace hS := hS1; clear hS1; try simp only [List.set_cons_zero, List.set_cons_succ, List.setIfInBounds_toArray, List.take_succ_cons, List.take_zero, List.drop_succ_cons, List.drop_zero, List.nil_append, List.cons_append, List.append_nil, List.drop_nil, List.take_nil, List.length_cons, List.length_nil, Nat.zero_add, Nat.add_zero, Nat.reduceAdd] at hS) | ((with_reducible refine wpList_storerow_st 0 hS rfl rfl rfl rfl (by kernel_rfl) rfl rfl rfl rfl ?_); intro w1 hS1; clear hS; replace hS := hS1; clear hS1; try simp only [List.set_cons_zero, List.set_cons_succ, List.setIfInBounds_toArray, List.take_succ_cons, List.take_zero, List.drop_succ_cons, List.drop_zero, List.nil_append, List.cons_append, List.append_nil, List.drop_nil, List.take_nil, List.length_cons, List.length_nil, Nat.zero_add, Nat.add_zero, Nat.reduceAdd] at hS))
          go_ret
          exact ⟨rfl, hS.below⟩
    · rw [if_pos rfl]
      by_cases hn0 : n = 0
      · have d1 : ((n : Int) == 0) = true := by rw [beq_iff_eq]; omega
        have d2 : (n == 0) = true := by rw [beq_iff_eq]; exact hn0
        rw [decide_eq_true hn0, Bool.true_and]
        replace hn0 := Lib.hid hn0
        cases okt
        ·
          rw [Bool.false_and]
          go_enter Try.func66, Try.ntmps66
          go_wp2_with (first
            | (go_at_call 65; (with_reducible refine (cF.out _).mono ?_); rintro _ w3 ⟨rfl, hk9⟩; have hS1 := hS.keepB hk9; clear hk9 hS; have hS := hS1; clear hS1)
            | (go_at_call 65; (with_reducible refine (cT.out _).mono ?_); rintro _ w3 ⟨rfl, hk9⟩; have hS1 := hS.keepB hk9; clear hk9 hS; have hS := hS1; clear hS1)
            | (go_at_call 80; (with_reducible refine (cG.out _).mono ?_); rintro _ w3 ⟨rfl, hk9⟩; have hS1 := hS.keepB hk9; clear hk9 hS; have hS := hS1; clear hS1)
            | (go_at_call 32; (with_reducible refine (cI.out _ hS.below).mono ?_); rintro _ w3 ⟨rfl, hk9⟩; have hS1 := hS.keepB hk9; clear hk9 hS; have hS := hS1; clear hS1)
            | ((with_reducible refine wpList_loadrow_st (t := 64) (n := 4) (j := 2) 0 hS rfl rfl rfl rfl ?_ (by kernel_rfl) rfl rfl ?_); focus (simp [rowB, go_sem]; done))
            | ((with_reducible refine wpList_loadrow_st (t := 64) (n := 4) (j := 6) 0 hS rfl rfl rfl rfl ?_ (by kernel_rfl) rfl rfl ?_); focus (simp [rowB, go_sem]; done))
            | ((with_reducible refine wpList_gloadrow_st (t := 64) (n := 4) (j := 6) 0 hS rfl (by with_unfolding_all rfl) rfl rfl ?_ (by kernel_rfl) rfl rfl ?_); focus (simp [rowB, go_sem]; done))
            | ((with_reducible refine wpList_gload_st 0 hS rfl (by with_unfolding_all rfl) rfl rfl ?_ rfl ?_); focus (simp [scalarB, go_sem]; done))
            | (with_reducible refine wpList_box_st hS rfl rfl rfl ?_; intro g1 w1 hS1; clear hS; replace hS := hS1; clear hS1) | (with_reducible refine wpList_box1_st hS rfl rfl rfl ?_; intro g1 w1 hS1; clear hS; replace hS := hS1; clear hS1) | (with_reducible refine wpList_alloc_st hS rfl rfl (by assumption) ?_; intro g1 w1 hS1; clear hS; replace hS := hS1; clear hS1) | (with_reducible refine wpList_alloc1_st hS rfl rfl (by assumption) rfl ?_; intro g1 w1 hS1; clear hS; replace hS := hS1; clear hS1) | ((with_reducible refine wpList_load_st 0 hS rfl rfl rfl rfl ?_ rfl ?_); focus (simp [scalarB, go_sem]; done)) | ((with_reducible refine wpList_loadall_st 0 hS rfl rfl rfl rfl ?_ (by kernel_rfl) ?_); focus (simp [rowB, go_sem]; done)) | ((with_reducible refine wpList_store_st 0 hS rfl rfl rfl rfl (by kernel_rfl) rfl rfl ?_); intro w1 hS1; clear hS; replace hS := hS1; clear hS1; try simp only [List.set_cons_zero, List.set_cons_succ, List.setIfInBounds_toArray, List.take_succ_cons, List.take_zero, List.drop_succ_cons, List.drop_zero, List.nil_append, List.cons_append, List.append_nil, List.drop_nil, List.take_nil, List.length_cons, List.length_nil, Nat.zero_add, Nat.add_zero, Nat.reduceAdd] at hS) | ((with_reducible refine wpList_storerow_st 0 hS rfl rfl rfl rfl (by kernel_rfl) rfl rfl rfl rfl ?_); intro w1 hS1; clear hS; replace hS := hS1; clear hS1; try simp only [List.set_cons_zero, List.set_cons_succ, List.setIfInBounds_toArray, List.take_succ_cons, List.take_zero, List.drop_succ_cons, List.drop_zero, List.nil_append, List.cons_append, List.append_nil, List.drop_nil, List.take_nil, List.length_cons, List.length_nil, Nat.zero_add, Nat.add_zero, Nat.reduceAdd] at hS))
          go_ret
          exact ⟨rfl, hS.below⟩
        rw [Bool.true_and]
        by_cases hd : b1 = a1
        · have d3 : (b1 == a1) = true := by simpa using hd
          by_cases hcu : b4 = 0
          · have d4 : (b4 == 0) = true := by simpa using hcu
            rw [decide_eq_true ⟨hd, hcu⟩]
            clear hd hcu
            go_enter Try.func66, Try.ntmps66
            go_wp2_with (first
              | (go_at_call 65; (with_reducible refine (cF.out _).mono ?_); rintro _ w3 ⟨rfl, hk9⟩; have hS1 := hS.keepB hk9; clear hk9 hS; have hS := hS1; clear hS1)
              | (go_at_call 65; (with_reducible refine (cT.out _).mono ?_); rintro _ w3 ⟨rfl, hk9⟩; have hS1 := hS.keepB hk9; clear hk9 hS; have hS := hS1; clear hS1)
              | (go_at_call 80; (with_reducible refine (cG.out _).mono ?_); rintro _ w3 ⟨rfl, hk9⟩; have hS1 := hS.keepB hk9; clear hk9 hS; have hS := hS1; clear hS1)
              | (go_at_call 32; (with_reducible refine (cI.out _ hS.below).mono ?_); rintro _ w3 ⟨rfl, hk9⟩; have hS1 := hS.keepB hk9; clear hk9 hS; have hS := hS1; clear hS1)
              | ((with_reducible refine wpList_loadrow_st (t := 64) (n := 4) (j := 2) 0 hS rfl rfl rfl rfl ?_ (by kernel_rfl) rfl rfl ?_); focus (simp [rowB, go_sem]; done))
              | ((with_reducible refine wpList_loadrow_st (t := 64) (n := 4) (j := 6) 0 hS rfl rfl rfl rfl ?_ (by kernel_rfl) rfl rfl ?_); focus (simp [rowB, go_sem]; done))
              | ((with_reducible refine wpList_gloadrow_st (t := 64) (n := 4) (j := 6) 0 hS rfl (by with_unfolding_all rfl) rfl rfl ?_ (by kernel_rfl) rfl rfl ?_); focus (simp [rowB, go_sem]; done))
              | ((with_reducible refine wpList_gload_st 0 hS rfl (by with_unfolding_all rfl) rfl rfl ?_ rfl ?_); focus (simp [scalarB, go_sem]; done))
              | (with_reducible refine wpList_box_st hS rfl rfl rfl ?_; intro g1 w1 hS1; clear hS; replace hS := hS1; clear hS1) | (with_reducible refine wpList_box1_st hS rfl rfl rfl ?_; intro g1 w1 hS1; clear hS; replace hS := hS1; clear hS1) | (with_reducible refine wpList_alloc_st hS rfl rfl (by assumption) ?_; intro g1 w1 hS1; clear hS; replace hS := hS1; clear hS1) | (with_reducible refine wpList_alloc1_st hS rfl rfl (by assumption) rfl ?_; intro g1 w1 hS1; clear hS; replace hS := hS1; clear hS1) | ((with_reducible refine wpList_load_st 0 hS rfl rfl rfl rfl ?_ rfl ?_); focus (simp [scalarB, go_sem]; done)) | ((with_reducible refine wpList_loadall_st 0 hS rfl rfl rfl rfl ?_ (by kernel_rfl) ?_); focus (simp [rowB, go_sem]; done)) | ((with_reducible refine wpList_store_st 0 hS rfl rfl rfl rfl (by kernel_rfl) rfl rfl ?_); intro w1 hS1; clear hS; replace hS := hS1; clear hS1; try simp only [List.set_cons_zero, List.set_cons_succ, List.setIfInBounds_toArray, List.take_succ_cons, List.take_zero, List.drop_succ_cons, List.drop_zero, List.nil_append, List.cons_append, List.append_nil, List.drop_nil, List.take_nil, List.length_cons, List.length_nil, Nat.zero_add, Nat.add_zero, Nat.reduceAdd] at hS) | ((with_reducible refine wpList_storerow_st 0 hS rfl rfl rfl rfl (by kernel_rfl) rfl rfl rfl rfl ?_); intro w1 hS1; clear hS; replace hS := hS1; clear hS1; try simp only [List.set_cons_zero, List.set_cons_succ, List.setIfInBounds_toArray, List.take_succ_cons, List.take_zero, List.drop_succ_cons, List.drop_zero, List.nil_append, List.cons_append, List.append_nil, List.drop_nil, List.take_nil, List.length_cons, List.length_nil, Nat.zero_add, Nat.add_zero, Nat.reduceAdd] at hS))
            go_ret
            exact ⟨rfl, hS.below⟩
          · have d4 : (b4 == 0) = false := by simpa using hcu
            rw [decide_eq_false fun h => hcu h.2]
            clear hd hcu
            go_enter Try.func66, Try.ntmps66
            go_wp2_with (first
              | (go_at_call 65; (with_reducible refine (cF.out _).mono ?_); rintro _ w3 ⟨rfl, hk9⟩; have hS1 := hS.keepB hk9; clear hk9 hS; have hS := hS1; clear hS1)
              | (go_at_call 65; (with_reducible refine (cT.out _).mono ?_); rintro _ w3 ⟨rfl, hk9⟩; have hS1 := hS.keepB hk9; clear hk9 hS; have hS := hS1; clear hS1)
              | (go_at_call 80; (with_reducible refine (cG.out _).mono ?_); rintro _ w3 ⟨rfl, hk9⟩; have hS1 := hS.keepB hk9; clear hk9 hS; have hS := hS1; clear hS1)
              | (go_at_call 32; (with_reducible refine (cI.out _ hS.below).mono ?_); rintro _ w3 ⟨rfl, hk9⟩; have hS1 := hS.keepB hk9; clear hk9 hS; have hS := hS1; clear hS1)
              | ((with_reducible refine wpList_loadrow_st (t := 64) (n := 4) (j := 2) 0 hS rfl rfl rfl rfl ?_ (by kernel_rfl) rfl rfl ?_); focus (simp [rowB, go_sem]; done))
              | ((with_reducible refine wpList_loadrow_st (t := 64) (n := 4) (j := 6) 0 hS rfl rfl rfl rfl ?_ (by kernel_rfl) rfl rfl ?_); focus (simp [rowB, go_sem]; done))
              | ((with_reducible refine wpList_gloadrow_st (t := 64) (n := 4) (j := 6) 0 hS rfl (by with_unfolding_all rfl) rfl rfl ?_ (by kernel_rfl) rfl rfl ?_); focus (simp [rowB, go_sem]; done))
              | ((with_reducible refine wpList_gload_st 0 hS rfl (by with_unfolding_all rfl) rfl rfl ?_ rfl ?_); focus (simp [scalarB, go_sem]; done))
              | (with_reducible refine wpList_box_st hS rfl rfl rfl ?_; intro g1 w1 hS1; clear hS; replace hS := hS1; clear hS1) | (with_reducible refine wpList_box1_st hS rfl rfl rfl ?_; intro g1 w1 hS1; clear hS; replace hS := hS1; clear hS1) | (with_reducible refine wpList_alloc_st hS rfl rfl (by assumption) ?_; intro g1 w1 hS1; clear hS; replace hS := hS1; clear hS1) | (with_reducible refine wpList_alloc1_st hS rfl rfl (by assumption) rfl ?_; intro g1 w1 hS1; clear hS; replace hS := hS1; clear hS1) | ((with_reducible refine wpList_load_st 0 hS rfl rfl rfl rfl ?_ rfl ?_); focus (simp [scalarB, go_sem]; done)) | ((with_reducible refine wpList_loadall_st 0 hS rfl rfl rfl rfl ?_ (by kernel_rfl) ?_); focus (simp [rowB, go_sem]; done)) | ((with_reducible refine wpList_store_st 0 hS rfl rfl rfl rfl (by kernel_rfl) rfl rfl ?_); intro w1 hS1; clear hS; replace hS := hS1; clear hS1; try simp only [List.set_cons_zero, List.set_cons_succ, List.setIfInBounds_toArray, List.take_succ_cons, List.take_zero, List.drop_succ_cons, List.drop_zero, List.nil_append, List.cons_append, List.append_nil, List.drop_nil, List.take_nil, List.length_cons, List.length_nil, Nat.zero_add, Nat.add_zero, Nat.reduceAdd] at hS) | ((with_reducible refine wpList_storerow_st 0 hS rfl rfl rfl rfl (by kernel_rfl) rfl rfl rfl rfl ?_); intro w1 hS1; clear hS; replace hS := hS1; clear hS1; try simp only [List.set_cons_zero, List.set_cons_succ, List.setIfInBounds_toArray, List.take_succ_cons, List.take_zero, List.drop_succ_cons, List.drop_zero, List.nil_append, List.cons_append, List.append_nil, List.drop_nil, List.take_nil, List.length_cons, List.length_nil, Nat.zero_add, Nat.add_zero, Nat.reduceAdd] at hS))
            go_ret
            exact ⟨rfl, hS.below⟩
        · have d3 : (b1 == a1) = false := by simpa using hd
          rw [decide_eq_false fun h => hd h.1]
          clear hd
          go_enter Try.func66, Try.ntmps66
          go_wp2_with (first
            | (go_at_call 65; (with_reducible refine (cF.out _).mono ?_); rintro _ w3 ⟨rfl, hk9⟩; have hS1 := hS.keepB hk9; clear hk9 hS; have hS := hS1; clear hS1)
            | (go_at_call 65; (with_reducible refine (cT.out _).mono ?_); rintro _ w3 ⟨rfl, hk9⟩; have hS1 := hS.keepB hk9; clear hk9 hS; have hS := hS1; clear hS1)
            | (go_at_call 80; (with_reducible refine (cG.out _).mono ?_); rintro _ w3 ⟨rfl, hk9⟩; have hS1 := hS.keepB hk9; clear hk9 hS; have hS := hS1; clear hS1)
            | (go_at_call 32; (with_reducible refine (cI.out _ hS.below).mono ?_); rintro _ w3 ⟨rfl, hk9⟩; have hS1 := hS.keepB hk9; clear hk9 hS; have hS := hS1; clear hS1)
            | ((with_reducible refine wpList_loadrow_st (t := 64) (n := 4) (j := 2) 0 hS rfl rfl rfl rfl ?_ (by kernel_rfl) rfl rfl ?_); focus (simp [rowB, go_sem]; done))
            | ((with_reducible refine wpList_loadrow_st (t := 64) (n := 4) (j := 6) 0 hS rfl rfl rfl rfl ?_ (by kernel_rfl) rfl rfl ?_); focus (simp [rowB, go_sem]; done))
            | ((with_reducible refine wpList_gloadrow_st (t := 64) (n := 4) (j := 6) 0 hS rfl (by with_unfolding_all rfl) rfl rfl ?_ (by kernel_rfl) rfl rfl ?_); focus (simp [rowB, go_sem]; done))
            | ((with_reducible refine wpList_gload_st 0 hS rfl (by with_unfolding_all rfl) rfl rfl ?_ rfl ?_); focus (simp [scalarB, go_sem]; done))
            | (with_reducible refine wpList_box_st hS rfl rfl rfl ?_; intro g1 w1 hS1; clear hS; replace hS := hS1; clear hS1) | (with_reducible refine wpList_box1_st hS rfl rfl rfl ?_; intro g1 w1 hS1; clear hS; replace hS := hS1; clear hS1) | (with_reducible refine wpList_alloc_st hS rfl rfl (by assumption) ?_; intro g1 w1 hS1; clear hS; replace hS := hS1; clear hS1) | (with_reducible refine wpList_alloc1_st hS rfl rfl (by assumption) rfl ?_; intro g1 w1 hS1; clear hS; replace hS := hS1; clear hS1) | ((with_reducible refine wpList_load_st 0 hS rfl rfl rfl rfl ?_ rfl ?_); focus (simp [scalarB, go_sem]; done)) | ((with_reducible refine wpList_loadall_st 0 hS rfl rfl rfl rfl ?_ (by kernel_rfl) ?_); focus (simp [rowB, go_sem]; done)) | ((with_reducible refine wpList_store_st 0 hS rfl rfl rfl rfl (by kernel_rfl) rfl rfl ?_); intro w1 hS1; clear hS; replace hS := hS1; clear hS1; try simp only [List.set_cons_zero, List.set_cons_succ, List.setIfInBounds_toArray, List.take_succ_cons, List.take_zero, List.drop_succ_cons, List.drop_zero, List.nil_append, List.cons_append, List.append_nil, List.drop_nil, List.take_nil, List.length_cons, List.length_nil, Nat.zero_add, Nat.add_zero, Nat.reduceAdd] at hS) | ((with_reducible refine wpList_storerow_st 0 hS rfl rfl rfl rfl (by kernel_rfl) rfl rfl rfl rfl ?_); intro w1 hS1; clear hS; replace hS := hS1; clear hS1; try simp only [List.set_cons_zero, List.set_cons_succ, List.setIfInBounds_toArray, List.take_succ_cons, List.take_zero, List.drop_succ_cons, List.drop_zero, List.nil_append, List.cons_append, List.append_nil, List.drop_nil, List.take_nil, List.length_cons, List.length_nil, Nat.zero_add, Nat.add_zero, Nat.reduceAdd] at hS))
          go_ret
          exact ⟨rfl, hS.below⟩
      · have d1 : ((n : Int) == 0) = false := by rw [beq_eq_false_iff_ne]; omega
        have d2 : (n == 0) = false := by rw [beq_eq_false_iff_ne]; exact hn0
        rw [decide_eq_false hn0, Bool.false_and, Bool.false_and]
        clear hn0
        go_enter Try.func66, Try.ntmps66
        go_wp2_with (first
          | (go_at_call 65; (with_reducible refine (cF.out _).mono ?_); rintro _ w3 ⟨rfl, hk9⟩; have hS1 := hS.keepB hk9; clear hk9 hS; have hS := hS1; clear hS1)
          | (go_at_call 65; (with_reducible refine (cT.out _).mono ?_); rintro _ w3 ⟨rfl, hk9⟩; have hS1 := hS.keepB hk9; clear hk9 hS; have hS := hS1; clear hS1)
          | (go_at_call 80; (with_reducible refine (cG.out _).mono ?_); rintro _ w3 ⟨rfl, hk9⟩; have hS1 := hS.keepB hk9; clear hk9 hS; have hS := hS1; clear hS1)
          | (go_at_call 32; (with_reducible refine (cI.out _ hS.below).mono ?_); rintro _ w3 ⟨rfl, hk9⟩; have hS1 := hS.keepB hk9; clear hk9 hS; have hS := hS1; clear hS1)
          | ((with_reducible refine wpList_loadrow_st (t := 64) (n := 4) (j := 2) 0 hS rfl rfl rfl rfl ?_ (by kernel_rfl) rfl rfl ?_); focus (simp [rowB, go_sem]; done))
          | ((with_reducible refine wpList_loadrow_st (t := 64) (n := 4) (j := 6) 0 hS rfl rfl rfl rfl ?_ (by kernel_rfl) rfl rfl ?_); focus (simp [rowB, go_sem]; done))
          | ((with_reducible refine wpList_gloadrow_st (t := 64) (n := 4) (j := 6) 0 hS rfl (by with_unfolding_all rfl) rfl rfl ?_ (by kernel_rfl) rfl rfl ?_); focus (simp [rowB, go_sem]; done))
          | ((with_reducible refine wpList_gload_st 0 hS rfl (by with_unfolding_all rfl) rfl rfl ?_ rfl ?_); focus (simp [scalarB, go_sem]; done))
          | (with_reducible refine wpList_box_st hS rfl rfl rfl ?_; intro g1 w1 hS1; clear hS; replace hS := hS1; clear hS1) | (with_reducible refine wpList_box1_st hS rfl rfl rfl ?_; intro g1 w1 hS1; clear hS; replace hS := hS1; clear hS1) | (with_reducible refine wpList_alloc_st hS rfl rfl (by assumption) ?_; intro g1 w1 hS1; clear hS; replace hS := hS1; clear hS1) | (with_reducible refine wpList_alloc1_st hS rfl rfl (by assumption) rfl ?_; intro g1 w1 hS1; clear hS; replace hS := hS1; clear hS1) | ((with_reducible refine wpList_load_st 0 hS rfl rfl rfl rfl ?_ rfl ?_); focus (simp [scalarB, go_sem]; done)) | ((with_reducible refine wpList_loadall_st 0 hS rfl rfl rfl rfl ?_ (by kernel_rfl) ?_); focus (simp [rowB, go_sem]; done)) | ((with_reducible refine wpList_store_st 0 hS rfl rfl rfl rfl (by kernel_rfl) rfl rfl ?_); intro w1 hS1; clear hS; replace hS := hS1; clear hS1; try simp only [List.set_cons_zero, List.set_cons_succ, List.setIfInBounds_toArray, List.take_succ_cons, List.take_zero, List.drop_succ_cons, List.drop_zero, List.nil_append, List.cons_append, List.append_nil, List.drop_nil, List.take_nil, List.length_cons, List.length_nil, Nat.zero_add, Nat.add_zero, Nat.reduceAdd] at hS) | ((with_reducible refine wpList_storerow_st 0 hS rfl rfl rfl rfl (by kernel_rfl) rfl rfl rfl rfl ?_); intro w1 hS1; clear hS; replace hS := hS1; clear hS1; try simp only [List.set_cons_zero, List.set_cons_succ, List.setIfInBounds_toArray, List.take_succ_cons, List.take_zero, List.drop_succ_cons, List.drop_zero, List.nil_append, List.cons_append, List.append_nil, List.drop_nil, List.take_nil, List.length_cons, List.length_nil, Nat.zero_add, Nat.add_zero, Nat.reduceAdd] at hS))
        go_ret
        exact ⟨rfl, hS.below⟩
  · have dc : (code != 0) = true := by simpa using hc
    rw [if_pos hc]
    clear hc
    by_cases h1 : 1 ≤ code
    · have e1 : decide (1 ≤ code) = true := decide_eq_true h1
      by_cases h2 : code ≤ 16
      · have e2 : decide (code ≤ 16) = true := decide_eq_true h2
        rw [decide_eq_true ⟨h1, h2⟩, Bool.true_and]
        clear h1 h2
        cases reset
        · rw [Bool.not_false, Bool.true_and]
          cases zt
          ·
            rw [Bool.false_and]
            go_enter Try.func66, Try.ntmps66
            go_wp2_with (first
              | (go_at_call 65; (with_reducible refine (cF.out _).mono ?_); rintro _ w3 ⟨rfl, hk9⟩; have hS1 := hS.keepB hk9; clear hk9 hS; have hS := hS1; clear hS1)
              | (go_at_call 65; (with_reducible refine (cT.out _).mono ?_); rintro _ w3 ⟨rfl, hk9⟩; have hS1 := hS.keepB hk9; clear hk9 hS; have hS := hS1; clear hS1)
              | (go_at_call 80; (with_reducible refine (cG.out _).mono ?_); rintro _ w3 ⟨rfl, hk9⟩; have hS1 := hS.keepB hk9; clear hk9 hS; have hS := hS1; clear hS1)
              | (go_at_call 32; (with_reducible refine (cI.out _ hS.below).mono ?_); rintro _ w3 ⟨rfl, hk9⟩; have hS1 := hS.keepB hk9; clear hk9 hS; have hS := hS1; clear hS1)
              | ((with_reducible refine wpList_loadrow_st (t := 64) (n := 4) (j := 2) 0 hS rfl rfl rfl rfl ?_ (by kernel_rfl) rfl rfl ?_); focus (simp [rowB, go_sem]; done))
              | ((with_reducible refine wpList_loadrow_st (t := 64) (n := 4) (j := 6) 0 hS rfl rfl rfl rfl ?_ (by kernel_rfl) rfl rfl ?_); focus (simp [rowB, go_sem]; done))
              | ((with_reducible refine wpList_gloadrow_st (t := 64) (n := 4) (j := 6) 0 hS rfl (by with_unfolding_all rfl) rfl rfl ?_ (by kernel_rfl) rfl rfl ?_); focus (simp [rowB, go_sem]; done))
              | ((with_reducible refine wpList_gload_st 0 hS rfl (by with_unfolding_all rfl) rfl rfl ?_ rfl ?_); focus (simp [scalarB, go_sem]; done))
              | (with_reducible refine wpList_box_st hS rfl rfl rfl ?_; intro g1 w1 hS1; clear hS; replace hS := hS1; clear hS1) | (with_reducible refine wpList_box1_st hS rfl rfl rfl ?_; intro g1 w1 hS1; clear hS; replace hS := hS1; clear hS1) | (with_reducible refine wpList_alloc_st hS rfl rfl (by assumption) ?_; intro g1 w1 hS1; clear hS; replace hS := hS1; clear hS1) | (with_reducible refine wpList_alloc1_st hS rfl rfl (by assumption) rfl ?_; intro g1 w1 hS1; clear hS; replace hS := hS1; clear hS1) | ((with_reducible refine wpList_load_st 0 hS rfl rfl rfl rfl ?_ rfl ?_); focus (simp [scalarB, go_sem]; done)) | ((with_reducible refine wpList_loadall_st 0 hS rfl rfl rfl rfl ?_ (by kernel_rfl) ?_); focus (simp [rowB, go_sem]; done)) | ((with_reducible refine wpList_store_st 0 hS rfl rfl rfl rfl (by kernel_rfl) rfl rfl ?_); intro w1 hS1; clear hS; replace hS := hS1; clear hS1; try simp only [List.set_cons_zero, List.set_cons_succ, List.setIfInBounds_toArray, List.take_succ_cons, List.take_zero, List.drop_succ_cons, List.drop_zero, List.nil_append, List.cons_append, List.append_nil, List.drop_nil, List.take_nil, List.length_cons, List.length_nil, Nat.zero_add, Nat.add_zero, Nat.reduceAdd] at hS) | ((with_reducible refine wpList_storerow_st 0 hS rfl rfl rfl rfl (by kernel_rfl) rfl rfl rfl rfl ?_); intro w1 hS1; clear hS; replace hS := hS1; clear hS1; try simp only [List.set_cons_zero, List.set_cons_succ, List.setIfInBounds_toArray, List.take_succ_cons, List.take_zero, List.drop_succ_cons, List.drop_zero, List.nil_append, List.cons_append, List.append_nil, List.drop_nil, List.take_nil, List.length_cons, List.length_nil, Nat.zero_add, Nat.add_zero, Nat.reduceAdd] at hS))
            go_ret
            exact ⟨rfl, hS.below⟩
          rw [Bool.true_and]
          by_cases hn0 : n = 0
          · have d1 : ((n : Int) == 0) = true := by rw [beq_iff_eq]; omega
            have d2 : (n == 0) = true := by rw [beq_iff_eq]; exact hn0
            rw [decide_eq_true hn0]
            replace hn0 := Lib.hid hn0
            go_enter Try.func66, Try.ntmps66
            go_wp2_with (first
              | (go_at_call 65; (with_reducible refine (cF.out _).mono ?_); rintro _ w3 ⟨rfl, hk9⟩; have hS1 := hS.keepB hk9; clear hk9 hS; have hS := hS1; clear hS1)
              | (go_at_call 65; (with_reducible refine (cT.out _).mono ?_); rintro _ w3 ⟨rfl, hk9⟩; have hS1 := hS.keepB hk9; clear hk9 hS; have hS := hS1; clear hS1)
              | (go_at_call 80; (with_reducible refine (cG.out _).mono ?_); rintro _ w3 ⟨rfl, hk9⟩; have hS1 := hS.keepB hk9; clear hk9 hS; have hS := hS1; clear hS1)
              | (go_at_call 32; (with_reducible refine (cI.out _ hS.below).mono ?_); rintro _ w3 ⟨rfl, hk9⟩; have hS1 := hS.keepB hk9; clear hk9 hS; have hS := hS1; clear hS1)
              | ((with_reducible refine wpList_loadrow_st (t := 64) (n := 4) (j := 2) 0 hS rfl rfl rfl rfl ?_ (by kernel_rfl) rfl rfl ?_); focus (simp [rowB, go_sem]; done))
              | ((with_reducible refine wpList_loadrow_st (t := 64) (n := 4) (j := 6) 0 hS rfl rfl rfl rfl ?_ (by kernel_rfl) rfl rfl ?_); focus (simp [rowB, go_sem]; done))
              | ((with_reducible refine wpList_gloadrow_st (t := 64) (n := 4) (j := 6) 0 hS rfl (by with_unfolding_all rfl) rfl rfl ?_ (by kernel_rfl) rfl rfl ?_); focus (simp [rowB, go_sem]; done))
              | ((with_reducible refine wpList_gload_st 0 hS rfl (by with_unfolding_all rfl) rfl rfl ?_ rfl ?_); focus (simp [scalarB, go_sem]; done))
              | (with_reducible refine wpList_box_st hS rfl rfl rfl ?_; intro g1 w1 hS1; clear hS; replace hS := hS1; clear hS1) | (with_reducible refine wpList_box1_st hS rfl rfl rfl ?_; intro g1 w1 hS1; clear hS; replace hS := hS1; clear hS1) | (with_reducible refine wpList_alloc_st hS rfl rfl (by assumption) ?_; intro g1 w1 hS1; clear hS; replace hS := hS1; clear hS1) | (with_reducible refine wpList_alloc1_st hS rfl rfl (by assumption) rfl ?_; intro g1 w1 hS1; clear hS; replace hS := hS1; clear hS1) | ((with_reducible refine wpList_load_st 0 hS rfl rfl rfl rfl ?_ rfl ?_); focus (simp [scalarB, go_sem]; done)) | ((with_reducible refine wpList_loadall_st 0 hS rfl rfl rfl rfl ?_ (by kernel_rfl) ?_); focus (simp [rowB, go_sem]; done)) | ((with_reducible refine wpList_store_st 0 hS rfl rfl rfl rfl (by kernel_rfl) rfl rfl ?_); intro w1 hS1; clear hS; replace hS := hS1; clear hS1; try simp only [List.set_cons_zero, List.set_cons_succ, List.setIfInBounds_toArray, List.take_succ_cons, List.take_zero, List.drop_succ_cons, List.drop_zero, List.nil_append, List.cons_append, List.append_nil, List.drop_nil, List.take_nil, List.length_cons, List.length_nil, Nat.zero_add, Nat.add_zero, Nat.reduceAdd] at hS) | ((with_reducible refine wpList_storerow_st 0 hS rfl rfl rfl rfl (by kernel_rfl) rfl rfl rfl rfl ?_); intro w1 hS1; clear hS; replace hS := hS1; clear hS1; try simp only [List.set_cons_zero, List.set_cons_succ, List.setIfInBounds_toArray, List.take_succ_cons, List.take_zero, List.drop_succ_cons, List.drop_zero, List.nil_append, List.cons_append, List.append_nil, List.drop_nil, List.take_nil, List.length_cons, List.length_nil, Nat.zero_add, Nat.add_zero, Nat.reduceAdd] at hS))
            go_ret
            exact ⟨rfl, hS.below⟩
          · have d1 : ((n : Int) == 0) = false := by rw [beq_eq_false_iff_ne]; omega
            have d2 : (n == 0) = false := by rw [beq_eq_false_iff_ne]; exact hn0
            rw [decide_eq_false hn0]
            clear hn0
            go_enter Try.func66, Try.ntmps66
            go_wp2_with (first
              | (go_at_call 65; (with_reducible refine (cF.out _).mono ?_); rintro _ w3 ⟨rfl, hk9⟩; have hS1 := hS.keepB hk9; clear hk9 hS; have hS := hS1; clear hS1)
              | (go_at_call 65; (with_reducible refine (cT.out _).mono ?_); rintro _ w3 ⟨rfl, hk9⟩; have hS1 := hS.keepB hk9; clear hk9 hS; have hS := hS1; clear hS1)
              | (go_at_call 80; (with_reducible refine (cG.out _).mono ?_); rintro _ w3 ⟨rfl, hk9⟩; have hS1 := hS.keepB hk9; clear hk9 hS; have hS := hS1; clear hS1)
              | (go_at_call 32; (with_reducible refine (cI.out _ hS.below).mono ?_); rintro _ w3 ⟨rfl, hk9⟩; have hS1 := hS.keepB hk9; clear hk9 hS; have hS := hS1; clear hS1)
              | ((with_reducible refine wpList_loadrow_st (t := 64) (n := 4) (j := 2) 0 hS rfl rfl rfl rfl ?_ (by kernel_rfl) rfl rfl ?_); focus (simp [rowB, go_sem]; done))
              | ((with_reducible refine wpList_loadrow_st (t := 64) (n := 4) (j := 6) 0 hS rfl rfl rfl rfl ?_ (by kernel_rfl) rfl rfl ?_); focus (simp [rowB, go_sem]; done))
              | ((with_reducible refine wpList_gloadrow_st (t := 64) (n := 4) (j := 6) 0 hS rfl (by with_unfolding_all rfl) rfl rfl ?_ (by kernel_rfl) rfl rfl ?_); focus (simp [rowB, go_sem]; done))
              | ((with_reducible refine wpList_gload_st 0 hS rfl (by with_unfolding_all rfl) rfl rfl ?_ rfl ?_); focus (simp [scalarB, go_sem]; done))
              | (with_reducible refine wpList_box_st hS rfl rfl rfl ?_; intro g1 w1 hS1; clear hS; replace hS := hS1; clear hS1) | (with_reducible refine wpList_box1_st hS rfl rfl rfl ?_; intro g1 w1 hS1; clear hS; replace hS := hS1; clear hS1) | (with_reducible refine wpList_alloc_st hS rfl rfl (by assumption) ?_; intro g1 w1 hS1; clear hS; replace hS := hS1; clear hS1) | (with_reducible refine wpList_alloc1_st hS rfl rfl (by assumption) rfl ?_; intro g1 w1 hS1; clear hS; replace hS := hS1; clear hS1) | ((with_reducible refine wpList_load_st 0 hS rfl rfl rfl rfl ?_ rfl ?_); focus (simp [scalarB, go_sem]; done)) | ((with_reducible refine wpList_loadall_st 0 hS rfl rfl rfl rfl ?_ (by kernel_rfl) ?_); focus (simp [rowB, go_sem]; done)) | ((with_reducible refine wpList_store_st 0 hS rfl rfl rfl rfl (by kernel_rfl) rfl rfl ?_); intro w1 hS1; clear hS; replace hS := hS1; clear hS1; try simp only [List.set_cons_zero, List.set_cons_succ, List.setIfInBounds_toArray, List.take_succ_cons, List.take_zero, List.drop_succ_cons, List.drop_zero, List.nil_append, List.cons_append, List.append_nil, List.drop_nil, List.take_nil, List.length_cons, List.length_nil, Nat.zero_add, Nat.add_zero, Nat.reduceAdd] at hS) | ((with_reducible refine wpList_storerow_st 0 hS rfl rfl rfl rfl (by kernel_rfl) rfl rfl rfl rfl ?_); intro w1 hS1; clear hS; replace hS := hS1; clear hS1; try simp only [List.set_cons_zero, List.set_cons_succ, List.setIfInBounds_toArray, List.take_succ_cons, List.take_zero, List.drop_succ_cons, List.drop_zero, List.nil_append, List.cons_append, List.append_nil, List.drop_nil, List.take_nil, List.length_cons, List.length_nil, Nat.zero_add, Nat.add_zero, Nat.reduceAdd] at hS))
            go_ret
            exact ⟨rfl, hS.below⟩
        ·
          rw [Bool.not_true, Bool.false_and, Bool.false_and]
          go_enter Try.func66, Try.ntmps66
          go_wp2_with (first
            | (go_at_call 65; (with_reducible refine (cF.out _).mono ?_); rintro _ w3 ⟨rfl, hk9⟩; have hS1 := hS.keepB hk9; clear hk9 hS; have hS := hS1; clear hS1)
            | (go_at_call 65; (with_reducible refine (cT.out _).mono ?_); rintro _ w3 ⟨rfl, hk9⟩; have hS1 := hS.keepB hk9; clear hk9 hS; have hS := hS1; clear hS1)
            | (go_at_call 80; (with_reducible refine (cG.out _).mono ?_); rintro _ w3 ⟨rfl, hk9⟩; have hS1 := hS.keepB hk9; clear hk9 hS; have hS := hS1; clear hS1)
            | (go_at_call 32; (with_reducible refine (cI.out _ hS.below).mono ?_); rintro _ w3 ⟨rfl, hk9⟩; have hS1 := hS.keepB hk9; clear hk9 hS; have hS := hS1; clear hS1)
            | ((with_reducible refine wpList_loadrow_st (t := 64) (n := 4) (j := 2) 0 hS rfl rfl rfl rfl ?_ (by kernel_rfl) rfl rfl ?_); focus (simp [rowB, go_sem]; done))
            | ((with_reducible refine wpList_loadrow_st (t := 64) (n := 4) (j := 6) 0 hS rfl rfl rfl rfl ?_ (by kernel_rfl) rfl rfl ?_); focus (simp [rowB, go_sem]; done))
            | ((with_reducible refine wpList_gloadrow_st (t := 64) (n := 4) (j := 6) 0 hS rfl (by with_unfolding_all rfl) rfl rfl ?_ (by kernel_rfl) rfl rfl ?_); focus (simp [rowB, go_sem]; done))
            | ((with_reducible refine wpList_gload_st 0 hS rfl (by with_unfolding_all rfl) rfl rfl ?_ rfl ?_); focus (simp [scalarB, go_sem]; done))
            | (with_reducible refine wpList_box_st hS rfl rfl rfl ?_; intro g1 w1 hS1; clear hS; replace hS := hS1; clear hS1) | (with_reducible refine wpList_box1_st hS rfl rfl rfl ?_; intro g1 w1 hS1; clear hS; replace hS := hS1; clear hS1) | (with_reducible refine wpList_alloc_st hS rfl rfl (by assumption) ?_; intro g1 w1 hS1; clear hS; replace hS := hS1; clear hS1) | (with_reducible refine wpList_alloc1_st hS rfl rfl (by assumption) rfl ?_; intro g1 w1 hS1; clear hS; replace hS := hS1; clear hS1) | ((with_reducible refine wpList_load_st 0 hS rfl rfl rfl rfl ?_ rfl ?_); focus (simp [scalarB, go_sem]; done)) | ((with_reducible refine wpList_loadall_st 0 hS rfl rfl rfl rfl ?_ (by kernel_rfl) ?_); focus (simp [rowB, go_sem]; done)) | ((with_reducible refine wpList_store_st 0 hS rfl rfl rfl rfl (by kernel_rfl) rfl rfl ?_); intro w1 hS1; clear hS; replace hS := hS1; clear hS1; try simp only [List.set_cons_zero, List.set_cons_succ, List.setIfInBounds_toArray, List.take_succ_cons, List.take_zero, List.drop_succ_cons, List.drop_zero, List.nil_append, List.cons_append, List.append_nil, List.drop_nil, List.take_nil, List.length_cons, List.length_nil, Nat.zero_add, Nat.add_zero, Nat.reduceAdd] at hS) | ((with_reducible refine wpList_storerow_st 0 hS rfl rfl rfl rfl (by kernel_rfl) rfl rfl rfl rfl ?_); intro w1 hS1; clear hS; replace hS := hS1; clear hS1; try simp only [List.set_cons_zero, List.set_cons_succ, List.setIfInBounds_toArray, List.take_succ_cons, List.take_zero, List.drop_succ_cons, List.drop_zero, List.nil_append, List.cons_append, List.append_nil, List.drop_nil, List.take_nil, List.length_cons, List.length_nil, Nat.zero_add, Nat.add_zero, Nat.reduceAdd] at hS))
          go_ret
          exact ⟨rfl, hS.below⟩
      · have e2 : decide (code ≤ 16) = false := decide_eq_false h2
        rw [decide_eq_false fun h => h2 h.2, Bool.false_and, Bool.false_and, Bool.false_and]
        clear h1 h2
        go_enter Try.func66, Try.ntmps66
        go_wp2_with (first
          | (go_at_call 65; (with_reducible refine (cF.out _).mono ?_); rintro _ w3 ⟨rfl, hk9⟩; have hS1 := hS.keepB hk9; clear hk9 hS; have hS := hS1; clear hS1)
          | (go_at_call 65; (with_reducible refine (cT.out _).mono ?_); rintro _ w3 ⟨rfl, hk9⟩; have hS1 := hS.keepB hk9; clear hk9 hS; have hS := hS1; clear hS1)
          | (go_at_call 80; (with_reducible refine (cG.out _).mono ?_); rintro _ w3 ⟨rfl, hk9⟩; have hS1 := hS.keepB hk9; clear hk9 hS; have hS := hS1; clear hS1)
          | (go_at_call 32; (with_reducible refine (cI.out _ hS.below).mono ?_); rintro _ w3 ⟨rfl, hk9⟩; have hS1 := hS.keepB hk9; clear hk9 hS; have hS := hS1; clear hS1)
          | ((with_reducible refine wpList_loadrow_st (t := 64) (n := 4) (j := 2) 0 hS rfl rfl rfl rfl ?_ (by kernel_rfl) rfl rfl ?_); focus (simp [rowB, go_sem]; done))
          | ((with_reducible refine wpList_loadrow_st (t := 64) (n := 4) (j := 6) 0 hS rfl rfl rfl rfl ?_ (by kernel_rfl) rfl rfl ?_); focus (simp [rowB, go_sem]; done))
          | ((with_reducible refine wpList_gloadrow_st (t := 64) (n := 4) (j := 6) 0 hS rfl (by with_unfolding_all rfl) rfl rfl ?_ (by kernel_rfl) rfl rfl ?_); focus (simp [rowB, go_sem]; done))
          | ((with_reducible refine wpList_gload_st 0 hS rfl (by with_unfolding_all rfl) rfl rfl ?_ rfl ?_); focus (simp [scalarB, go_sem]; done))
          | (with_reducible refine wpList_box_st hS rfl rfl rfl ?_; intro g1 w1 hS1; clear hS; replace hS := hS1; clear hS1) | (with_reducible refine wpList_box1_st hS rfl rfl rfl ?_; intro g1 w1 hS1; clear hS; replace hS := hS1; clear hS1) | (with_reducible refine wpList_alloc_st hS rfl rfl (by assumption) ?_; intro g1 w1 hS1; clear hS; replace hS := hS1; clear hS1) | (with_reducible refine wpList_alloc1_st hS rfl rfl (by assumption) rfl ?_; intro g1 w1 hS1; clear hS; replace hS := hS1; clear hS1) | ((with_reducible refine wpList_load_st 0 hS rfl rfl rfl rfl ?_ rfl ?_); focus (simp [scalarB, go_sem]; done)) | ((with_reducible refine wpList_loadall_st 0 hS rfl rfl rfl rfl ?_ (by kernel_rfl) ?_); focus (simp [rowB, go_sem]; done)) | ((with_reducible refine wpList_store_st 0 hS rfl rfl rfl rfl (by kernel_rfl) rfl rfl ?_); intro w1 hS1; clear hS; replace hS := hS1; clear hS1; try simp only [List.set_cons_zero, List.set_cons_succ, List.setIfInBounds_toArray, List.take_succ_cons, List.take_zero, List.drop_succ_cons, List.drop_zero, List.nil_append, List.cons_append, List.append_nil, List.drop_nil, List.take_nil, List.length_cons, List.length_nil, Nat.zero_add, Nat.add_zero, Nat.reduceAdd] at hS) | ((with_reducible refine wpList_storerow_st 0 hS rfl rfl rfl rfl (by kernel_rfl) rfl rfl rfl rfl ?_); intro w1 hS1; clear hS; replace hS := hS1; clear hS1; try simp only [List.set_cons_zero, List.set_cons_succ, List.setIfInBounds_toArray, List.take_succ_cons, List.take_zero, List.drop_succ_cons, List.drop_zero, List.nil_append, List.cons_append, List.append_nil, List.drop_nil, List.take_nil, List.length_cons, List.length_nil, Nat.zero_add, Nat.add_zero, Nat.reduceAdd] at hS))
        go_ret
        exact ⟨rfl, hS.below⟩
    · have e1 : decide (1 ≤ code) = false := decide_eq_false h1
      rw [decide_eq_false fun h => h1 h.1, Bool.false_and, Bool.false_and, Bool.false_and]
      clear h1
      go_enter Try.func66, Try.ntmps66
      go_wp2_with (first
        | (go_at_call 65; (with_reducible refine (cF.out _).mono ?_); rintro _ w3 ⟨rfl, hk9⟩; have hS1 := hS.keepB hk9; clear hk9 hS; have hS := hS1; clear hS1)
        | (go_at_call 65; (with_reducible refine (cT.out _).mono ?_); rintro _ w3 ⟨rfl, hk9⟩; have hS1 := hS.keepB hk9; clear hk9 hS; have hS := hS1; clear hS1)
        | (go_at_call 80; (with_reducible refine (cG.out _).mono ?_); rintro _ w3 ⟨rfl, hk9⟩; have hS1 := hS.keepB hk9; clear hk9 hS; have hS := hS1; clear hS1)
        | (go_at_call 32; (with_reducible refine (cI.out _ hS.below).mono ?_); rintro _ w3 ⟨rfl, hk9⟩; have hS1 := hS.keepB hk9; clear hk9 hS; have hS := hS1; clear hS1)
        | ((with_reducible refine wpList_loadrow_st (t := 64) (n := 4) (j := 2) 0 hS rfl rfl rfl rfl ?_ (by kernel_rfl) rfl rfl ?_); focus (simp [rowB, go_sem]; done))
        | ((with_reducible refine wpList_loadrow_st (t := 64) (n := 4) (j := 6) 0 hS rfl rfl rfl rfl ?_ (by kernel_rfl) rfl rfl ?_); focus (simp [rowB, go_sem]; done))
        | ((with_reducible refine wpList_gloadrow_st (t := 64) (n := 4) (j := 6) 0 hS rfl (by with_unfolding_all rfl) rfl rfl ?_ (by kernel_rfl) rfl rfl ?_); focus (simp [rowB, go_sem]; done))
        | ((with_reducible refine wpList_gload_st 0 hS rfl (by with_unfolding_all rfl) rfl rfl ?_ rfl ?_); focus (simp [scalarB, go_sem]; done))
        | (with_reducible refine wpList_box_st hS rfl rfl rfl ?_; intro g1 w1 hS1; clear hS; replace hS := hS1; clear hS1) | (with_reducible refine wpList_box1_st hS rfl rfl rfl ?_; intro g1 w1 hS1; clear hS; replace hS := hS1; clear hS1) | (with_reducible refine wpList_alloc_st hS rfl rfl (by assumption) ?_; intro g1 w1 hS1; clear hS; replace hS := hS1; clear hS1) | (with_reducible refine wpList_alloc1_st hS rfl rfl (by assumption) rfl ?_; intro g1 w1 hS1; clear hS; replace hS := hS1; clear hS1) | ((with_reducible refine wpList_load_st 0 hS rfl rfl rfl rfl ?_ rfl ?_); focus (simp [scalarB, go_sem]; done)) | ((with_reducible refine wpList_loadall_st 0 hS rfl rfl rfl rfl ?_ (by kernel_rfl) ?_); focus (simp [rowB, go_sem]; done)) | ((with_reducible refine wpList_store_st 0 hS rfl rfl rfl rfl (by kernel_rfl) rfl rfl ?_); intro w1 hS1; clear hS; replace hS := hS1; clear hS1; try simp only [List.set_cons_zero, List.set_cons_succ, List.setIfInBounds_toArray, List.take_succ_cons, List.take_zero, List.drop_succ_cons, List.drop_zero, List.nil_append, List.cons_append, List.append_nil, List.drop_nil, List.take_nil, List.length_cons, List.length_nil, Nat.zero_add, Nat.add_zero, Nat.reduceAdd] at hS) | ((with_reducible refine wpList_storerow_st 0 hS rfl rfl rfl rfl (by kernel_rfl) rfl rfl rfl rfl ?_); intro w1 hS1; clear hS; replace hS := hS1; clear hS1; try simp only [List.set_cons_zero, List.set_cons_succ, List.setIfInBounds_toArray, List.take_succ_cons, List.take_zero, List.drop_succ_cons, List.drop_zero, List.nil_append, List.cons_append, List.append_nil, List.drop_nil, List.take_nil, List.length_cons, List.length_nil, Nat.zero_add, Nat.add_zero, Nat.reduceAdd] at hS))
      go_ret
      exact ⟨rfl, hS.below⟩

end Go.Proofs.Ytajldelodnjmoaa
end

section
/- The replica: New, On, Token, Cards, Get. -/
set_option linter.unusedSimpArgs false
set_option linter.unusedVariables false
namespace Go.Ofp
open Go.RowKit
/-- A replica's state. -/
structure RpS where
  on : Bool
  t : Tk
  m : List Cd
def RpS.off : RpS := ⟨false, Tk.none, []⟩
def RpS.begin (s : RpS) (dev e q : Int) : RpS × Bool := if Tk.ok ⟨dev, e, q, 0⟩ = false then (s, false) else if s.on = false ∨ s.t.epoch ≠ e then (⟨true, ⟨dev, e, q, 0⟩, []⟩, true) else (s, true)
def RpS.take (s : RpS) (code : Int) (reset : Bool) (fr tt : Tk) (l : List It) : RpS × Bool :=
  if s.on = true ∧ pgOk code reset fr tt l = true ∧ code = 0 ∧ fr = s.t ∧ tt.epoch = s.t.epoch then
    match applyC s.m l with
    | none => (s, false)
    | some m => (⟨true, tt, if reset = true then [] else m⟩, true)
  else (s, false)
end Go.Ofp
namespace Go.Proofs.Ytajldelodnjmoaa
open Go.RowKit Go.Ofp
set_option linter.unusedVariables false
set_option maxRecDepth 100000
set_option maxHeartbeats 4000000
def rpRow (dev : Int) (s : RpS) (gm : Nat) : List Value := [.int .i64 dev, .bool s.on, .int .i64 s.t.dev, .int .i64 s.t.epoch, .int .i64 s.t.seq, .int .i64 s.t.cur, .map (some gm)]
abbrev rpA (g gm : Nat) (dev : Int) (s : RpS) : List Ch := [Ch.blk g 98 (rpRow dev s gm).toArray, Ch.map Try.prog 3 gm s.m.length (cdM cdRow s.m)]

theorem rnew_any (dev : Int) (h1 : 0 ≤ dev) (h2 : dev < 6) (w : World) : Calls Try.prog 36 #[.int .i64 dev] w fun e w' => ∃ g gm, e = .returned (.pointer (some ⟨g, 0, none⟩)) ∧ St w [] (rpA g gm dev RpS.off) w' := by
  have hS := St.start w
  have d1 : decide (dev < 0) = false := decide_eq_false (by omega)
  have d2 : decide (6 ≤ dev) = false := decide_eq_false (by omega)
  have e0 : ∀ gm, rpRow dev RpS.off gm = [.int .i64 dev, .bool false, .int .i64 0, .int .i64 0, .int .i64 0, .int .i64 0, .map (some gm)] := fun _ => rfl
  have e1 : cdM cdRow RpS.off.m = noM := rfl
  unfold rpA
  rw [e1]
  simp only [e0]
  clear e0 e1
  go_enter Try.func36, Try.ntmps36
  go_wp2_with (first
    | ((with_reducible refine wpList_makemap_st (k := 3) hS rfl rfl Try.underlying95 ?_); intro gm w1 hS1; clear hS; have hS := hS1; clear hS1)
    | (with_reducible refine wpList_box_st hS rfl rfl rfl ?_; intro g1 w1 hS1; clear hS; replace hS := hS1; clear hS1) | (with_reducible refine wpList_box1_st hS rfl rfl rfl ?_; intro g1 w1 hS1; clear hS; replace hS := hS1; clear hS1) | (with_reducible refine wpList_alloc_st hS rfl rfl (by assumption) ?_; intro g1 w1 hS1; clear hS; replace hS := hS1; clear hS1) | (with_reducible refine wpList_alloc1_st hS rfl rfl (by assumption) rfl ?_; intro g1 w1 hS1; clear hS; replace hS := hS1; clear hS1) | ((with_reducible refine wpList_load_st 0 hS rfl rfl rfl rfl ?_ rfl ?_); focus (simp [scalarB, go_sem]; done)) | ((with_reducible refine wpList_loadall_st 0 hS rfl rfl rfl rfl ?_ (by kernel_rfl) ?_); focus (simp [rowB, go_sem]; done)) | ((with_reducible refine wpList_store_st 0 hS rfl rfl rfl rfl (by kernel_rfl) rfl rfl ?_); intro w1 hS1; clear hS; replace hS := hS1; clear hS1; try simp only [List.set_cons_zero, List.set_cons_succ, List.setIfInBounds_toArray, List.take_succ_cons, List.take_zero, List.drop_succ_cons, List.drop_zero, List.nil_append, List.cons_append, List.append_nil, List.drop_nil, List.take_nil, List.length_cons, List.length_nil, Nat.zero_add, Nat.add_zero, Nat.reduceAdd] at hS) | ((with_reducible refine wpList_storerow_st 0 hS rfl rfl rfl rfl (by kernel_rfl) rfl rfl rfl rfl ?_); intro w1 hS1; clear hS; replace hS := hS1; clear hS1; try simp only [List.set_cons_zero, List.set_cons_succ, List.setIfInBounds_toArray, List.take_succ_cons, List.take_zero, List.drop_succ_cons, List.drop_zero, List.nil_append, List.cons_append, List.append_nil, List.drop_nil, List.take_nil, List.length_cons, List.length_nil, Nat.zero_add, Nat.add_zero, Nat.reduceAdd] at hS))
  go_ret
  exact ⟨_, _, rfl, hS⟩
theorem ron_any (g : Nat) (on : Bool) (w : World) (h : w.cell? ⟨g, 1, none⟩ = some (.bool on)) : Calls Try.prog 50 #[.pointer (some ⟨g, 0, none⟩)] w fun e w' => e = .returned (.bool on) ∧ Below w.heap.size w w' := by
  have hS := St.start w
  go_enter Try.func50, Try.ntmps50
  go_wp2_with fail
  go_ret
  exact ⟨rfl, hS.below⟩
theorem rtok_any (g : Nat) (t : Tk) (w : World) (h : w.rangeAt g 2 (tkRow t)) : Calls Try.prog 38 #[.pointer (some ⟨g, 0, none⟩)] w fun e w' => e = .returned (.agg (tkRow t).toArray) ∧ Below w.heap.size w w' := by
  have hS := St.start w
  have et := elem_tk
  have hl : (tkRow t).length = 4 := rfl
  have ho : (tkRow t).all Value.oneCell' = true := rfl
  have hsz : sizeB Try.prog 64 (tkRow t).toArray.size = true := by rw [List.size_toArray, hl]; kernel_rfl
  replace h := Lib.hid h
  generalize tkRow t = R at *
  go_enter Try.func38, Try.ntmps38
  go_wp2_with (first
    | (with_reducible refine wpList_rangerow (t := 64) (n := 4) (range_old hS h.out) rfl rfl rfl (by kernel_rfl) (by kernel_rfl) hl ?_)
    | (with_reducible refine wpList_alloc_st (L := []) hS rfl rfl et ?_; intro gA w1 hS1; clear hS; have hS := hS1; clear hS1)
    | ((with_reducible refine wpList_storerow_st (n := 4) (vs := R) 0 hS rfl rfl rfl rfl (by kernel_rfl) rfl hl ho (by kernel_rfl) ?_); intro w1 hS1; clear hS; have hS := hS1; clear hS1; try simp only [List.set_cons_zero, List.set_cons_succ, List.setIfInBounds_toArray, List.take_succ_cons, List.take_zero, List.drop_succ_cons, List.drop_zero, List.nil_append, List.cons_append, List.append_nil, List.drop_nil, List.take_nil, List.length_cons, List.length_nil, Nat.zero_add, Nat.add_zero, Nat.reduceAdd] at hS))
  exact bodyPost_ret (v := .agg R.toArray) (results_blk Try.results38 rfl hS 0 rfl (by kernel_rfl) hsz) rfl ⟨rfl, hS.below⟩
theorem csorted_im {w0 w : World} {F : List Nat} {L : List Ch} (i : Nat) {B b n : Nat} {f : Int → Option Value} (hS : St w0 F L w) (hi : L[i]? = some (Ch.blk B 95 #[.map (some b)])) (hk : IMap Try.prog 3 w b n f) (hn : n ≤ 100000) :
    Calls Try.prog 57 #[.func (.func 74) #[] #[.pointer (some ⟨B, 0, none⟩)]] w fun e w' => ∃ v ks, e = .returned v ∧ Hid (IsKeys f ks) ∧ Hid (ks.length ≤ n) ∧ St w [] [Ch.row 3 1 v ks.length (ks.map vi)] w' :=
  (csorted_any B b n f w (by rw [hS.cell i hi]; rfl) hk hn).mono fun e w' ⟨v, ks, h1, h2, h3, h4, h5⟩ => ⟨v, ks, h1, Lib.hid h2, Lib.hid h3, (St.start w).freshB h4 h5⟩
theorem rcards_any (g gm n : Nat) (M : List Cd) (w : World) (h6 : w.cell? ⟨g, 6, none⟩ = some (.map (some gm))) (him : IMap Try.prog 3 w gm n (cdM cdRow M)) (hr : RisC M) (hok : ∀ c ∈ M, CdOk c) (hn : n ≤ 50000) :
    Calls Try.prog 42 #[.pointer (some ⟨g, 0, none⟩)] w fun e w' => ∃ a c, e = .returned (.slice a M.length c) ∧ St w [] [Ch.row 41 27 (.slice a M.length c) M.length (M.map cdRow).flatten] w' := by
  have hS := St.start w
  have ec := elem_card
  have cK := Lib.hid fun (mb : Option Nat) (W : World) => ckeys_st mb W
  replace him := Lib.hid him
  replace hr := Lib.hid hr
  replace hok := Lib.hid hok
  have hq2 : n ≤ 100000 := by omega
  go_enter Try.func42, Try.ntmps42
  go_wp2_with (first
    | (go_at_call 62; (with_reducible refine (cK.out _ _).mono ?_); rintro _ w3 ⟨B, rfl, hk3⟩; have hS1 := hS.made hk3; clear hS hk3; have hS : St w [] [Ch.blk B 95 #[.map (some gm)]] w3 := hS1; clear hS1)
    | (go_at_call 57; (with_reducible refine (csorted_im 0 hS rfl (him.out.below hS.below) hq2).mono ?_); rintro _ w4 ⟨vk, ks, rfl, hks, hkl, hk4⟩; obtain ⟨ak, ck, rfl, -⟩ := hk4.row 0 rfl; have hS1 := hS.made hk4; clear hS hk4; have hS : St w [] [Ch.row 3 1 (.slice ak ks.length ck) ks.length (ks.map vi), Ch.blk B 95 #[.map (some gm)]] w4 := hS1; clear hS1))
  have hki := Lib.hid (cdM_keys hr.out (fun c hc => wf_of_i64 (hok.out c hc).id) hks.out)
  have hkM := Lib.hid (show ks.length = M.length by rw [hki.out, List.length_map])
  have hS1 := hS.drop1.nilrow 41 27
  clear hS
  have hS := hS1
  clear hS1
  go_loopg [3, 15] ks.length (fun gk vo vx wr => ∃ (z : Nat) (ao : Option Addr) (co : Nat), z + gk = ks.length ∧ vx = .int .i64 z ∧ vo = .slice ao z co ∧ St w [] [Ch.row 41 27 (.slice ao z co) z ((M.take z).map cdRow).flatten, Ch.row 3 1 (.slice ak ks.length ck) ks.length (ks.map vi)] wr)
  case atStart => exact ⟨0, none, 0, Nat.zero_add _, rfl, rfl, hS⟩
  case round =>
    clear hS
    obtain ⟨z, ao, co, hz, rfl, rfl, hS⟩ := hrel
    by_cases hlt : z < ks.length
    · obtain ⟨bk, ok, rfl, hck⟩ := sl_int (hS.rowsl 1 rfl) z hlt
      have hzM : z < M.length := by rw [← hkM.out]; exact hlt
      have hkz : ks[z] = M[z].id := by
        have := hki.out
        subst this
        simp
      have he1 := cdM_at (row := cdRow) hr.out (List.getElem_mem hzM)
      rw [← hkz] at he1
      have hwk : (Lit.int .i64 ks[z]).wf = true := by rw [hkz]; exact wf_of_i64 (hok.out _ (List.getElem_mem hzM)).id
      have hil : (cdRow M[z]).length = 27 := cdRow_lenT _ (hok.out _ (List.getElem_mem hzM)).f
      have hio1 := cdRow_oneT M[z]
      have hz1 : z ≤ 60000 := by have := hkl.out; omega
      have hnx : ((M.take (z + 1)).map cdRow).flatten = ((M.take z).map cdRow).flatten ++ cdRow M[z] := by rw [List.take_succ_eq_append_getElem hzM, List.map_append, List.flatten_append]; rw [List.map_cons, List.map_nil, List.flatten_cons, List.flatten_nil, List.append_nil]
      replace hnx := Lib.hid hnx
      have c6 := hS.old h6 (by simp)
      generalize cdM cdRow M = M1 at *
      clear hkz
      generalize cdRow M[z] = RI at *
      go_wp2_with (first
        | ((with_reducible refine wpList_look_im (k := 3) (him.out.below hS.below) rfl rfl rfl rfl Try.underlying3 Try.underlying95 zero_card hwk ?_); rw [he1]; simp only [Option.getD_some])
        | (refine wpList_of_op fun K hK => op_build1_st (by with_unfolding_all rfl) hS rfl Try.underlying34 ec (cs := RI.toArray) rfl (by simp [hil]) (by decide) ?_; intro g3 w3 hS1; refine hK _ _ ?_; clear hK hS; have hS := hS1; clear hS1)
        | ((with_reducible refine wpList_app_st (news := RI) (m := 1) 1 hS rfl rfl rfl Try.underlying34 ec rfl (Src.slice Try.underlying34 (hS.blksl2 0 rfl) (by simp [hil])) rfl (fun u hu => List.all_eq_true.1 hio1 u hu) (by omega) (by unfold maxLen; omega) ?_); intro v6 w6 hS1; clear hS; simp only [List.set_cons_zero, List.set_cons_succ] at hS1; obtain ⟨a6, c6', rfl, -⟩ := hS1.row 1 rfl; have hS := hS1; clear hS1)
        | (with_reducible refine wpList_box_st hS rfl rfl rfl ?_; intro g1 w1 hS1; clear hS; replace hS := hS1; clear hS1) | (with_reducible refine wpList_box1_st hS rfl rfl rfl ?_; intro g1 w1 hS1; clear hS; replace hS := hS1; clear hS1) | (with_reducible refine wpList_alloc_st hS rfl rfl (by assumption) ?_; intro g1 w1 hS1; clear hS; replace hS := hS1; clear hS1) | (with_reducible refine wpList_alloc1_st hS rfl rfl (by assumption) rfl ?_; intro g1 w1 hS1; clear hS; replace hS := hS1; clear hS1) | ((with_reducible refine wpList_load_st 0 hS rfl rfl rfl rfl ?_ rfl ?_); focus (simp [scalarB, go_sem]; done)) | ((with_reducible refine wpList_loadall_st 0 hS rfl rfl rfl rfl ?_ (by kernel_rfl) ?_); focus (simp [rowB, go_sem]; done)) | ((with_reducible refine wpList_store_st 0 hS rfl rfl rfl rfl (by kernel_rfl) rfl rfl ?_); intro w1 hS1; clear hS; replace hS := hS1; clear hS1; try simp only [List.set_cons_zero, List.set_cons_succ, List.setIfInBounds_toArray, List.take_succ_cons, List.take_zero, List.drop_succ_cons, List.drop_zero, List.nil_append, List.cons_append, List.append_nil, List.drop_nil, List.take_nil, List.length_cons, List.length_nil, Nat.zero_add, Nat.add_zero, Nat.reduceAdd] at hS) | ((with_reducible refine wpList_storerow_st 0 hS rfl rfl rfl rfl (by kernel_rfl) rfl rfl rfl rfl ?_); intro w1 hS1; clear hS; replace hS := hS1; clear hS1; try simp only [List.set_cons_zero, List.set_cons_succ, List.setIfInBounds_toArray, List.take_succ_cons, List.take_zero, List.drop_succ_cons, List.drop_zero, List.nil_append, List.cons_append, List.append_nil, List.drop_nil, List.take_nil, List.length_cons, List.length_nil, Nat.zero_add, Nat.add_zero, Nat.reduceAdd] at hS))
      go_roundg (ks.length - (z + 1))
      case measure => omega
      case rel => exact ⟨z + 1, a6, c6', by omega, by go_num, rfl, by rw [hnx.out]; exact hS.drop⟩
    · have hzk : z = M.length := by rw [← hkM.out]; omega
      have e : M.take z = M := List.take_of_length_le (by omega)
      rw [e] at hS
      go_wp2_with fail
      go_ret
      rw [hzk] at hS ⊢
      exact ⟨_, _, rfl, hS.one 0 rfl⟩
end Go.Proofs.Ytajldelodnjmoaa
end

section
/- The replica: Get, Begin, Stop. -/
set_option linter.unusedSimpArgs false
set_option linter.unusedVariables false
namespace Go.Proofs.Ytajldelodnjmoaa
open Go.RowKit Go.Ofp
set_option linter.unusedVariables false
set_option maxRecDepth 100000
set_option maxHeartbeats 4000000

theorem rstop_any (g gm : Nat) (dev : Int) (s : RpS) (w : World) (hS : St w (feet (rpA g gm dev s)) (rpA g gm dev s) w) :
    Calls Try.prog 43 #[.pointer (some ⟨g, 0, none⟩)] w fun e w' => e = .returned (.tuple #[]) ∧ St w (feet (rpA g gm dev s)) (rpA g gm dev RpS.off) w' := by
  generalize feet (rpA g gm dev s) = F at *
  obtain ⟨on, ⟨t1, t2, t3, t4⟩, M⟩ := s
  have e0 : rpRow dev ⟨on, ⟨t1, t2, t3, t4⟩, M⟩ gm = [.int .i64 dev, .bool on, .int .i64 t1, .int .i64 t2, .int .i64 t3, .int .i64 t4, .map (some gm)] := rfl
  have e1 : rpRow dev RpS.off gm = [.int .i64 dev, .bool false, .int .i64 0, .int .i64 0, .int .i64 0, .int .i64 0, .map (some gm)] := rfl
  have e2 : cdM cdRow RpS.off.m = noM := rfl
  have e3 : RpS.off.m.length = 0 := rfl
  unfold rpA at hS ⊢
  rw [e0] at hS
  rw [e1, e2, e3]
  dsimp only at hS
  clear e0 e1 e2 e3
  generalize cdM cdRow M = f at *
  generalize M.length = n at *
  go_enter Try.func43, Try.ntmps43
  go_wp2_with (first
    | ((with_reducible refine wpList_mapclear_st (k := 3) 1 hS rfl rfl rfl rfl Try.underlying95 ?_); intro w6 hS1; clear hS; have hS := hS1; clear hS1; simp only [List.set_cons_zero, List.set_cons_succ] at hS)
    | ((with_reducible refine wpList_storerow_st (t := 64) (n := 4) (j := 2) 0 hS rfl rfl rfl rfl (by kernel_rfl) rfl rfl rfl (by kernel_rfl) ?_); intro w1 hS1; clear hS; have hS := hS1; clear hS1; try simp only [List.set_cons_zero, List.set_cons_succ, List.setIfInBounds_toArray, List.take_succ_cons, List.take_zero, List.drop_succ_cons, List.drop_zero, List.nil_append, List.cons_append, List.append_nil, List.drop_nil, List.take_nil, List.length_cons, List.length_nil, Nat.zero_add, Nat.add_zero, Nat.reduceAdd] at hS)
    | (with_reducible refine wpList_box_st hS rfl rfl rfl ?_; intro g1 w1 hS1; clear hS; replace hS := hS1; clear hS1) | (with_reducible refine wpList_box1_st hS rfl rfl rfl ?_; intro g1 w1 hS1; clear hS; replace hS := hS1; clear hS1) | (with_reducible refine wpList_alloc_st hS rfl rfl (by assumption) ?_; intro g1 w1 hS1; clear hS; replace hS := hS1; clear hS1) | (with_reducible refine wpList_alloc1_st hS rfl rfl (by assumption) rfl ?_; intro g1 w1 hS1; clear hS; replace hS := hS1; clear hS1) | ((with_reducible refine wpList_load_st 0 hS rfl rfl rfl rfl ?_ rfl ?_); focus (simp [scalarB, go_sem]; done)) | ((with_reducible refine wpList_loadall_st 0 hS rfl rfl rfl rfl ?_ (by kernel_rfl) ?_); focus (simp [rowB, go_sem]; done)) | ((with_reducible refine wpList_store_st 0 hS rfl rfl rfl rfl (by kernel_rfl) rfl rfl ?_); intro w1 hS1; clear hS; replace hS := hS1; clear hS1; try simp only [List.set_cons_zero, List.set_cons_succ, List.setIfInBounds_toArray, List.take_succ_cons, List.take_zero, List.drop_succ_cons, List.drop_zero, List.nil_append, List.cons_append, List.append_nil, List.drop_nil, List.take_nil, List.length_cons, List.length_nil, Nat.zero_add, Nat.add_zero, Nat.reduceAdd] at hS) | ((with_reducible refine wpList_storerow_st 0 hS rfl rfl rfl rfl (by kernel_rfl) rfl rfl rfl rfl ?_); intro w1 hS1; clear hS; replace hS := hS1; clear hS1; try simp only [List.set_cons_zero, List.set_cons_succ, List.setIfInBounds_toArray, List.take_succ_cons, List.take_zero, List.drop_succ_cons, List.drop_zero, List.nil_append, List.cons_append, List.append_nil, List.drop_nil, List.take_nil, List.length_cons, List.length_nil, Nat.zero_add, Nat.add_zero, Nat.reduceAdd] at hS))
  exact bodyPost_end (results_none rfl _ _ _) rfl ⟨rfl, hS⟩

theorem rbegin_any (g gm : Nat) (dev e q : Int) (s : RpS) (w : World) (hS : St w (feet (rpA g gm dev s)) (rpA g gm dev s) w) :
    Calls Try.prog 39 #[.pointer (some ⟨g, 0, none⟩), .int .i64 e, .int .i64 q] w fun en w' => en = .returned (.bool (s.begin dev e q).2) ∧ St w (feet (rpA g gm dev s)) (rpA g gm dev (s.begin dev e q).1) w' := by
  have et := elem_tk
  have cF := Lib.hid fun W : World => first26_any dev e q W
  have cC := fun W : World => tcheck26_any ⟨dev, e, q, 0⟩ W
  have hb : s.begin dev e q = if Tk.ok ⟨dev, e, q, 0⟩ = false then (s, false) else if s.on = false ∨ s.t.epoch ≠ e then (⟨true, ⟨dev, e, q, 0⟩, []⟩, true) else (s, true) := rfl
  rw [hb]
  clear hb
  have e9 : tkRow ⟨dev, e, q, 0⟩ = [.int .i64 dev, .int .i64 e, .int .i64 q, .int .i64 0] := rfl
  rw [e9] at cF cC
  generalize Tk.ok ⟨dev, e, q, 0⟩ = ok at *
  generalize feet (rpA g gm dev s) = F at *
  have hA : ∀ s : RpS, rpA g gm dev s = [Ch.blk g 98 (rpRow dev s gm).toArray, Ch.map Try.prog 3 gm s.m.length (cdM cdRow s.m)] := fun _ => rfl
  obtain ⟨on, ⟨t1, t2, t3, t4⟩, M⟩ := s
  have e0 : rpRow dev ⟨on, ⟨t1, t2, t3, t4⟩, M⟩ gm = [.int .i64 dev, .bool on, .int .i64 t1, .int .i64 t2, .int .i64 t3, .int .i64 t4, .map (some gm)] := rfl
  rw [hA, e0] at hS
  dsimp only at hS
  have hfin0 : ∀ W, St w F [Ch.blk g 98 #[.int .i64 dev, .bool on, .int .i64 t1, .int .i64 t2, .int .i64 t3, .int .i64 t4, .map (some gm)], Ch.map Try.prog 3 gm M.length (cdM cdRow M)] W → St w F (rpA g gm dev ⟨on, ⟨t1, t2, t3, t4⟩, M⟩) W := fun W h => h
  have hfin1 : ∀ W, St w F [Ch.blk g 98 #[.int .i64 dev, .bool true, .int .i64 dev, .int .i64 e, .int .i64 q, .int .i64 0, .map (some gm)], Ch.map Try.prog 3 gm 0 noM] W → St w F (rpA g gm dev ⟨true, ⟨dev, e, q, 0⟩, []⟩) W := fun W h => h
  replace hfin0 := Lib.hid hfin0
  replace hfin1 := Lib.hid hfin1
  replace cC := Lib.hid cC
  clear hA e0 e9
  generalize cdM cdRow M = f at *
  generalize M.length = n at *
  cases ok
  · rw [if_pos rfl]
    go_enter Try.func39, Try.ntmps39
    go_wp2_with (first
      | (go_at_call 64; (with_reducible refine (cF.out _).mono ?_); rintro _ w3 ⟨rfl, hk9⟩; have hS1 := hS.keepB hk9; clear hk9 hS; have hS := hS1; clear hS1)
      | (go_at_call 65; (with_reducible refine (cC.out _).mono ?_); rintro _ w3 ⟨rfl, hk9⟩; have hS1 := hS.keepB hk9; clear hk9 hS; have hS := hS1; clear hS1)
      | (with_reducible refine wpList_alloc_st (L := [_, _]) hS rfl rfl et ?_; intro gA w1 hS1; clear hS; have hS := hS1; clear hS1)
      | ((with_reducible refine wpList_gload_st 1 hS rfl (by with_unfolding_all rfl) rfl rfl ?_ rfl ?_); focus (simp [scalarB, go_sem]; done))
      | (with_reducible refine wpList_box_st hS rfl rfl rfl ?_; intro g1 w1 hS1; clear hS; replace hS := hS1; clear hS1) | (with_reducible refine wpList_box1_st hS rfl rfl rfl ?_; intro g1 w1 hS1; clear hS; replace hS := hS1; clear hS1) | (with_reducible refine wpList_alloc_st hS rfl rfl (by assumption) ?_; intro g1 w1 hS1; clear hS; replace hS := hS1; clear hS1) | (with_reducible refine wpList_alloc1_st hS rfl rfl (by assumption) rfl ?_; intro g1 w1 hS1; clear hS; replace hS := hS1; clear hS1) | ((with_reducible refine wpList_load_st 0 hS rfl rfl rfl rfl ?_ rfl ?_); focus (simp [scalarB, go_sem]; done)) | ((with_reducible refine wpList_loadall_st 0 hS rfl rfl rfl rfl ?_ (by kernel_rfl) ?_); focus (simp [rowB, go_sem]; done)) | ((with_reducible refine wpList_store_st 0 hS rfl rfl rfl rfl (by kernel_rfl) rfl rfl ?_); intro w1 hS1; clear hS; replace hS := hS1; clear hS1; try simp only [List.set_cons_zero, List.set_cons_succ, List.setIfInBounds_toArray, List.take_succ_cons, List.take_zero, List.drop_succ_cons, List.drop_zero, List.nil_append, List.cons_append, List.append_nil, List.drop_nil, List.take_nil, List.length_cons, List.length_nil, Nat.zero_add, Nat.add_zero, Nat.reduceAdd] at hS) | ((with_reducible refine wpList_storerow_st 0 hS rfl rfl rfl rfl (by kernel_rfl) rfl rfl rfl rfl ?_); intro w1 hS1; clear hS; replace hS := hS1; clear hS1; try simp only [List.set_cons_zero, List.set_cons_succ, List.setIfInBounds_toArray, List.take_succ_cons, List.take_zero, List.drop_succ_cons, List.drop_zero, List.nil_append, List.cons_append, List.append_nil, List.drop_nil, List.take_nil, List.length_cons, List.length_nil, Nat.zero_add, Nat.add_zero, Nat.reduceAdd] at hS) | ((with_reducible refine wpList_load_st 1 hS rfl rfl rfl rfl ?_ rfl ?_); focus (simp [scalarB, go_sem]; done)) | ((with_reducible refine wpList_loadall_st 1 hS rfl rfl rfl rfl ?_ (by kernel_rfl) ?_); focus (simp [rowB, go_sem]; done)) | ((with_reducible refine wpList_store_st 1 hS rfl rfl rfl rfl (by kernel_rfl) rfl rfl ?_); intro w1 hS1; clear hS; replace hS := hS1; clear hS1; try simp only [List.set_cons_zero, List.set_cons_succ, List.setIfInBounds_toArray, List.take_succ_cons, List.take_zero, List.drop_succ_cons, List.drop_zero, List.nil_append, List.cons_append, List.append_nil, List.drop_nil, List.take_nil, List.length_cons, List.length_nil, Nat.zero_add, Nat.add_zero, Nat.reduceAdd] at hS) | ((with_reducible refine wpList_storerow_st 1 hS rfl rfl rfl rfl (by kernel_rfl) rfl rfl rfl rfl ?_); intro w1 hS1; clear hS; replace hS := hS1; clear hS1; try simp only [List.set_cons_zero, List.set_cons_succ, List.setIfInBounds_toArray, List.take_succ_cons, List.take_zero, List.drop_succ_cons, List.drop_zero, List.nil_append, List.cons_append, List.append_nil, List.drop_nil, List.take_nil, List.length_cons, List.length_nil, Nat.zero_add, Nat.add_zero, Nat.reduceAdd] at hS))
    go_ret
    exact ⟨rfl, hfin0.out _ hS.drop⟩
  · rw [if_neg (by decide)]
    have hvr : (#[Value.int .i64 dev, .int .i64 e, .int .i64 q, .int .i64 0].toList.drop 0).take 4 = [.int .i64 dev, .int .i64 e, .int .i64 q, .int .i64 0] := rfl
    cases on
    · rw [if_pos (Or.inl rfl)]
      go_enter Try.func39, Try.ntmps39
      go_wp2_with (first
        | (go_at_call 64; (with_reducible refine (cF.out _).mono ?_); rintro _ w3 ⟨rfl, hk9⟩; have hS1 := hS.keepB hk9; clear hk9 hS; have hS := hS1; clear hS1)
        | (go_at_call 65; (with_reducible refine (cC.out _).mono ?_); rintro _ w3 ⟨rfl, hk9⟩; have hS1 := hS.keepB hk9; clear hk9 hS; have hS := hS1; clear hS1)
        | (with_reducible refine wpList_alloc_st (L := [_, _]) hS rfl rfl et ?_; intro gA w1 hS1; clear hS; have hS := hS1; clear hS1)
        | ((with_reducible refine wpList_gload_st 1 hS rfl (by with_unfolding_all rfl) rfl rfl ?_ rfl ?_); focus (simp [scalarB, go_sem]; done))
        | (with_reducible refine wpList_box_st hS rfl rfl rfl ?_; intro g1 w1 hS1; clear hS; replace hS := hS1; clear hS1) | (with_reducible refine wpList_box1_st hS rfl rfl rfl ?_; intro g1 w1 hS1; clear hS; replace hS := hS1; clear hS1) | (with_reducible refine wpList_alloc_st hS rfl rfl (by assumption) ?_; intro g1 w1 hS1; clear hS; replace hS := hS1; clear hS1) | (with_reducible refine wpList_alloc1_st hS rfl rfl (by assumption) rfl ?_; intro g1 w1 hS1; clear hS; replace hS := hS1; clear hS1) | ((with_reducible refine wpList_load_st 0 hS rfl rfl rfl rfl ?_ rfl ?_); focus (simp [scalarB, go_sem]; done)) | ((with_reducible refine wpList_loadall_st 0 hS rfl rfl rfl rfl ?_ (by kernel_rfl) ?_); focus (simp [rowB, go_sem]; done)) | ((with_reducible refine wpList_store_st 0 hS rfl rfl rfl rfl (by kernel_rfl) rfl rfl ?_); intro w1 hS1; clear hS; replace hS := hS1; clear hS1; try simp only [List.set_cons_zero, List.set_cons_succ, List.setIfInBounds_toArray, List.take_succ_cons, List.take_zero, List.drop_succ_cons, List.drop_zero, List.nil_append, List.cons_append, List.append_nil, List.drop_nil, List.take_nil, List.length_cons, List.length_nil, Nat.zero_add, Nat.add_zero, Nat.reduceAdd] at hS) | ((with_reducible refine wpList_storerow_st 0 hS rfl rfl rfl rfl (by kernel_rfl) rfl rfl rfl rfl ?_); intro w1 hS1; clear hS; replace hS := hS1; clear hS1; try simp only [List.set_cons_zero, List.set_cons_succ, List.setIfInBounds_toArray, List.take_succ_cons, List.take_zero, List.drop_succ_cons, List.drop_zero, List.nil_append, List.cons_append, List.append_nil, List.drop_nil, List.take_nil, List.length_cons, List.length_nil, Nat.zero_add, Nat.add_zero, Nat.reduceAdd] at hS) | ((with_reducible refine wpList_load_st 1 hS rfl rfl rfl rfl ?_ rfl ?_); focus (simp [scalarB, go_sem]; done)) | ((with_reducible refine wpList_loadall_st 1 hS rfl rfl rfl rfl ?_ (by kernel_rfl) ?_); focus (simp [rowB, go_sem]; done)) | ((with_reducible refine wpList_store_st 1 hS rfl rfl rfl rfl (by kernel_rfl) rfl rfl ?_); intro w1 hS1; clear hS; replace hS := hS1; clear hS1; try simp only [List.set_cons_zero, List.set_cons_succ, List.setIfInBounds_toArray, List.take_succ_cons, List.take_zero, List.drop_succ_cons, List.drop_zero, List.nil_append, List.cons_append, List.append_nil, List.drop_nil, List.take_nil, List.length_cons, List.length_nil, Nat.zero_add, Nat.add_zero, Nat.reduceAdd] at hS) | ((with_reducible refine wpList_storerow_st 1 hS rfl rfl rfl rfl (by kernel_rfl) rfl rfl rfl rfl ?_); intro w1 hS1; clear hS; replace hS := hS1; clear hS1; try simp only [List.set_cons_zero, List.set_cons_succ, List.setIfInBounds_toArray, List.take_succ_cons, List.take_zero, List.drop_succ_cons, List.drop_zero, List.nil_append, List.cons_append, List.append_nil, List.drop_nil, List.take_nil, List.length_cons, List.length_nil, Nat.zero_add, Nat.add_zero, Nat.reduceAdd] at hS))
      refine mixs_beginC 0 (by kernel_rfl) hS rfl ?_
      clear hS
      intro w2 hS hC
      have kC := hC.kblk 0 rfl
      have kr := hC.krow (P := Try.prog) (j := 0) 0 rfl (t := 64) (by kernel_rfl) (n := 4) (by kernel_rfl) hvr rfl
      refine mixs_take 0 (v := ?_) rfl (by kernel_rfl) (fun _ _ _ h => h) (by kernel_rfl) (by assumption) (fun s => ?hy) ?_; case hy => (go_simp <;> with_reducible rfl)
      try simp only [List.getElem_toArray, List.getElem_cons_succ, List.getElem_cons_zero, Act.put, List.setIfInBounds_toArray, List.set_cons_zero, List.set_cons_succ]
      refine mixs_take 1 (v := ?_) rfl (by kernel_rfl) (fun _ _ _ h => h) (by kernel_rfl) (by assumption) (fun s => ?hy) ?_; case hy => (go_simp <;> with_reducible rfl)
      try simp only [List.getElem_toArray, List.getElem_cons_succ, List.getElem_cons_zero, Act.put, List.setIfInBounds_toArray, List.set_cons_zero, List.set_cons_succ]
      refine mixs_take 2 (v := ?_) rfl (by kernel_rfl) (fun _ _ _ h => h) (by kernel_rfl) (by assumption) (fun s => ?hy) ?_; case hy => (refine Eq.trans (take_loadrow s rfl rfl kr) ?_; with_reducible rfl)
      try simp only [List.getElem_toArray, List.getElem_cons_succ, List.getElem_cons_zero, Act.put, List.setIfInBounds_toArray, List.set_cons_zero, List.set_cons_succ]
      refine mixs_take 3 (v := ?_) rfl (by kernel_rfl) (fun _ _ _ h => h) (by kernel_rfl) (by assumption) (fun s => ?hy) ?_; case hy => (go_simp <;> with_reducible rfl)
      try simp only [List.getElem_toArray, List.getElem_cons_succ, List.getElem_cons_zero, Act.put, List.setIfInBounds_toArray, List.set_cons_zero, List.set_cons_succ]
      refine mixs_take 4 (v := ?_) rfl (by kernel_rfl) (fun _ _ _ h => h) (by kernel_rfl) (by assumption) (fun s => ?hy) ?_; case hy => (go_simp <;> with_reducible rfl)
      try simp only [List.getElem_toArray, List.getElem_cons_succ, List.getElem_cons_zero, Act.put, List.setIfInBounds_toArray, List.set_cons_zero, List.set_cons_succ]
      refine mixs_one 5 (by kernel_rfl) rfl (fun K hK => ?_)
      refine op_store_st (by kernel_rfl) 1 hS rfl rfl rfl (by kernel_rfl) rfl rfl ?_
      intro w1 hS1; clear hS; have hS := hS1; clear hS1; try simp only [List.set_cons_zero, List.set_cons_succ, List.setIfInBounds_toArray, List.take_succ_cons, List.take_zero, List.drop_succ_cons, List.drop_zero, List.nil_append, List.cons_append, List.append_nil, List.drop_nil, List.take_nil, List.length_cons, List.length_nil, Nat.zero_add, Nat.add_zero, Nat.reduceAdd] at hS
      try clear hC
      refine hK.out _ _ _ (fun _ h => h) (by first | exact hS | exact hS.drop | exact hS.drop.drop | exact hS.drop.drop.drop | exact hS.drop.drop.drop.drop | exact hS.empty | exact hS.one 0 rfl | exact hS.one 1 rfl | exact hS.one 2 rfl | exact hS.one 3 rfl | exact hS.one 4 rfl | exact hS.one 5 rfl | exact hS.one 6 rfl | exact hS.one 7 rfl | exact hS.one 8 rfl | exact hS.one 9 rfl | exact hS.one 10 rfl | exact hS.one 11 rfl) (fun hC => ?_)
      clear hK K
      try simp only [List.getElem_toArray, List.getElem_cons_succ, List.getElem_cons_zero, Act.put, List.setIfInBounds_toArray, List.set_cons_zero, List.set_cons_succ]
      refine mixs_take 6 (v := ?_) rfl (by kernel_rfl) (fun _ _ _ h => h) (by kernel_rfl) (by assumption) (fun s => ?hy) ?_; case hy => (go_simp <;> with_reducible rfl)
      try simp only [List.getElem_toArray, List.getElem_cons_succ, List.getElem_cons_zero, Act.put, List.setIfInBounds_toArray, List.set_cons_zero, List.set_cons_succ]
      refine mixs_take 7 (v := ?_) rfl (by kernel_rfl) (fun _ _ _ h => h) (by kernel_rfl) (by assumption) (fun s => ?hy) ?_; case hy => (go_simp <;> with_reducible rfl)
      try simp only [List.getElem_toArray, List.getElem_cons_succ, List.getElem_cons_zero, Act.put, List.setIfInBounds_toArray, List.set_cons_zero, List.set_cons_succ]
      refine mixs_one 8 (by kernel_rfl) rfl (fun K hK => ?_)
      (refine op_storerow_st (vs := [.int .i64 dev, .int .i64 e, .int .i64 q, .int .i64 0]) (n := 4) (by kernel_rfl) 1 hS rfl rfl rfl (by kernel_rfl) rfl rfl rfl rfl ?_; intro w1 hS1; clear hS; have hS := hS1; clear hS1; try simp only [List.set_cons_zero, List.set_cons_succ, List.setIfInBounds_toArray, List.take_succ_cons, List.take_zero, List.drop_succ_cons, List.drop_zero, List.nil_append, List.cons_append, List.append_nil, List.drop_nil, List.take_nil, List.length_cons, List.length_nil, Nat.zero_add, Nat.add_zero, Nat.reduceAdd] at hS)
      try clear hC
      refine hK.out _ _ _ (fun _ h => h) (by first | exact hS | exact hS.drop | exact hS.drop.drop | exact hS.drop.drop.drop | exact hS.drop.drop.drop.drop | exact hS.empty | exact hS.one 0 rfl | exact hS.one 1 rfl | exact hS.one 2 rfl | exact hS.one 3 rfl | exact hS.one 4 rfl | exact hS.one 5 rfl | exact hS.one 6 rfl | exact hS.one 7 rfl | exact hS.one 8 rfl | exact hS.one 9 rfl | exact hS.one 10 rfl | exact hS.one 11 rfl) (fun hC => ?_)
      clear hK K
      try simp only [List.getElem_toArray, List.getElem_cons_succ, List.getElem_cons_zero, Act.put, List.setIfInBounds_toArray, List.set_cons_zero, List.set_cons_succ]
      refine wpAnyH_done (by kernel_rfl) ?_ _
      try clear hC
      go_wp2_with (first
        | ((with_reducible refine wpList_mapclear_st (k := 3) 2 hS rfl rfl rfl rfl Try.underlying95 ?_); intro w6 hS1; clear hS; have hS := hS1; clear hS1; simp only [List.set_cons_zero, List.set_cons_succ] at hS)
        | (with_reducible refine wpList_box_st hS rfl rfl rfl ?_; intro g1 w1 hS1; clear hS; replace hS := hS1; clear hS1) | (with_reducible refine wpList_box1_st hS rfl rfl rfl ?_; intro g1 w1 hS1; clear hS; replace hS := hS1; clear hS1) | (with_reducible refine wpList_alloc_st hS rfl rfl (by assumption) ?_; intro g1 w1 hS1; clear hS; replace hS := hS1; clear hS1) | (with_reducible refine wpList_alloc1_st hS rfl rfl (by assumption) rfl ?_; intro g1 w1 hS1; clear hS; replace hS := hS1; clear hS1) | ((with_reducible refine wpList_load_st 0 hS rfl rfl rfl rfl ?_ rfl ?_); focus (simp [scalarB, go_sem]; done)) | ((with_reducible refine wpList_loadall_st 0 hS rfl rfl rfl rfl ?_ (by kernel_rfl) ?_); focus (simp [rowB, go_sem]; done)) | ((with_reducible refine wpList_store_st 0 hS rfl rfl rfl rfl (by kernel_rfl) rfl rfl ?_); intro w1 hS1; clear hS; replace hS := hS1; clear hS1; try simp only [List.set_cons_zero, List.set_cons_succ, List.setIfInBounds_toArray, List.take_succ_cons, List.take_zero, List.drop_succ_cons, List.drop_zero, List.nil_append, List.cons_append, List.append_nil, List.drop_nil, List.take_nil, List.length_cons, List.length_nil, Nat.zero_add, Nat.add_zero, Nat.reduceAdd] at hS) | ((with_reducible refine wpList_storerow_st 0 hS rfl rfl rfl rfl (by kernel_rfl) rfl rfl rfl rfl ?_); intro w1 hS1; clear hS; replace hS := hS1; clear hS1; try simp only [List.set_cons_zero, List.set_cons_succ, List.setIfInBounds_toArray, List.take_succ_cons, List.take_zero, List.drop_succ_cons, List.drop_zero, List.nil_append, List.cons_append, List.append_nil, List.drop_nil, List.take_nil, List.length_cons, List.length_nil, Nat.zero_add, Nat.add_zero, Nat.reduceAdd] at hS) | ((with_reducible refine wpList_load_st 1 hS rfl rfl rfl rfl ?_ rfl ?_); focus (simp [scalarB, go_sem]; done)) | ((with_reducible refine wpList_loadall_st 1 hS rfl rfl rfl rfl ?_ (by kernel_rfl) ?_); focus (simp [rowB, go_sem]; done)) | ((with_reducible refine wpList_store_st 1 hS rfl rfl rfl rfl (by kernel_rfl) rfl rfl ?_); intro w1 hS1; clear hS; replace hS := hS1; clear hS1; try simp only [List.set_cons_zero, List.set_cons_succ, List.setIfInBounds_toArray, List.take_succ_cons, List.take_zero, List.drop_succ_cons, List.drop_zero, List.nil_append, List.cons_append, List.append_nil, List.drop_nil, List.take_nil, List.length_cons, List.length_nil, Nat.zero_add, Nat.add_zero, Nat.reduceAdd] at hS) | ((with_reducible refine wpList_storerow_st 1 hS rfl rfl rfl rfl (by kernel_rfl) rfl rfl rfl rfl ?_); intro w1 hS1; clear hS; replace hS := hS1; clear hS1; try simp only [List.set_cons_zero, List.set_cons_succ, List.setIfInBounds_toArray, List.take_succ_cons, List.take_zero, List.drop_succ_cons, List.drop_zero, List.nil_append, List.cons_append, List.append_nil, List.drop_nil, List.take_nil, List.length_cons, List.length_nil, Nat.zero_add, Nat.add_zero, Nat.reduceAdd] at hS))
      go_ret
      exact ⟨rfl, hfin1.out _ hS.drop⟩
    · by_cases h : t2 = e
      · have d1 : (t2 != e) = false := by simpa using h
        rw [if_neg (by simp [h])]
        clear h
        go_enter Try.func39, Try.ntmps39
        go_wp2_with (first
          | (go_at_call 64; (with_reducible refine (cF.out _).mono ?_); rintro _ w3 ⟨rfl, hk9⟩; have hS1 := hS.keepB hk9; clear hk9 hS; have hS := hS1; clear hS1)
          | (go_at_call 65; (with_reducible refine (cC.out _).mono ?_); rintro _ w3 ⟨rfl, hk9⟩; have hS1 := hS.keepB hk9; clear hk9 hS; have hS := hS1; clear hS1)
          | (with_reducible refine wpList_alloc_st (L := [_, _]) hS rfl rfl et ?_; intro gA w1 hS1; clear hS; have hS := hS1; clear hS1)
          | ((with_reducible refine wpList_gload_st 1 hS rfl (by with_unfolding_all rfl) rfl rfl ?_ rfl ?_); focus (simp [scalarB, go_sem]; done))
          | (with_reducible refine wpList_box_st hS rfl rfl rfl ?_; intro g1 w1 hS1; clear hS; replace hS := hS1; clear hS1) | (with_reducible refine wpList_box1_st hS rfl rfl rfl ?_; intro g1 w1 hS1; clear hS; replace hS := hS1; clear hS1) | (with_reducible refine wpList_alloc_st hS rfl rfl (by assumption) ?_; intro g1 w1 hS1; clear hS; replace hS := hS1; clear hS1) | (with_reducible refine wpList_alloc1_st hS rfl rfl (by assumption) rfl ?_; intro g1 w1 hS1; clear hS; replace hS := hS1; clear hS1) | ((with_reducible refine wpList_load_st 0 hS rfl rfl rfl rfl ?_ rfl ?_); focus (simp [scalarB, go_sem]; done)) | ((with_reducible refine wpList_loadall_st 0 hS rfl rfl rfl rfl ?_ (by kernel_rfl) ?_); focus (simp [rowB, go_sem]; done)) | ((with_reducible refine wpList_store_st 0 hS rfl rfl rfl rfl (by kernel_rfl) rfl rfl ?_); intro w1 hS1; clear hS; replace hS := hS1; clear hS1; try simp only [List.set_cons_zero, List.set_cons_succ, List.setIfInBounds_toArray, List.take_succ_cons, List.take_zero, List.drop_succ_cons, List.drop_zero, List.nil_append, List.cons_append, List.append_nil, List.drop_nil, List.take_nil, List.length_cons, List.length_nil, Nat.zero_add, Nat.add_zero, Nat.reduceAdd] at hS) | ((with_reducible refine wpList_storerow_st 0 hS rfl rfl rfl rfl (by kernel_rfl) rfl rfl rfl rfl ?_); intro w1 hS1; clear hS; replace hS := hS1; clear hS1; try simp only [List.set_cons_zero, List.set_cons_succ, List.setIfInBounds_toArray, List.take_succ_cons, List.take_zero, List.drop_succ_cons, List.drop_zero, List.nil_append, List.cons_append, List.append_nil, List.drop_nil, List.take_nil, List.length_cons, List.length_nil, Nat.zero_add, Nat.add_zero, Nat.reduceAdd] at hS) | ((with_reducible refine wpList_load_st 1 hS rfl rfl rfl rfl ?_ rfl ?_); focus (simp [scalarB, go_sem]; done)) | ((with_reducible refine wpList_loadall_st 1 hS rfl rfl rfl rfl ?_ (by kernel_rfl) ?_); focus (simp [rowB, go_sem]; done)) | ((with_reducible refine wpList_store_st 1 hS rfl rfl rfl rfl (by kernel_rfl) rfl rfl ?_); intro w1 hS1; clear hS; replace hS := hS1; clear hS1; try simp only [List.set_cons_zero, List.set_cons_succ, List.setIfInBounds_toArray, List.take_succ_cons, List.take_zero, List.drop_succ_cons, List.drop_zero, List.nil_append, List.cons_append, List.append_nil, List.drop_nil, List.take_nil, List.length_cons, List.length_nil, Nat.zero_add, Nat.add_zero, Nat.reduceAdd] at hS) | ((with_reducible refine wpList_storerow_st 1 hS rfl rfl rfl rfl (by kernel_rfl) rfl rfl rfl rfl ?_); intro w1 hS1; clear hS; replace hS := hS1; clear hS1; try simp only [List.set_cons_zero, List.set_cons_succ, List.setIfInBounds_toArray, List.take_succ_cons, List.take_zero, List.drop_succ_cons, List.drop_zero, List.nil_append, List.cons_append, List.append_nil, List.drop_nil, List.take_nil, List.length_cons, List.length_nil, Nat.zero_add, Nat.add_zero, Nat.reduceAdd] at hS))
        go_ret
        exact ⟨rfl, hfin0.out _ hS.drop⟩
      · have d1 : (t2 != e) = true := by simpa using h
        rw [if_pos (Or.inr h)]
        clear h
        go_enter Try.func39, Try.ntmps39
        go_wp2_with (first
          | (go_at_call 64; (with_reducible refine (cF.out _).mono ?_); rintro _ w3 ⟨rfl, hk9⟩; have hS1 := hS.keepB hk9; clear hk9 hS; have hS := hS1; clear hS1)
          | (go_at_call 65; (with_reducible refine (cC.out _).mono ?_); rintro _ w3 ⟨rfl, hk9⟩; have hS1 := hS.keepB hk9; clear hk9 hS; have hS := hS1; clear hS1)
          | (with_reducible refine wpList_alloc_st (L := [_, _]) hS rfl rfl et ?_; intro gA w1 hS1; clear hS; have hS := hS1; clear hS1)
          | ((with_reducible refine wpList_gload_st 1 hS rfl (by with_unfolding_all rfl) rfl rfl ?_ rfl ?_); focus (simp [scalarB, go_sem]; done))
          | (with_reducible refine wpList_box_st hS rfl rfl rfl ?_; intro g1 w1 hS1; clear hS; replace hS := hS1; clear hS1) | (with_reducible refine wpList_box1_st hS rfl rfl rfl ?_; intro g1 w1 hS1; clear hS; replace hS := hS1; clear hS1) | (with_reducible refine wpList_alloc_st hS rfl rfl (by assumption) ?_; intro g1 w1 hS1; clear hS; replace hS := hS1; clear hS1) | (with_reducible refine wpList_alloc1_st hS rfl rfl (by assumption) rfl ?_; intro g1 w1 hS1; clear hS; replace hS := hS1; clear hS1) | ((with_reducible refine wpList_load_st 0 hS rfl rfl rfl rfl ?_ rfl ?_); focus (simp [scalarB, go_sem]; done)) | ((with_reducible refine wpList_loadall_st 0 hS rfl rfl rfl rfl ?_ (by kernel_rfl) ?_); focus (simp [rowB, go_sem]; done)) | ((with_reducible refine wpList_store_st 0 hS rfl rfl rfl rfl (by kernel_rfl) rfl rfl ?_); intro w1 hS1; clear hS; replace hS := hS1; clear hS1; try simp only [List.set_cons_zero, List.set_cons_succ, List.setIfInBounds_toArray, List.take_succ_cons, List.take_zero, List.drop_succ_cons, List.drop_zero, List.nil_append, List.cons_append, List.append_nil, List.drop_nil, List.take_nil, List.length_cons, List.length_nil, Nat.zero_add, Nat.add_zero, Nat.reduceAdd] at hS) | ((with_reducible refine wpList_storerow_st 0 hS rfl rfl rfl rfl (by kernel_rfl) rfl rfl rfl rfl ?_); intro w1 hS1; clear hS; replace hS := hS1; clear hS1; try simp only [List.set_cons_zero, List.set_cons_succ, List.setIfInBounds_toArray, List.take_succ_cons, List.take_zero, List.drop_succ_cons, List.drop_zero, List.nil_append, List.cons_append, List.append_nil, List.drop_nil, List.take_nil, List.length_cons, List.length_nil, Nat.zero_add, Nat.add_zero, Nat.reduceAdd] at hS) | ((with_reducible refine wpList_load_st 1 hS rfl rfl rfl rfl ?_ rfl ?_); focus (simp [scalarB, go_sem]; done)) | ((with_reducible refine wpList_loadall_st 1 hS rfl rfl rfl rfl ?_ (by kernel_rfl) ?_); focus (simp [rowB, go_sem]; done)) | ((with_reducible refine wpList_store_st 1 hS rfl rfl rfl rfl (by kernel_rfl) rfl rfl ?_); intro w1 hS1; clear hS; replace hS := hS1; clear hS1; try simp only [List.set_cons_zero, List.set_cons_succ, List.setIfInBounds_toArray, List.take_succ_cons, List.take_zero, List.drop_succ_cons, List.drop_zero, List.nil_append, List.cons_append, List.append_nil, List.drop_nil, List.take_nil, List.length_cons, List.length_nil, Nat.zero_add, Nat.add_zero, Nat.reduceAdd] at hS) | ((with_reducible refine wpList_storerow_st 1 hS rfl rfl rfl rfl (by kernel_rfl) rfl rfl rfl rfl ?_); intro w1 hS1; clear hS; replace hS := hS1; clear hS1; try simp only [List.set_cons_zero, List.set_cons_succ, List.setIfInBounds_toArray, List.take_succ_cons, List.take_zero, List.drop_succ_cons, List.drop_zero, List.nil_append, List.cons_append, List.append_nil, List.drop_nil, List.take_nil, List.length_cons, List.length_nil, Nat.zero_add, Nat.add_zero, Nat.reduceAdd] at hS))
        refine mixs_beginC 0 (by kernel_rfl) hS rfl ?_
        clear hS
        intro w2 hS hC
        have kC := hC.kblk 0 rfl
        have kr := hC.krow (P := Try.prog) (j := 0) 0 rfl (t := 64) (by kernel_rfl) (n := 4) (by kernel_rfl) hvr rfl
        refine mixs_take 0 (v := ?_) rfl (by kernel_rfl) (fun _ _ _ h => h) (by kernel_rfl) (by assumption) (fun s => ?hy) ?_; case hy => (go_simp <;> with_reducible rfl)
        try simp only [List.getElem_toArray, List.getElem_cons_succ, List.getElem_cons_zero, Act.put, List.setIfInBounds_toArray, List.set_cons_zero, List.set_cons_succ]
        refine mixs_take 1 (v := ?_) rfl (by kernel_rfl) (fun _ _ _ h => h) (by kernel_rfl) (by assumption) (fun s => ?hy) ?_; case hy => (go_simp <;> with_reducible rfl)
        try simp only [List.getElem_toArray, List.getElem_cons_succ, List.getElem_cons_zero, Act.put, List.setIfInBounds_toArray, List.set_cons_zero, List.set_cons_succ]
        refine mixs_take 2 (v := ?_) rfl (by kernel_rfl) (fun _ _ _ h => h) (by kernel_rfl) (by assumption) (fun s => ?hy) ?_; case hy => (refine Eq.trans (take_loadrow s rfl rfl kr) ?_; with_reducible rfl)
        try simp only [List.getElem_toArray, List.getElem_cons_succ, List.getElem_cons_zero, Act.put, List.setIfInBounds_toArray, List.set_cons_zero, List.set_cons_succ]
        refine mixs_take 3 (v := ?_) rfl (by kernel_rfl) (fun _ _ _ h => h) (by kernel_rfl) (by assumption) (fun s => ?hy) ?_; case hy => (go_simp <;> with_reducible rfl)
        try simp only [List.getElem_toArray, List.getElem_cons_succ, List.getElem_cons_zero, Act.put, List.setIfInBounds_toArray, List.set_cons_zero, List.set_cons_succ]
        refine mixs_take 4 (v := ?_) rfl (by kernel_rfl) (fun _ _ _ h => h) (by kernel_rfl) (by assumption) (fun s => ?hy) ?_; case hy => (go_simp <;> with_reducible rfl)
        try simp only [List.getElem_toArray, List.getElem_cons_succ, List.getElem_cons_zero, Act.put, List.setIfInBounds_toArray, List.set_cons_zero, List.set_cons_succ]
        refine mixs_one 5 (by kernel_rfl) rfl (fun K hK => ?_)
        refine op_store_st (by kernel_rfl) 1 hS rfl rfl rfl (by kernel_rfl) rfl rfl ?_
        intro w1 hS1; clear hS; have hS := hS1; clear hS1; try simp only [List.set_cons_zero, List.set_cons_succ, List.setIfInBounds_toArray, List.take_succ_cons, List.take_zero, List.drop_succ_cons, List.drop_zero, List.nil_append, List.cons_append, List.append_nil, List.drop_nil, List.take_nil, List.length_cons, List.length_nil, Nat.zero_add, Nat.add_zero, Nat.reduceAdd] at hS
        try clear hC
        refine hK.out _ _ _ (fun _ h => h) (by first | exact hS | exact hS.drop | exact hS.drop.drop | exact hS.drop.drop.drop | exact hS.drop.drop.drop.drop | exact hS.empty | exact hS.one 0 rfl | exact hS.one 1 rfl | exact hS.one 2 rfl | exact hS.one 3 rfl | exact hS.one 4 rfl | exact hS.one 5 rfl | exact hS.one 6 rfl | exact hS.one 7 rfl | exact hS.one 8 rfl | exact hS.one 9 rfl | exact hS.one 10 rfl | exact hS.one 11 rfl) (fun hC => ?_)
        clear hK K
        try simp only [List.getElem_toArray, List.getElem_cons_succ, List.getElem_cons_zero, Act.put, List.setIfInBounds_toArray, List.set_cons_zero, List.set_cons_succ]
        refine mixs_take 6 (v := ?_) rfl (by kernel_rfl) (fun _ _ _ h => h) (by kernel_rfl) (by assumption) (fun s => ?hy) ?_; case hy => (go_simp <;> with_reducible rfl)
        try simp only [List.getElem_toArray, List.getElem_cons_succ, List.getElem_cons_zero, Act.put, List.setIfInBounds_toArray, List.set_cons_zero, List.set_cons_succ]
        refine mixs_take 7 (v := ?_) rfl (by kernel_rfl) (fun _ _ _ h => h) (by kernel_rfl) (by assumption) (fun s => ?hy) ?_; case hy => (go_simp <;> with_reducible rfl)
        try simp only [List.getElem_toArray, List.getElem_cons_succ, List.getElem_cons_zero, Act.put, List.setIfInBounds_toArray, List.set_cons_zero, List.set_cons_succ]
        refine mixs_one 8 (by kernel_rfl) rfl (fun K hK => ?_)
        (refine op_storerow_st (vs := [.int .i64 dev, .int .i64 e, .int .i64 q, .int .i64 0]) (n := 4) (by kernel_rfl) 1 hS rfl rfl rfl (by kernel_rfl) rfl rfl rfl rfl ?_; intro w1 hS1; clear hS; have hS := hS1; clear hS1; try simp only [List.set_cons_zero, List.set_cons_succ, List.setIfInBounds_toArray, List.take_succ_cons, List.take_zero, List.drop_succ_cons, List.drop_zero, List.nil_append, List.cons_append, List.append_nil, List.drop_nil, List.take_nil, List.length_cons, List.length_nil, Nat.zero_add, Nat.add_zero, Nat.reduceAdd] at hS)
        try clear hC
        refine hK.out _ _ _ (fun _ h => h) (by first | exact hS | exact hS.drop | exact hS.drop.drop | exact hS.drop.drop.drop | exact hS.drop.drop.drop.drop | exact hS.empty | exact hS.one 0 rfl | exact hS.one 1 rfl | exact hS.one 2 rfl | exact hS.one 3 rfl | exact hS.one 4 rfl | exact hS.one 5 rfl | exact hS.one 6 rfl | exact hS.one 7 rfl | exact hS.one 8 rfl | exact hS.one 9 rfl | exact hS.one 10 rfl | exact hS.one 11 rfl) (fun hC => ?_)
        clear hK K
        try simp only [List.getElem_toArray, List.getElem_cons_succ, List.getElem_cons_zero, Act.put, List.setIfInBounds_toArray, List.set_cons_zero, List.set_cons_succ]
        refine wpAnyH_done (by kernel_rfl) ?_ _
        try clear hC
        go_wp2_with (first
          | ((with_reducible refine wpList_mapclear_st (k := 3) 2 hS rfl rfl rfl rfl Try.underlying95 ?_); intro w6 hS1; clear hS; have hS := hS1; clear hS1; simp only [List.set_cons_zero, List.set_cons_succ] at hS)
          | (with_reducible refine wpList_box_st hS rfl rfl rfl ?_; intro g1 w1 hS1; clear hS; replace hS := hS1; clear hS1) | (with_reducible refine wpList_box1_st hS rfl rfl rfl ?_; intro g1 w1 hS1; clear hS; replace hS := hS1; clear hS1) | (with_reducible refine wpList_alloc_st hS rfl rfl (by assumption) ?_; intro g1 w1 hS1; clear hS; replace hS := hS1; clear hS1) | (with_reducible refine wpList_alloc1_st hS rfl rfl (by assumption) rfl ?_; intro g1 w1 hS1; clear hS; replace hS := hS1; clear hS1) | ((with_reducible refine wpList_load_st 0 hS rfl rfl rfl rfl ?_ rfl ?_); focus (simp [scalarB, go_sem]; done)) | ((with_reducible refine wpList_loadall_st 0 hS rfl rfl rfl rfl ?_ (by kernel_rfl) ?_); focus (simp [rowB, go_sem]; done)) | ((with_reducible refine wpList_store_st 0 hS rfl rfl rfl rfl (by kernel_rfl) rfl rfl ?_); intro w1 hS1; clear hS; replace hS := hS1; clear hS1; try simp only [List.set_cons_zero, List.set_cons_succ, List.setIfInBounds_toArray, List.take_succ_cons, List.take_zero, List.drop_succ_cons, List.drop_zero, List.nil_append, List.cons_append, List.append_nil, List.drop_nil, List.take_nil, List.length_cons, List.length_nil, Nat.zero_add, Nat.add_zero, Nat.reduceAdd] at hS) | ((with_reducible refine wpList_storerow_st 0 hS rfl rfl rfl rfl (by kernel_rfl) rfl rfl rfl rfl ?_); intro w1 hS1; clear hS; replace hS := hS1; clear hS1; try simp only [List.set_cons_zero, List.set_cons_succ, List.setIfInBounds_toArray, List.take_succ_cons, List.take_zero, List.drop_succ_cons, List.drop_zero, List.nil_append, List.cons_append, List.append_nil, List.drop_nil, List.take_nil, List.length_cons, List.length_nil, Nat.zero_add, Nat.add_zero, Nat.reduceAdd] at hS) | ((with_reducible refine wpList_load_st 1 hS rfl rfl rfl rfl ?_ rfl ?_); focus (simp [scalarB, go_sem]; done)) | ((with_reducible refine wpList_loadall_st 1 hS rfl rfl rfl rfl ?_ (by kernel_rfl) ?_); focus (simp [rowB, go_sem]; done)) | ((with_reducible refine wpList_store_st 1 hS rfl rfl rfl rfl (by kernel_rfl) rfl rfl ?_); intro w1 hS1; clear hS; replace hS := hS1; clear hS1; try simp only [List.set_cons_zero, List.set_cons_succ, List.setIfInBounds_toArray, List.take_succ_cons, List.take_zero, List.drop_succ_cons, List.drop_zero, List.nil_append, List.cons_append, List.append_nil, List.drop_nil, List.take_nil, List.length_cons, List.length_nil, Nat.zero_add, Nat.add_zero, Nat.reduceAdd] at hS) | ((with_reducible refine wpList_storerow_st 1 hS rfl rfl rfl rfl (by kernel_rfl) rfl rfl rfl rfl ?_); intro w1 hS1; clear hS; replace hS := hS1; clear hS1; try simp only [List.set_cons_zero, List.set_cons_succ, List.setIfInBounds_toArray, List.take_succ_cons, List.take_zero, List.drop_succ_cons, List.drop_zero, List.nil_append, List.cons_append, List.append_nil, List.drop_nil, List.take_nil, List.length_cons, List.length_nil, Nat.zero_add, Nat.add_zero, Nat.reduceAdd] at hS))
        go_ret
        exact ⟨rfl, hfin1.out _ hS.drop⟩
end Go.Proofs.Ytajldelodnjmoaa
end
