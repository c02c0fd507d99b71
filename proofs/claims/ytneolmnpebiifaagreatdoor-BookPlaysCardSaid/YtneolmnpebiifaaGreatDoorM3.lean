/- Texts laid together: St2 St3 St4 St5. -/
import Derived.Test.YtneolmnpebiifaaGreatDoorM2
section
/- The walk's laws on a call's own blocks: made, read, written. -/
set_option linter.unusedSimpArgs false
set_option linter.unusedVariables false
namespace Go.Ofp
open Go.RowKit

/-- A variable of one cell. -/
def scalarB (P : Program) (t : TypeId) : Bool := match P.underlying t with
  | none | some (.struct _) | some (.array ..) => false
  | _ => true
/-- A struct or an array. -/
def rowB (P : Program) (t : TypeId) : Bool := match P.underlying t with
  | some (.struct _) | some (.array ..) => true
  | _ => false
def sizeB (P : Program) (t : TypeId) (n : Nat) : Bool := (P.info? t).map (·.size) == some n

section
variable {P : Program} {w : World}

theorem run_load1 {t : TypeId} (hu : scalarB P t = true) {p : Addr} {v : Value} (hc : w.cell? p = some v) : (Instr.loadAt t (.pointer (some p))).run P w = .ok v w := by
  unfold scalarB at hu
  cases hq : P.underlying t with
  | none => rw [hq] at hu; cases hu
  | some d =>
    rw [hq] at hu
    have hagg : (isAgg t).run P w = .ok false w := by
      unfold isAgg
      rw [Sem.run_bind, run_underlying hq w]
      cases d <;> simp_all
    simp [Instr.loadAt, Instr.sureAddr, loadVar, hagg, hc, go_sem]

theorem run_store1 {t : TypeId} (hu : sizeB P t 1 = true) {p : Addr} {v u : Value} (hv : v.oneCell' = true) (hc : w.cell? p = some u) (hf : w.frozen? p = false) : (Instr.storeAt t (.pointer (some p)) v).run P w = .ok () (w.setCell p v) := by
  have hs : (P.info? t).map (·.size) = some 1 := by simpa [sizeB] using hu
  have hcs : v.cells = #[v] := by cases v <;> simp_all [Value.cells, Value.oneCell']
  have hp : p.spot = none := World.cell?_spot hc
  have ha : p.add 0 = p := by obtain ⟨b, o, s⟩ := p; subst hp; rw [Addr.add_lit]; simp
  obtain ⟨i, hi, hi1⟩ := Option.map_eq_some_iff.1 hs
  have hst : (store p v).run P w = .ok () (w.setCell p v) := by
    cases v <;> simp_all [Value.oneCell', store, Sem.run]
  simp [Instr.storeAt, Instr.sureAddr, storeVar, sizeOf, typeInfo, hi, hi1, hcs, storeCells, ha, hst]

variable {w0 : World} {F : List Nat} {L : List Ch} {ops : Array Oper} {rest : List Oper} {o : Oper} {a : Act} {Q : Exit → Act → World → Prop}

/-- A value of one cell, looked at. -/
@[reducible] def Value.scal : Value → Option Value
  | .int k z => some (.int k z)
  | .bool b => some (.bool b)
  | .string s => some (.string s)
  | .slice a n c => some (.slice a n c)
  | .pointer p => some (.pointer p)
  | _ => none
theorem Value.scal_spec {v u : Value} (h : Value.scal v = some u) : v = u ∧ v.cells = #[u] ∧ u.oneCell' = true := by
  cases v <;> simp [Value.scal] at h <;> subst h <;> exact ⟨rfl, rfl, rfl⟩

theorem wpList_boxv_st (hS : St w0 F L w) (hgd : o.guard = none) {t : TypeId} {x : Operand} (ho : o.op = .box t x) {v : Value} (hx : a.eval x = v)
    (h : ∀ g w', St w0 F (Ch.blk g t v.cells :: L) w' → wpList P ops Q rest (a.put o.dst (.pointer (some ⟨g, 0, none⟩))) w') : wpList P ops Q (o :: rest) a w := by
  refine wpList_plain hgd fun K hK => ?_
  unfold Oper.wp execOp
  simp only [ho, hx, Instr.box, newVar, newRow, newObj, Sem.run_bind, Sem.run_pure]
  exact hK _ _ (h _ _ (hS.alloc v.cells t))

theorem wpList_box_st (hS : St w0 F L w) (hgd : o.guard = none) {t : TypeId} {x : Operand} (ho : o.op = .box t x) {cs : Array Value} (hx : a.eval x = .agg cs)
    (h : ∀ g w', St w0 F (Ch.blk g t cs :: L) w' → wpList P ops Q rest (a.put o.dst (.pointer (some ⟨g, 0, none⟩))) w') : wpList P ops Q (o :: rest) a w :=
  wpList_boxv_st hS hgd ho hx h

theorem wpList_box1_st (hS : St w0 F L w) (hgd : o.guard = none) {t : TypeId} {x : Operand} (ho : o.op = .box t x) {v : Value} (hx : Value.scal (a.eval x) = some v)
    (h : ∀ g w', St w0 F (Ch.blk g t #[v] :: L) w' → wpList P ops Q rest (a.put o.dst (.pointer (some ⟨g, 0, none⟩))) w') : wpList P ops Q (o :: rest) a w :=
  wpList_boxv_st hS hgd ho rfl (by rw [(Value.scal_spec hx).2.1]; exact h)

theorem wpList_allocv_st (hS : St w0 F L w) (hgd : o.guard = none) {t : TypeId} (ho : o.op = .alloc t) {z : Value} {size bytes : Nat} (he : Elem P t z size bytes)
    (h : ∀ g w', St w0 F (Ch.blk g t z.cells :: L) w' → wpList P ops Q rest (a.put o.dst (.pointer (some ⟨g, 0, none⟩))) w') : wpList P ops Q (o :: rest) a w := by
  refine wpList_plain hgd fun K hK => ?_
  obtain ⟨i, hi, hz', -⟩ := he
  have hr : (Instr.alloc t true (.tuple #[])).run P w = .ok (.pointer (some ⟨w.heap.size, 0, none⟩)) (w.alloc (.cells z.cells t)) := by
    simp [Instr.alloc, zeroValue, typeInfo, hi, hz', go_sem]
  unfold Oper.wp execOp
  simp only [ho, Sem.run_bind, hr, Result.andThen_ok, Sem.run_pure]
  exact hK _ _ (h _ _ (hS.alloc z.cells t))

theorem wpList_alloc_st (hS : St w0 F L w) (hgd : o.guard = none) {t : TypeId} (ho : o.op = .alloc t) {cs : Array Value} {size bytes : Nat} (he : Elem P t (.agg cs) size bytes)
    (h : ∀ g w', St w0 F (Ch.blk g t cs :: L) w' → wpList P ops Q rest (a.put o.dst (.pointer (some ⟨g, 0, none⟩))) w') : wpList P ops Q (o :: rest) a w := wpList_allocv_st hS hgd ho he h
theorem wpList_alloc1_st (hS : St w0 F L w) (hgd : o.guard = none) {t : TypeId} (ho : o.op = .alloc t) {z v : Value} {size bytes : Nat} (he : Elem P t z size bytes) (hz : Value.scal z = some v)
    (h : ∀ g w', St w0 F (Ch.blk g t #[v] :: L) w' → wpList P ops Q rest (a.put o.dst (.pointer (some ⟨g, 0, none⟩))) w') : wpList P ops Q (o :: rest) a w :=
  wpList_allocv_st hS hgd ho he (by rw [(Value.scal_spec hz).2.1]; exact h)

theorem wpList_load_st (i : Nat) {g j T : Nat} {cs : Array Value} (hS : St w0 F L w) (hi : L[i]? = some (Ch.blk g T cs)) (hgd : o.guard = none) {t : TypeId} {x : Operand} (ho : o.op = .load t x) (hx : a.eval x = .pointer (some ⟨g, j, none⟩))
    (hu : scalarB P t = true) {v : Value} (hv : cs[j]? = some v) (h : wpList P ops Q rest (a.put o.dst v) w) : wpList P ops Q (o :: rest) a w := by
  refine wpList_plain hgd fun K hK => ?_
  have hr := run_load1 hu ((hS.cell i hi j).trans hv)
  unfold Oper.wp execOp
  simp only [ho, hx, Sem.run_bind, hr, Result.andThen_ok, Sem.run_pure]
  exact hK _ _ h

theorem rowB_spec {t : TypeId} {n : Nat} (h : rowB P t = true) (hn : sizeB P t n = true) : ∃ d, P.underlying t = some d ∧ d.isRow = true ∧ (P.info? t).map (·.size) = some n := by
  unfold rowB at h
  have hs : (P.info? t).map (·.size) = some n := by simpa [sizeB] using hn
  cases hq : P.underlying t with
  | none => rw [hq] at h; cases h
  | some d => rw [hq] at h; exact ⟨d, rfl, by cases d <;> simp_all, hs⟩

theorem run_loadrow {t : TypeId} {n : Nat} (hu : rowB P t = true) (hsz : sizeB P t n = true) {g j : Nat} {vs : List Value} (hl : vs.length = n) (hc : w.rangeAt g j vs) : (Instr.loadAt t (.pointer (some ⟨g, j, none⟩))).run P w = .ok (.agg vs.toArray) w := by
  obtain ⟨d, h1, h2, h3⟩ := rowB_spec hu hsz
  exact run_loadAt_mid w g j t vs d hc h1 h2 (by rw [h3, hl])

theorem Whole.range {g T : Nat} {cs : Array Value} (h : Whole w g T cs) (j : Nat) {vs : List Value} (hv : ∀ k v, vs[k]? = some v → cs[j + k]? = some v) : w.rangeAt g j vs := fun k v hk => by
  rw [h.cell]; exact hv k v hk

theorem range_extract (cs : Array Value) (j n : Nat) : ∀ k v, (cs.toList.drop j |>.take n)[k]? = some v → cs[j + k]? = some v := by
  intro k v h
  rw [List.getElem?_take] at h
  split at h
  · rw [List.getElem?_drop] at h; simpa using h
  · cases h

/-- A struct or an array out of a block. -/
theorem wpList_loadrow_st (i : Nat) {g j T n : Nat} {cs : Array Value} {vs : List Value} (hS : St w0 F L w) (hi : L[i]? = some (Ch.blk g T cs)) (hgd : o.guard = none) {t : TypeId} {x : Operand} (ho : o.op = .load t x) (hx : a.eval x = .pointer (some ⟨g, j, none⟩))
    (hu : rowB P t = true) (hsz : sizeB P t n = true) (hv : (cs.toList.drop j).take n = vs) (hl : vs.length = n) (h : wpList P ops Q rest (a.put o.dst (.agg vs.toArray)) w) : wpList P ops Q (o :: rest) a w := by
  refine wpList_plain hgd fun K hK => ?_
  subst hv
  have hr := run_loadrow hu hsz hl (Whole.range (hS.get i hi) j (range_extract cs j n))
  unfold Oper.wp execOp
  simp only [ho, hx, Sem.run_bind, hr, Result.andThen_ok, Sem.run_pure]
  exact hK _ _ h

theorem wpList_loadall_st (i : Nat) {g T : Nat} {cs : Array Value} (hS : St w0 F L w) (hi : L[i]? = some (Ch.blk g T cs)) (hgd : o.guard = none) {t : TypeId} {x : Operand} (ho : o.op = .load t x) (hx : a.eval x = .pointer (some ⟨g, 0, none⟩))
    (hu : rowB P t = true) (hsz : sizeB P t cs.size = true) (h : wpList P ops Q rest (a.put o.dst (.agg cs)) w) : wpList P ops Q (o :: rest) a w := by
  refine wpList_loadrow_st (vs := cs.toList) i hS hi hgd ho hx hu hsz (by simp; exact List.take_of_length_le (by simp)) (by simp) ?_
  simpa using h

theorem wpList_store_st (i : Nat) {g j T : Nat} {cs : Array Value} (hS : St w0 F L w) (hi : L[i]? = some (Ch.blk g T cs)) (hgd : o.guard = none) {t : TypeId} {x y : Operand} (ho : o.op = .store t x y) (hx : a.eval x = .pointer (some ⟨g, j, none⟩))
    (hu : sizeB P t 1 = true) {v : Value} (hy : Value.scal (a.eval y) = some v) (hj : Nat.ble (j + 1) cs.size = true) (h : ∀ w', St w0 F (L.set i (Ch.blk g T (cs.setIfInBounds j v))) w' → wpList P ops Q rest (a.put o.dst undef) w') : wpList P ops Q (o :: rest) a w := by
  refine wpList_plain hgd fun K hK => ?_
  replace hj : j < cs.size := Nat.le_of_ble_eq_true hj
  obtain ⟨hy, -, hv⟩ := Value.scal_spec hy
  have hr := run_store1 (P := P) hu hv ((hS.cell i hi j).trans (Array.getElem?_eq_getElem hj)) (hS.frozen i hi j)
  unfold Oper.wp execOp
  simp only [ho, hx, hy, Sem.run_bind, hr, Result.andThen_ok, Sem.run_pure]
  exact hK _ _ (h _ (hS.set i hi j v))

theorem Whole.setCells {T : TypeId} {g j : Nat} {cs : Array Value} (h : Whole w g T cs) (vs : List Value) (hfit : j + vs.length ≤ cs.size) (h1 : ∀ v ∈ vs, v.oneCell' = true) :
    (storeCells ⟨g, j, none⟩ vs 0).run P w = .ok () (w.setRow g (cs.toList.take j ++ vs ++ cs.toList.drop (j + vs.length)).toArray) ∧ Whole (w.setRow g (cs.toList.take j ++ vs ++ cs.toList.drop (j + vs.length)).toArray) g T (cs.toList.take j ++ vs ++ cs.toList.drop (j + vs.length)).toArray ∧ Fr [g] w (w.setRow g (cs.toList.take j ++ vs ++ cs.toList.drop (j + vs.length)).toArray) := by
  have hst := run_storeCells_at P g j T vs 0 cs w h (by omega) h1
  simp only [Nat.add_zero] at hst
  exact ⟨hst, setRow_heap w g cs _ T _ h, Fr.of_grown ⟨rfl, rfl, rfl, by simp, fun k _ hk => setRow_other w g k _ (fun e => hk (by simp [e]))⟩⟩

/-- A struct or an array into a block. -/
theorem wpList_storerow_st (i : Nat) {g j T n : Nat} {cs : Array Value} (hS : St w0 F L w) (hi : L[i]? = some (Ch.blk g T cs)) (hgd : o.guard = none) {t : TypeId} {x y : Operand} (ho : o.op = .store t x y) (hx : a.eval x = .pointer (some ⟨g, j, none⟩))
    (hsz : sizeB P t n = true) {vs : List Value} (hy : a.eval y = .agg vs.toArray) (hl : vs.length = n) (hv : vs.all Value.oneCell' = true) (hj : Nat.ble (j + n) cs.size = true)
    (h : ∀ w', St w0 F (L.set i (Ch.blk g T (cs.toList.take j ++ vs ++ cs.toList.drop (j + n)).toArray)) w' → wpList P ops Q rest (a.put o.dst undef) w') : wpList P ops Q (o :: rest) a w := by
  refine wpList_plain hgd fun K hK => ?_
  subst hl
  have h3 : (P.info? t).map (·.size) = some vs.length := by simpa [sizeB] using hsz
  obtain ⟨k1, k2, k3⟩ := Whole.setCells (P := P) (hS.get i hi) vs (Nat.le_of_ble_eq_true hj) (fun v hv' => List.all_eq_true.1 hv v hv')
  obtain ⟨ii, hii, hi1⟩ := Option.map_eq_some_iff.1 h3
  generalize w.setRow g (cs.toList.take j ++ vs ++ cs.toList.drop (j + vs.length)).toArray = W at k1 k2 k3
  have hr : (Instr.storeAt t (.pointer (some ⟨g, j, none⟩)) (.agg vs.toArray)).run P w = .ok () W := by
    simp [Instr.storeAt, Instr.sureAddr, storeVar, sizeOf, typeInfo, hii, hi1, Value.cells, k1]
  unfold Oper.wp execOp
  simp only [ho, hx, hy, Sem.run_bind, hr, Result.andThen_ok, Sem.run_pure]
  exact hK _ _ (h _ (hS.upd i hi k3 (by simp [Ch.blk]) k2 (by simp [Ch.blk])))

/-! In a region that draws its order: one operation that comes up. -/
variable {K : Act → World → Prop}
theorem op_box_st (hw : Region.wanted o (yielded ops a.tmps) = true) {t : TypeId} {x : Operand} (ho : o.op = .box t x) {cs : Array Value} (hx : a.eval x = .agg cs) (hS : St w0 F L w)
    (h : ∀ g w', St w0 F (Ch.blk g t cs :: L) w' → K (a.put o.dst (.pointer (some ⟨g, 0, none⟩))) w') : if Region.wanted o (yielded ops a.tmps) = true then Oper.wp P o a w K Q else K (a.put o.dst undef) w := by
  rw [if_pos hw]
  unfold Oper.wp execOp
  simp only [ho, hx, Instr.box, newVar, newRow, newObj, Sem.run_bind, Sem.run_pure]
  exact h _ _ (hS.alloc cs t)
theorem op_box1_st (hw : Region.wanted o (yielded ops a.tmps) = true) {t : TypeId} {x : Operand} (ho : o.op = .box t x) {v : Value} (hx : Value.scal (a.eval x) = some v) (hS : St w0 F L w)
    (h : ∀ g w', St w0 F (Ch.blk g t #[v] :: L) w' → K (a.put o.dst (.pointer (some ⟨g, 0, none⟩))) w') : if Region.wanted o (yielded ops a.tmps) = true then Oper.wp P o a w K Q else K (a.put o.dst undef) w := by
  rw [if_pos hw]
  have e := (Value.scal_spec hx).2.1
  unfold Oper.wp execOp
  simp only [ho, Instr.box, newVar, newRow, newObj, Sem.run_bind, Sem.run_pure, e]
  exact h _ _ (hS.alloc #[v] t)
theorem op_alloc_st (hw : Region.wanted o (yielded ops a.tmps) = true) {t : TypeId} (ho : o.op = .alloc t) {cs : Array Value} {size bytes : Nat} (he : Elem P t (.agg cs) size bytes) (hS : St w0 F L w)
    (h : ∀ g w', St w0 F (Ch.blk g t cs :: L) w' → K (a.put o.dst (.pointer (some ⟨g, 0, none⟩))) w') : if Region.wanted o (yielded ops a.tmps) = true then Oper.wp P o a w K Q else K (a.put o.dst undef) w := by
  rw [if_pos hw]
  obtain ⟨i, hi, hz', -⟩ := he
  have hr : (Instr.alloc t true (.tuple #[])).run P w = .ok (.pointer (some ⟨w.heap.size, 0, none⟩)) (w.alloc (.cells cs t)) := by
    simp [Instr.alloc, zeroValue, typeInfo, hi, hz', go_sem]
  unfold Oper.wp execOp
  simp only [ho, Sem.run_bind, hr, Result.andThen_ok, Sem.run_pure]
  exact h _ _ (hS.alloc cs t)
theorem op_load_st (hw : Region.wanted o (yielded ops a.tmps) = true) (i : Nat) {g j T : Nat} {cs : Array Value} (hS : St w0 F L w) (hi : L[i]? = some (Ch.blk g T cs)) {t : TypeId} {x : Operand} (ho : o.op = .load t x) (hx : a.eval x = .pointer (some ⟨g, j, none⟩))
    (hu : scalarB P t = true) {v : Value} (hv : cs[j]? = some v) (h : K (a.put o.dst v) w) : if Region.wanted o (yielded ops a.tmps) = true then Oper.wp P o a w K Q else K (a.put o.dst undef) w := by
  rw [if_pos hw]
  have hr := run_load1 hu ((hS.cell i hi j).trans hv)
  unfold Oper.wp execOp
  simp only [ho, hx, Sem.run_bind, hr, Result.andThen_ok, Sem.run_pure]
  exact h
theorem op_loadrow_st (hw : Region.wanted o (yielded ops a.tmps) = true) (i : Nat) {g j T n : Nat} {cs : Array Value} {vs : List Value} (hS : St w0 F L w) (hi : L[i]? = some (Ch.blk g T cs)) {t : TypeId} {x : Operand} (ho : o.op = .load t x) (hx : a.eval x = .pointer (some ⟨g, j, none⟩))
    (hu : rowB P t = true) (hsz : sizeB P t n = true) (hv : (cs.toList.drop j).take n = vs) (hl : vs.length = n) (h : K (a.put o.dst (.agg vs.toArray)) w) : if Region.wanted o (yielded ops a.tmps) = true then Oper.wp P o a w K Q else K (a.put o.dst undef) w := by
  rw [if_pos hw]
  subst hv
  have hr := run_loadrow hu hsz hl (Whole.range (hS.get i hi) j (range_extract cs j n))
  unfold Oper.wp execOp
  simp only [ho, hx, Sem.run_bind, hr, Result.andThen_ok, Sem.run_pure]
  exact h
theorem op_loadall_st (hw : Region.wanted o (yielded ops a.tmps) = true) (i : Nat) {g T : Nat} {cs : Array Value} (hS : St w0 F L w) (hi : L[i]? = some (Ch.blk g T cs)) {t : TypeId} {x : Operand} (ho : o.op = .load t x) (hx : a.eval x = .pointer (some ⟨g, 0, none⟩))
    (hu : rowB P t = true) (hsz : sizeB P t cs.size = true) (h : K (a.put o.dst (.agg cs)) w) : if Region.wanted o (yielded ops a.tmps) = true then Oper.wp P o a w K Q else K (a.put o.dst undef) w := by
  refine op_loadrow_st (vs := cs.toList) hw i hS hi ho hx hu hsz (by simp; exact List.take_of_length_le (by simp)) (by simp) ?_
  simpa using h

theorem op_store_st (hw : Region.wanted o (yielded ops a.tmps) = true) (i : Nat) {g j T : Nat} {cs : Array Value} (hS : St w0 F L w) (hi : L[i]? = some (Ch.blk g T cs)) {t : TypeId} {x y : Operand} (ho : o.op = .store t x y) (hx : a.eval x = .pointer (some ⟨g, j, none⟩))
    (hu : sizeB P t 1 = true) {v : Value} (hy : Value.scal (a.eval y) = some v) (hj : Nat.ble (j + 1) cs.size = true) (h : ∀ w', St w0 F (L.set i (Ch.blk g T (cs.setIfInBounds j v))) w' → K (a.put o.dst undef) w') : if Region.wanted o (yielded ops a.tmps) = true then Oper.wp P o a w K Q else K (a.put o.dst undef) w := by
  rw [if_pos hw]
  replace hj : j < cs.size := Nat.le_of_ble_eq_true hj
  obtain ⟨hy, -, hv⟩ := Value.scal_spec hy
  have hr := run_store1 (P := P) hu hv ((hS.cell i hi j).trans (Array.getElem?_eq_getElem hj)) (hS.frozen i hi j)
  unfold Oper.wp execOp
  simp only [ho, hx, hy, Sem.run_bind, hr, Result.andThen_ok, Sem.run_pure]
  exact h _ (hS.set i hi j v)
theorem op_storerow_st (hw : Region.wanted o (yielded ops a.tmps) = true) (i : Nat) {g j T n : Nat} {cs : Array Value} (hS : St w0 F L w) (hi : L[i]? = some (Ch.blk g T cs)) {t : TypeId} {x y : Operand} (ho : o.op = .store t x y) (hx : a.eval x = .pointer (some ⟨g, j, none⟩))
    (hsz : sizeB P t n = true) {vs : List Value} (hy : a.eval y = .agg vs.toArray) (hl : vs.length = n) (hv : vs.all Value.oneCell' = true) (hj : Nat.ble (j + n) cs.size = true)
    (h : ∀ w', St w0 F (L.set i (Ch.blk g T (cs.toList.take j ++ vs ++ cs.toList.drop (j + n)).toArray)) w' → K (a.put o.dst undef) w') : if Region.wanted o (yielded ops a.tmps) = true then Oper.wp P o a w K Q else K (a.put o.dst undef) w := by
  rw [if_pos hw]
  subst hl
  have h3 : (P.info? t).map (·.size) = some vs.length := by simpa [sizeB] using hsz
  obtain ⟨k1, k2, k3⟩ := Whole.setCells (P := P) (hS.get i hi) vs (Nat.le_of_ble_eq_true hj) (fun v hv' => List.all_eq_true.1 hv v hv')
  obtain ⟨ii, hii, hi1⟩ := Option.map_eq_some_iff.1 h3
  generalize w.setRow g (cs.toList.take j ++ vs ++ cs.toList.drop (j + vs.length)).toArray = W at k1 k2 k3
  have hr : (Instr.storeAt t (.pointer (some ⟨g, j, none⟩)) (.agg vs.toArray)).run P w = .ok () W := by
    simp [Instr.storeAt, Instr.sureAddr, storeVar, sizeOf, typeInfo, hii, hi1, Value.cells, k1]
  unfold Oper.wp execOp
  simp only [ho, hx, hy, Sem.run_bind, hr, Result.andThen_ok, Sem.run_pure]
  exact h _ (hS.upd i hi k3 (by simp [Ch.blk]) k2 (by simp [Ch.blk]))
end

section
variable {P : Program} {Q : Exit → Act → World → Prop} {S : World → Prop} {ops : Array Oper} {fuel : Nat} {listed : Array Bool} {a : Act} {w : World}
/-- A truth that is not known yet parts the way. -/
theorem mixs_case (d : Nat) {b : Bool} (hb : a.tmps[d]? = some (.bool b)) (h1 : b = true → wpAnyH P .any ops Q S fuel listed (a.put (some d) (.bool true)) w) (h0 : b = false → wpAnyH P .any ops Q S fuel listed (a.put (some d) (.bool false)) w) :
    wpAnyH P .any ops Q S fuel listed a w := by
  have e : a.put (some d) (.bool b) = a := by
    obtain ⟨hd, hv⟩ := Array.getElem?_eq_some_iff.1 hb
    have k : a.tmps.setIfInBounds d (.bool b) = a.tmps := by
      apply Array.ext (by simp)
      intro i h1 h2
      rw [Array.getElem_setIfInBounds]
      split
      · rename_i h
        subst h
        exact hv.symm
      · rfl
    simp only [Act.put, k]
  rw [← e]
  cases b with
  | true => exact h1 rfl
  | false => exact h0 rfl
end
end Go.Ofp
end

section
/- More laws of the walk: slices of structs of the call's own. -/
set_option linter.unusedSimpArgs false
set_option linter.unusedVariables false
namespace Go.Ofp
open Go.RowKit

section
variable {P : Program} {w w0 : World} {F : List Nat} {L : List Ch} {ops : Array Oper} {rest : List Oper} {o : Oper} {a : Act} {Q : Exit → Act → World → Prop} {K : Act → World → Prop}

theorem ownsRow_set {e size n c g j : Nat} {xs vs : List Value} (h : w.ownsRow 0 e size (.slice (some ⟨g, 0, none⟩) n c) n xs) (hj : j < n) (hl : vs.length = size) (h1 : ∀ v ∈ vs, v.oneCell' = true) :
    ∃ w', (storeCells ⟨g, j * size, none⟩ vs 0).run P w = .ok () w' ∧ w'.ownsRow 0 e size (.slice (some ⟨g, 0, none⟩) n c) n (xs.take (j * size) ++ vs ++ xs.drop (j * size + size)) ∧ Fr [g] w w' := by
  rcases h.2 with ⟨h, _⟩ | ⟨g', cap, cur, hv, _, hgc, hnc, hcm, hcs, htake⟩
  · cases h
  cases hv
  have hmul : j * size + size ≤ n * size := by rw [← Nat.succ_mul]; exact Nat.mul_le_mul_right _ hj
  have hmul2 : n * size ≤ c * size := Nat.mul_le_mul_right _ hnc
  have hst := run_storeCells_at P g (j * size) e vs 0 cur w hgc (by omega) h1
  simp only [Nat.add_zero, hl] at hst
  refine ⟨_, hst, ⟨?_, .inr ⟨g, c, _, rfl, Nat.zero_le _, setRow_heap w g cur _ e _ hgc, hnc, hcm, ?_, ?_⟩⟩, Fr.of_grown ⟨rfl, rfl, rfl, by simp, fun k _ hk => setRow_other w g k _ (fun e => hk (by simp [e]))⟩⟩
  · have := h.1
    simp only [List.length_append, List.length_take, List.length_drop]
    omega
  · simp only [List.size_toArray, List.length_append, List.length_take, List.length_drop, Array.length_toList]
    omega
  · have hlc : cur.toList.length = c * size := by simpa using hcs
    rw [← htake]
    simp only [List.take_take, Nat.min_eq_left (show j * size ≤ n * size by omega)]
    rw [List.take_append, List.take_of_length_le (by simp only [List.length_append, List.length_take]; omega), List.drop_take]
    congr 1
    simp only [List.length_append, List.length_take, hl]
    congr 1
    omega

/-- An element of a slice of the call's own is written. -/
theorem wpList_storeelem_st (i j : Nat) {e size n c g k : Nat} {xs : List Value} (hS : St w0 F L w) (hi : L[i]? = some (Ch.row e size (.slice (some ⟨g, 0, none⟩) n c) n xs)) (hgd : o.guard = none) {t : TypeId} {x y : Operand} (ho : o.op = .store t x y) (hx : a.eval x = .pointer (some ⟨g, k, none⟩)) (hk : k = j * size)
    (hsz : sizeB P t size = true) {vs : List Value} (hy : a.eval y = .agg vs.toArray) (hl : vs.length = size) (hv : vs.all Value.oneCell' = true) (hj : j < n)
    (h : ∀ w', St w0 F (L.set i (Ch.row e size (.slice (some ⟨g, 0, none⟩) n c) n (xs.take (j * size) ++ vs ++ xs.drop (j * size + size)))) w' → wpList P ops Q rest (a.put o.dst undef) w') : wpList P ops Q (o :: rest) a w := by
  refine wpList_plain hgd fun K hK => ?_
  subst hk
  have h3 : (P.info? t).map (·.size) = some size := by simpa [sizeB] using hsz
  obtain ⟨ii, hii, hi1⟩ := Option.map_eq_some_iff.1 h3
  obtain ⟨w', k1, k2, k3⟩ := ownsRow_set (P := P) (hS.get i hi) hj hl (fun v hv' => List.all_eq_true.1 hv v hv')
  have hr : (Instr.storeAt t (.pointer (some ⟨g, j * size, none⟩)) (.agg vs.toArray)).run P w = .ok () w' := by
    simp [Instr.storeAt, Instr.sureAddr, storeVar, sizeOf, typeInfo, hii, hi1, Value.cells, hl, k1]
  unfold Oper.wp execOp
  simp only [ho, hx, hy, Sem.run_bind, hr, Result.andThen_ok, Sem.run_pure]
  refine hK _ _ (h _ (hS.upd i hi k3 (by simp [Ch.row, Value.ownBlock]) k2 (by simp [Ch.row, Value.ownBlock])))

/-- An element of a slice of the call's own is read. -/
theorem wpList_loadelem_st (i j : Nat) {e size n c g k m : Nat} {xs : List Value} (hS : St w0 F L w) (hi : L[i]? = some (Ch.row e size (.slice (some ⟨g, 0, none⟩) n c) m xs)) (hgd : o.guard = none) {t : TypeId} {x : Operand} (ho : o.op = .load t x) (hx : a.eval x = .pointer (some ⟨g, k, none⟩)) (hk : k = j * size)
    (hu : rowB P t = true) (hsz : sizeB P t size = true) {vs : List Value} (hv : (xs.drop (j * size)).take size = vs) (hl : vs.length = size) (h : wpList P ops Q rest (a.put o.dst (.agg vs.toArray)) w) : wpList P ops Q (o :: rest) a w := by
  refine wpList_plain hgd fun K hK => ?_
  subst hk
  subst hv
  have hsl := hS.rowsl i hi
  have hr := run_loadrow (w := w) hu hsz (g := g) (j := j * size) hl (fun q v hq => by
    rw [List.getElem?_take] at hq
    split at hq
    · rw [List.getElem?_drop] at hq
      have := hsl.add (j * size + q) v hq
      rw [Addr.add_lit, Nat.zero_add] at this
      exact this
    · cases hq)
  unfold Oper.wp execOp
  simp only [ho, hx, Sem.run_bind, hr, Result.andThen_ok, Sem.run_pure]
  exact hK _ _ h

/-- append in a region that draws its order. -/
theorem op_app_st (hw : Region.wanted o (yielded ops a.tmps) = true) (i : Nat) {e size n : Nat} {v : Value} {xs : List Value} (hS : St w0 F L w) (hi : L[i]? = some (Ch.row e size v n xs)) {s x : Operand} {t tx : TypeId} (ho : o.op = .call { callee := .builtin .append, args := #[s, x], argTypes := #[t, tx] })
    (ht : P.underlying t = some (.slice e)) {z : Value} {bytes : Nat} (he : Elem P e z size bytes) (hs : a.eval s = v)
    {xv : Value} {m : Nat} {news : List Value} (hx : Src P w tx xv size m news) (hxv : a.eval x = xv) (h1 : ∀ u ∈ news, u.oneCell' = true)
    (hb : (n + m) * bytes ≤ 140737488355328) (h63 : n + m ≤ maxLen)
    (h : ∀ v' w', St w0 F (L.set i (Ch.row e size v' (n + m) (xs ++ news))) w' → K (a.put o.dst v') w') : if Region.wanted o (yielded ops a.tmps) = true then Oper.wp P o a w K Q else K (a.put o.dst undef) w := by
  rw [if_pos hw]
  obtain ⟨v', w', hr, h2, h3, h4⟩ := run_app w t tx o.type e ht he (hS.get i hi) hx h1 hb h63 (Nat.zero_le _)
  unfold Oper.wp execOp
  simp only [ho, resolve, invoke, builtin, Sem.run_bind, Sem.run_pure, Result.andThen_ok, List.map_toArray, List.map_cons, List.map_nil, hs, hxv, hr]
  refine h v' w' (hS.upd i hi (Fr.of_row h3) (by intro g hg; exact hg) h2 ?_)
  intro g hg
  rcases h4 with h4 | h4
  · left; simpa [Ch.row, h4] using hg
  · right
    simp [Ch.row, h4] at hg
    omega

/-- An empty slice of the call's own. -/
theorem St.nilrow (hS : St w0 F L w) (e size : Nat) : St w0 F (Ch.row e size (.slice none 0 0) 0 [] :: L) w :=
  hS.push (Fr.refl _ _) (World.ownsRow_nil w 0 e size) (by simp [Ch.row, Value.ownBlock])

/-- What an own slice of at least one element is. -/
theorem St.rowat {e size n : Nat} {v : Value} {xs : List Value} (hS : St w0 F L w) (i : Nat) (hi : L[i]? = some (Ch.row e size v n xs)) (hn : 0 < n) : ∃ g c, v = .slice (some ⟨g, 0, none⟩) n c ∧ n ≤ c ∧ c ≤ maxLen := by
  rcases (hS.get i hi).2 with ⟨_, h⟩ | ⟨g, c, cur, rfl, _, _, h1, h2, _⟩
  · omega
  · exact ⟨g, c, rfl, h1, h2⟩
end

/-- A cut of a slice of structs, whose address bears Go's own 'if'. -/
theorem Sl.cutn {w : World} {b off off' k cap : Nat} {xs : List Value} (h : Sl w (some ⟨b, off', none⟩) xs) (hc : cap = k → xs = []) :
    Sl w (if cap = k then some ⟨b, off, none⟩ else some ⟨b, off', none⟩) xs := by
  split
  · rename_i e
    rw [hc e]
    exact Sl.nil _ _
  · exact h
end Go.Ofp
end

section
/- The frame of a call that writes to some pieces of own memory. -/
set_option linter.unusedSimpArgs false
set_option linter.unusedVariables false
namespace Go.Ofp
open Go.RowKit

/-- The blocks of some pieces. -/
def feet (A : List Ch) : List Nat := A.flatMap Ch.foot

theorem mem_feet {A : List Ch} {g : Nat} : g ∈ feet A ↔ ∃ (i : Nat) (c : Ch), A[i]? = some c ∧ g ∈ c.foot := by
  simp only [feet, List.mem_flatMap]
  constructor
  · rintro ⟨c, hc, hg⟩
    obtain ⟨i, hi, rfl⟩ := List.getElem_of_mem hc
    exact ⟨i, _, List.getElem?_eq_getElem hi, hg⟩
  · rintro ⟨i, c, hc, hg⟩
    exact ⟨c, List.mem_of_getElem? hc, hg⟩

namespace St
variable {w0 w w' : World} {F : List Nat} {L A A' R : List Ch}

/-- What a callee that is handed the pieces A begins with. -/
theorem pre (h : St w0 F L w) (A R : List Ch) (hL : L = A ++ R) : St w (feet A) A w := by
  subst hL
  refine ⟨Fr.refl _ _, fun i c hc => ⟨(h.own i c ?_).1, fun g hg => .inl (mem_feet.2 ⟨i, c, hc, hg⟩)⟩, fun i j c d hc hd hij => h.apart i j c d ?_ ?_ hij⟩
  all_goals
    rw [List.getElem?_append_left]
    · assumption
    · exact (List.getElem?_eq_some_iff.1 (by assumption)).1

/-- What is known behind it. -/
theorem call (h : St w0 F L w) (A R : List Ch) (hL : L = A ++ R) (k : St w (feet A) A' w') : St w0 F (A' ++ R) w' := by
  subst hL
  have hA : ∀ (i : Nat) (c : Ch), A[i]? = some c → (A ++ R)[i]? = some c := fun i c hc => by
    rw [List.getElem?_append_left (List.getElem?_eq_some_iff.1 hc).1]; exact hc
  have hR : ∀ (i : Nat) (c : Ch), R[i]? = some c → (A ++ R)[A.length + i]? = some c := fun i c hc => by
    rw [List.getElem?_append_right (by omega), Nat.add_sub_cancel_left]; exact hc
  have hF : ∀ g ∈ feet A, g ∈ F ∨ w0.heap.size ≤ g := fun g hg => by
    obtain ⟨i, c, hc, hg⟩ := mem_feet.1 hg
    exact (h.own i c (hA i c hc)).2 g hg
  -- a block of R is none of A's, and was there
  have hsep : ∀ (i : Nat) (c : Ch), R[i]? = some c → ∀ g ∈ c.foot, g ∉ feet A ∧ g < w.heap.size := fun i c hc g hg => by
    refine ⟨fun hgA => ?_, c.lt (h.own _ c (hR i c hc)).1 g hg⟩
    obtain ⟨j, d, hd, hgd⟩ := mem_feet.1 hgA
    have hj := (List.getElem?_eq_some_iff.1 hd).1
    exact h.apart j (A.length + i) d c (hA j d hd) (hR i c hc) (by omega) g hgd hg
  have hsplit : ∀ (i : Nat) (c : Ch), (A' ++ R)[i]? = some c → (i < A'.length ∧ A'[i]? = some c) ∨ (A'.length ≤ i ∧ R[i - A'.length]? = some c) := fun i c hc => by
    by_cases hi : i < A'.length
    · rw [List.getElem?_append_left hi] at hc; exact .inl ⟨hi, hc⟩
    · rw [List.getElem?_append_right (by omega)] at hc; exact .inr ⟨by omega, hc⟩
  refine ⟨h.fr.trans k.fr hF, fun i c hc => ?_, fun i j c d hc hd hij => ?_⟩
  · rcases hsplit i c hc with ⟨_, hc⟩ | ⟨_, hc⟩
    · obtain ⟨h1, h2⟩ := k.own i c hc
      refine ⟨h1, fun g hg => ?_⟩
      rcases h2 g hg with h3 | h3
      · exact hF g h3
      · exact .inr (Nat.le_trans h.fr.size h3)
    · obtain ⟨h1, h2⟩ := h.own _ c (hR _ c hc)
      exact ⟨c.keep h1 fun g hg => k.fr.block g (hsep _ c hc g hg).2 (hsep _ c hc g hg).1, h2⟩
  · rcases hsplit i c hc with ⟨hi, hc⟩ | ⟨hi, hc⟩ <;> rcases hsplit j d hd with ⟨hj, hd⟩ | ⟨hj, hd⟩
    · exact k.apart i j c d hc hd hij
    · intro g hg hg'
      obtain ⟨h1, h2⟩ := hsep _ d hd g hg'
      rcases (k.own i c hc).2 g hg with h3 | h3
      · exact h1 h3
      · omega
    · intro g hg hg'
      obtain ⟨h1, h2⟩ := hsep _ c hc g hg
      rcases (k.own j d hd).2 g hg' with h3 | h3
      · exact h1 h3
      · omega
    · exact h.apart (A.length + (i - A'.length)) (A.length + (j - A'.length)) c d (hR _ c hc) (hR _ d hd) (by omega)

/-- Pieces picked out, in another order. -/
theorem pick (h : St w0 F L w) (f : Nat → Nat) (hf : ∀ (i : Nat) (c : Ch), R[i]? = some c → L[f i]? = some c) (inj : ∀ i j, i < R.length → j < R.length → i ≠ j → f i ≠ f j) : St w0 F R w :=
  ⟨h.fr, fun i c hc => h.own (f i) c (hf i c hc), fun i j c d hc hd hij => h.apart (f i) (f j) c d (hf i c hc) (hf j d hd) (inj i j (List.getElem?_eq_some_iff.1 hc).1 (List.getElem?_eq_some_iff.1 hd).1 hij)⟩

/-- The first of three goes to the end. -/
theorem rot3 {a b c : Ch} (h : St w0 F (a :: b :: c :: L) w) : St w0 F (b :: c :: a :: L) w := by
  refine h.pick (fun i => if i = 0 then 1 else if i = 1 then 2 else if i = 2 then 0 else i) ?_ ?_
  · intro i d hd
    match i with
    | 0 => exact hd
    | 1 => exact hd
    | 2 => exact hd
    | i + 3 => simpa using hd
  · intro i j _ _ hij
    split <;> split <;> (repeat' split) <;> omega
end St
end Go.Ofp
end

section
/- Laws on elements that are handed on folded: a slice of one element built, a text copied into a block. -/
set_option linter.unusedSimpArgs false
set_option linter.unusedVariables false
namespace Go.Ofp
open Go.RowKit

theorem foldl_set (l : List Value) (k : Nat) (A : List Value) (B : List Value) (hB : B.length = l.length) (hk : A.length = k) :
    (l.zipIdx k).foldl (fun (cs : Array Value) (x : Value × Nat) => cs.setIfInBounds (0 + x.2) x.1) (A ++ B).toArray = (A ++ l).toArray := by
  induction l generalizing k A B with
  | nil => simp at hB; subst hB; simp
  | cons v l ih =>
    cases B with
    | nil => simp at hB
    | cons u B =>
      rw [List.zipIdx_cons, List.foldl_cons]
      have e : (A ++ u :: B).toArray.setIfInBounds (0 + k) v = ((A ++ [v]) ++ B).toArray := by
        simp only [Nat.zero_add, List.setIfInBounds_toArray]
        rw [← hk, List.set_append_right _ _ (Nat.le_refl _), Nat.sub_self, List.set_cons_zero]
        simp
      rw [e, ih (k + 1) (A ++ [v]) B (by simpa using hB) (by simp [hk])]
      simp

section
variable {P : Program} {w : World}
/-- A slice of one element. -/
theorem run_build1 (w : World) (t e : TypeId) (ht : P.underlying t = some (.slice e)) {z : Value} {size bytes : Nat} (he : Elem P e z size bytes) {v : Value} (hv : v.cells.size = size) (hs : size ≤ 16777216) :
    (Instr.buildSlice t 1 #[(0, v)]).run P w = .ok (.slice (some ⟨w.heap.size, 0, none⟩) 1 1) (w.alloc (.cells v.cells e)) := by
  obtain ⟨i, hi, hz, hsz, hby, hzs, hpos⟩ := he
  have h0 : ¬ (16777216 < i.size) := by omega
  have h1 : ¬ (i.size = 0) := by omega
  have hf : Instr.fill (fun j => some (j * i.size, i.size)) ((Array.range (1 * i.size)).map (z.cells[· % z.cells.size]!)) [(0, v)] = some v.cells := by
    have hsz2 : v.cells.size = i.size := by omega
    simp only [Instr.fill, Nat.zero_mul, Nat.zero_add, Array.size_map, Array.size_range, Nat.one_mul, hsz2]
    rw [if_neg (by simp)]
    have := foldl_set v.cells.toList 0 [] ((Array.range i.size).map (z.cells[· % z.cells.size]!)).toList (by simp [hsz2]) rfl
    simp only [List.nil_append, Array.toArray_toList] at this
    refine congrArg some ?_
    rw [← Array.foldl_toList]
    simpa using this
  rw [Nat.one_mul] at hf
  simp [Instr.buildSlice, run_underlying ht, sizeOf, typeInfo, zeroValue, hi, hz, h0, h1]
  rw [hf]
  rfl

variable {w0 : World} {F : List Nat} {L : List Ch} {ops : Array Oper} {rest : List Oper} {o : Oper} {a : Act} {Q : Exit → Act → World → Prop} {K : Act → World → Prop}

/-- A slice of one element, built. -/
theorem op_build1_st (hw : Region.wanted o (yielded ops a.tmps) = true) (hS : St w0 F L w) {t : TypeId} {x : Operand} (ho : o.op = .buildSlice t 1 #[(0, x)]) {e : TypeId} (ht : P.underlying t = some (.slice e)) {z : Value} {size bytes : Nat} (he : Elem P e z size bytes)
    {cs : Array Value} (hx : a.eval x = .agg cs) (hv : cs.size = size) (hs : size ≤ 16777216)
    (h : ∀ g w', St w0 F (Ch.blk g e cs :: L) w' → K (a.put o.dst (.slice (some ⟨g, 0, none⟩) 1 1)) w') : if Region.wanted o (yielded ops a.tmps) = true then Oper.wp P o a w K Q else K (a.put o.dst undef) w := by
  rw [if_pos hw]
  have hr := run_build1 w t e ht he (v := .agg cs) hv hs
  unfold Oper.wp execOp
  simp only [ho, List.map_toArray, List.map_cons, List.map_nil, hx, Sem.run_bind, hr, Result.andThen_ok, Sem.run_pure]
  exact h _ _ (hS.alloc cs e)

theorem St.blksl {g t : Nat} {cs : Array Value} (h : St w0 F L w) (i : Nat) (hi : L[i]? = some (Ch.blk g t cs)) : Sl w (some ⟨g, 0, none⟩) cs.toList := by
  intro j hj
  refine ⟨g, 0, rfl, ?_⟩
  rw [h.cell i hi, Nat.zero_add]
  simp

/-- One field of a struct, built. -/
theorem wpList_build1 (hgd : o.guard = none) {t k : Nat} {x : Operand} (ho : o.op = .build t #[(k, x)]) (v : Value) (hx : a.eval x = v) {u : Value} (hr : ∀ w : World, (Instr.build t #[(k, v)]).run P w = .ok u w)
    (h : wpList P ops Q rest (a.put o.dst u) w) : wpList P ops Q (o :: rest) a w := by
  refine wpList_plain hgd fun K hK => ?_
  unfold Oper.wp execOp
  simp only [ho, List.map_toArray, List.map_cons, List.map_nil, hx, Sem.run_bind, hr, Result.andThen_ok, Sem.run_pure]
  exact hK _ _ h

/-- A region in which own memory is read and written: no piece belongs to the class. -/
theorem mixs_beginE {id : Nat} {l : List Oper} (hm : P.follows .mixedOrders = true) (hS : St w0 F L w)
    (h : ∀ w', St w0 F L w' → St w0 F [] w' → wpAnyH P .any l.toArray Q (fun w' => St w0 F [] w') l.length (Array.replicate l.length false) a w') : (Code.region id l.toArray true).wp P Q a w := by
  refine wp_region_held (S := fun w' => St w0 F [] w') hm ?_
  simpa using h w.drew hS.drew hS.drew.empty

end
end Go.Ofp
end
