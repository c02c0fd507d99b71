/- The walk's laws on a call's own blocks: made, read, written. -/
import Derived.Test.YtplgpbbghhlbjaaDoorSt
set_option linter.unusedSimpArgs false
set_option linter.unusedVariables false
namespace Go.Ofp
open Go.RowKit

/-- A variable of one cell. -/
def scalarB (P : Program) (t : TypeId) : Bool := match P.underlying t with
  | none | some (.struct _) | some (.array ..) => false
  | _ => true
/-- A struct or an array. -/
def rowB (P : Program) (t : TypeId) : Bool := match P.underlying t with
  | some (.struct _) | some (.array ..) => true
  | _ => false
def sizeB (P : Program) (t : TypeId) (n : Nat) : Bool := (P.info? t).map (·.size) == some n

section
variable {P : Program} {w : World}

theorem run_load1 {t : TypeId} (hu : scalarB P t = true) {p : Addr} {v : Value} (hc : w.cell? p = some v) : (Instr.loadAt t (.pointer (some p))).run P w = .ok v w := by
  unfold scalarB at hu
  cases hq : P.underlying t with
  | none => rw [hq] at hu; cases hu
  | some d =>
    rw [hq] at hu
    have hagg : (isAgg t).run P w = .ok false w := by
      unfold isAgg
      rw [Sem.run_bind, run_underlying hq w]
      cases d <;> simp_all
    simp [Instr.loadAt, Instr.sureAddr, loadVar, hagg, hc, go_sem]

theorem run_store1 {t : TypeId} (hu : sizeB P t 1 = true) {p : Addr} {v u : Value} (hv : v.oneCell' = true) (hc : w.cell? p = some u) (hf : w.frozen? p = false) : (Instr.storeAt t (.pointer (some p)) v).run P w = .ok () (w.setCell p v) := by
  have hs : (P.info? t).map (·.size) = some 1 := by simpa [sizeB] using hu
  have hcs : v.cells = #[v] := by cases v <;> simp_all [Value.cells, Value.oneCell']
  have hp : p.spot = none := World.cell?_spot hc
  have ha : p.add 0 = p := by obtain ⟨b, o, s⟩ := p; subst hp; rw [Addr.add_lit]; simp
  obtain ⟨i, hi, hi1⟩ := Option.map_eq_some_iff.1 hs
  have hst : (store p v).run P w = .ok () (w.setCell p v) := by
    cases v <;> simp_all [Value.oneCell', store, Sem.run]
  simp [Instr.storeAt, Instr.sureAddr, storeVar, sizeOf, typeInfo, hi, hi1, hcs, storeCells, ha, hst]

variable {w0 : World} {F : List Nat} {L : List Ch} {ops : Array Oper} {rest : List Oper} {o : Oper} {a : Act} {Q : Exit → Act → World → Prop}

/-- A value of one cell, looked at. -/
@[reducible] def Value.scal : Value → Option Value
  | .int k z => some (.int k z)
  | .bool b => some (.bool b)
  | .string s => some (.string s)
  | .slice a n c => some (.slice a n c)
  | .pointer p => some (.pointer p)
  | _ => none
theorem Value.scal_spec {v u : Value} (h : Value.scal v = some u) : v = u ∧ v.cells = #[u] ∧ u.oneCell' = true := by
  cases v <;> simp [Value.scal] at h <;> subst h <;> exact ⟨rfl, rfl, rfl⟩

theorem wpList_boxv_st (hS : St w0 F L w) (hgd : o.guard = none) {t : TypeId} {x : Operand} (ho : o.op = .box t x) {v : Value} (hx : a.eval x = v)
    (h : ∀ g w', St w0 F (Ch.blk g t v.cells :: L) w' → wpList P ops Q rest (a.put o.dst (.pointer (some ⟨g, 0, none⟩))) w') : wpList P ops Q (o :: rest) a w := by
  refine wpList_plain hgd fun K hK => ?_
  unfold Oper.wp execOp
  simp only [ho, hx, Instr.box, newVar, newRow, newObj, Sem.run_bind, Sem.run_pure]
  exact hK _ _ (h _ _ (hS.alloc v.cells t))

theorem wpList_box_st (hS : St w0 F L w) (hgd : o.guard = none) {t : TypeId} {x : Operand} (ho : o.op = .box t x) {cs : Array Value} (hx : a.eval x = .agg cs)
    (h : ∀ g w', St w0 F (Ch.blk g t cs :: L) w' → wpList P ops Q rest (a.put o.dst (.pointer (some ⟨g, 0, none⟩))) w') : wpList P ops Q (o :: rest) a w :=
  wpList_boxv_st hS hgd ho hx h

theorem wpList_box1_st (hS : St w0 F L w) (hgd : o.guard = none) {t : TypeId} {x : Operand} (ho : o.op = .box t x) {v : Value} (hx : Value.scal (a.eval x) = some v)
    (h : ∀ g w', St w0 F (Ch.blk g t #[v] :: L) w' → wpList P ops Q rest (a.put o.dst (.pointer (some ⟨g, 0, none⟩))) w') : wpList P ops Q (o :: rest) a w :=
  wpList_boxv_st hS hgd ho rfl (by rw [(Value.scal_spec hx).2.1]; exact h)

theorem wpList_allocv_st (hS : St w0 F L w) (hgd : o.guard = none) {t : TypeId} (ho : o.op = .alloc t) {z : Value} {size bytes : Nat} (he : Elem P t z size bytes)
    (h : ∀ g w', St w0 F (Ch.blk g t z.cells :: L) w' → wpList P ops Q rest (a.put o.dst (.pointer (some ⟨g, 0, none⟩))) w') : wpList P ops Q (o :: rest) a w := by
  refine wpList_plain hgd fun K hK => ?_
  obtain ⟨i, hi, hz', -⟩ := he
  have hr : (Instr.alloc t true (.tuple #[])).run P w = .ok (.pointer (some ⟨w.heap.size, 0, none⟩)) (w.alloc (.cells z.cells t)) := by
    simp [Instr.alloc, zeroValue, typeInfo, hi, hz', go_sem]
  unfold Oper.wp execOp
  simp only [ho, Sem.run_bind, hr, Result.andThen_ok, Sem.run_pure]
  exact hK _ _ (h _ _ (hS.alloc z.cells t))

theorem wpList_alloc_st (hS : St w0 F L w) (hgd : o.guard = none) {t : TypeId} (ho : o.op = .alloc t) {cs : Array Value} {size bytes : Nat} (he : Elem P t (.agg cs) size bytes)
    (h : ∀ g w', St w0 F (Ch.blk g t cs :: L) w' → wpList P ops Q rest (a.put o.dst (.pointer (some ⟨g, 0, none⟩))) w') : wpList P ops Q (o :: rest) a w := wpList_allocv_st hS hgd ho he h
theorem wpList_alloc1_st (hS : St w0 F L w) (hgd : o.guard = none) {t : TypeId} (ho : o.op = .alloc t) {z v : Value} {size bytes : Nat} (he : Elem P t z size bytes) (hz : Value.scal z = some v)
    (h : ∀ g w', St w0 F (Ch.blk g t #[v] :: L) w' → wpList P ops Q rest (a.put o.dst (.pointer (some ⟨g, 0, none⟩))) w') : wpList P ops Q (o :: rest) a w :=
  wpList_allocv_st hS hgd ho he (by rw [(Value.scal_spec hz).2.1]; exact h)

theorem wpList_load_st (i : Nat) {g j T : Nat} {cs : Array Value} (hS : St w0 F L w) (hi : L[i]? = some (Ch.blk g T cs)) (hgd : o.guard = none) {t : TypeId} {x : Operand} (ho : o.op = .load t x) (hx : a.eval x = .pointer (some ⟨g, j, none⟩))
    (hu : scalarB P t = true) {v : Value} (hv : cs[j]? = some v) (h : wpList P ops Q rest (a.put o.dst v) w) : wpList P ops Q (o :: rest) a w := by
  refine wpList_plain hgd fun K hK => ?_
  have hr := run_load1 hu ((hS.cell i hi j).trans hv)
  unfold Oper.wp execOp
  simp only [ho, hx, Sem.run_bind, hr, Result.andThen_ok, Sem.run_pure]
  exact hK _ _ h

theorem rowB_spec {t : TypeId} {n : Nat} (h : rowB P t = true) (hn : sizeB P t n = true) : ∃ d, P.underlying t = some d ∧ d.isRow = true ∧ (P.info? t).map (·.size) = some n := by
  unfold rowB at h
  have hs : (P.info? t).map (·.size) = some n := by simpa [sizeB] using hn
  cases hq : P.underlying t with
  | none => rw [hq] at h; cases h
  | some d => rw [hq] at h; exact ⟨d, rfl, by cases d <;> simp_all, hs⟩

theorem run_loadrow {t : TypeId} {n : Nat} (hu : rowB P t = true) (hsz : sizeB P t n = true) {g j : Nat} {vs : List Value} (hl : vs.length = n) (hc : w.rangeAt g j vs) : (Instr.loadAt t (.pointer (some ⟨g, j, none⟩))).run P w = .ok (.agg vs.toArray) w := by
  obtain ⟨d, h1, h2, h3⟩ := rowB_spec hu hsz
  exact run_loadAt_mid w g j t vs d hc h1 h2 (by rw [h3, hl])

theorem Whole.range {g T : Nat} {cs : Array Value} (h : Whole w g T cs) (j : Nat) {vs : List Value} (hv : ∀ k v, vs[k]? = some v → cs[j + k]? = some v) : w.rangeAt g j vs := fun k v hk => by
  rw [h.cell]; exact hv k v hk

theorem range_extract (cs : Array Value) (j n : Nat) : ∀ k v, (cs.toList.drop j |>.take n)[k]? = some v → cs[j + k]? = some v := by
  intro k v h
  rw [List.getElem?_take] at h
  split at h
  · rw [List.getElem?_drop] at h; simpa using h
  · cases h

/-- A struct or an array out of a block. -/
theorem wpList_loadrow_st (i : Nat) {g j T n : Nat} {cs : Array Value} {vs : List Value} (hS : St w0 F L w) (hi : L[i]? = some (Ch.blk g T cs)) (hgd : o.guard = none) {t : TypeId} {x : Operand} (ho : o.op = .load t x) (hx : a.eval x = .pointer (some ⟨g, j, none⟩))
    (hu : rowB P t = true) (hsz : sizeB P t n = true) (hv : (cs.toList.drop j).take n = vs) (hl : vs.length = n) (h : wpList P ops Q rest (a.put o.dst (.agg vs.toArray)) w) : wpList P ops Q (o :: rest) a w := by
  refine wpList_plain hgd fun K hK => ?_
  subst hv
  have hr := run_loadrow hu hsz hl (Whole.range (hS.get i hi) j (range_extract cs j n))
  unfold Oper.wp execOp
  simp only [ho, hx, Sem.run_bind, hr, Result.andThen_ok, Sem.run_pure]
  exact hK _ _ h

theorem wpList_loadall_st (i : Nat) {g T : Nat} {cs : Array Value} (hS : St w0 F L w) (hi : L[i]? = some (Ch.blk g T cs)) (hgd : o.guard = none) {t : TypeId} {x : Operand} (ho : o.op = .load t x) (hx : a.eval x = .pointer (some ⟨g, 0, none⟩))
    (hu : rowB P t = true) (hsz : sizeB P t cs.size = true) (h : wpList P ops Q rest (a.put o.dst (.agg cs)) w) : wpList P ops Q (o :: rest) a w := by
  refine wpList_loadrow_st (vs := cs.toList) i hS hi hgd ho hx hu hsz (by simp; exact List.take_of_length_le (by simp)) (by simp) ?_
  simpa using h

theorem wpList_store_st (i : Nat) {g j T : Nat} {cs : Array Value} (hS : St w0 F L w) (hi : L[i]? = some (Ch.blk g T cs)) (hgd : o.guard = none) {t : TypeId} {x y : Operand} (ho : o.op = .store t x y) (hx : a.eval x = .pointer (some ⟨g, j, none⟩))
    (hu : sizeB P t 1 = true) {v : Value} (hy : Value.scal (a.eval y) = some v) (hj : Nat.ble (j + 1) cs.size = true) (h : ∀ w', St w0 F (L.set i (Ch.blk g T (cs.setIfInBounds j v))) w' → wpList P ops Q rest (a.put o.dst undef) w') : wpList P ops Q (o :: rest) a w := by
  refine wpList_plain hgd fun K hK => ?_
  replace hj : j < cs.size := Nat.le_of_ble_eq_true hj
  obtain ⟨hy, -, hv⟩ := Value.scal_spec hy
  have hr := run_store1 (P := P) hu hv ((hS.cell i hi j).trans (Array.getElem?_eq_getElem hj)) (hS.frozen i hi j)
  unfold Oper.wp execOp
  simp only [ho, hx, hy, Sem.run_bind, hr, Result.andThen_ok, Sem.run_pure]
  exact hK _ _ (h _ (hS.set i hi j v))

theorem Whole.setCells {T : TypeId} {g j : Nat} {cs : Array Value} (h : Whole w g T cs) (vs : List Value) (hfit : j + vs.length ≤ cs.size) (h1 : ∀ v ∈ vs, v.oneCell' = true) :
    (storeCells ⟨g, j, none⟩ vs 0).run P w = .ok () (w.setRow g (cs.toList.take j ++ vs ++ cs.toList.drop (j + vs.length)).toArray) ∧ Whole (w.setRow g (cs.toList.take j ++ vs ++ cs.toList.drop (j + vs.length)).toArray) g T (cs.toList.take j ++ vs ++ cs.toList.drop (j + vs.length)).toArray ∧ Fr [g] w (w.setRow g (cs.toList.take j ++ vs ++ cs.toList.drop (j + vs.length)).toArray) := by
  have hst := run_storeCells_at P g j T vs 0 cs w h (by omega) h1
  simp only [Nat.add_zero] at hst
  exact ⟨hst, setRow_heap w g cs _ T _ h, Fr.of_grown ⟨rfl, rfl, rfl, by simp, fun k _ hk => setRow_other w g k _ (fun e => hk (by simp [e]))⟩⟩

/-- A struct or an array into a block. -/
theorem wpList_storerow_st (i : Nat) {g j T n : Nat} {cs : Array Value} (hS : St w0 F L w) (hi : L[i]? = some (Ch.blk g T cs)) (hgd : o.guard = none) {t : TypeId} {x y : Operand} (ho : o.op = .store t x y) (hx : a.eval x = .pointer (some ⟨g, j, none⟩))
    (hsz : sizeB P t n = true) {vs : List Value} (hy : a.eval y = .agg vs.toArray) (hl : vs.length = n) (hv : vs.all Value.oneCell' = true) (hj : Nat.ble (j + n) cs.size = true)
    (h : ∀ w', St w0 F (L.set i (Ch.blk g T (cs.toList.take j ++ vs ++ cs.toList.drop (j + n)).toArray)) w' → wpList P ops Q rest (a.put o.dst undef) w') : wpList P ops Q (o :: rest) a w := by
  refine wpList_plain hgd fun K hK => ?_
  subst hl
  have h3 : (P.info? t).map (·.size) = some vs.length := by simpa [sizeB] using hsz
  obtain ⟨k1, k2, k3⟩ := Whole.setCells (P := P) (hS.get i hi) vs (Nat.le_of_ble_eq_true hj) (fun v hv' => List.all_eq_true.1 hv v hv')
  obtain ⟨ii, hii, hi1⟩ := Option.map_eq_some_iff.1 h3
  generalize w.setRow g (cs.toList.take j ++ vs ++ cs.toList.drop (j + vs.length)).toArray = W at k1 k2 k3
  have hr : (Instr.storeAt t (.pointer (some ⟨g, j, none⟩)) (.agg vs.toArray)).run P w = .ok () W := by
    simp [Instr.storeAt, Instr.sureAddr, storeVar, sizeOf, typeInfo, hii, hi1, Value.cells, k1]
  unfold Oper.wp execOp
  simp only [ho, hx, hy, Sem.run_bind, hr, Result.andThen_ok, Sem.run_pure]
  exact hK _ _ (h _ (hS.upd i hi k3 (by simp [Ch.blk]) k2 (by simp [Ch.blk])))

/-! In a region that draws its order: one operation that comes up. -/
variable {K : Act → World → Prop}
theorem op_box_st (hw : Region.wanted o (yielded ops a.tmps) = true) {t : TypeId} {x : Operand} (ho : o.op = .box t x) {cs : Array Value} (hx : a.eval x = .agg cs) (hS : St w0 F L w)
    (h : ∀ g w', St w0 F (Ch.blk g t cs :: L) w' → K (a.put o.dst (.pointer (some ⟨g, 0, none⟩))) w') : if Region.wanted o (yielded ops a.tmps) = true then Oper.wp P o a w K Q else K (a.put o.dst undef) w := by
  rw [if_pos hw]
  unfold Oper.wp execOp
  simp only [ho, hx, Instr.box, newVar, newRow, newObj, Sem.run_bind, Sem.run_pure]
  exact h _ _ (hS.alloc cs t)
theorem op_box1_st (hw : Region.wanted o (yielded ops a.tmps) = true) {t : TypeId} {x : Operand} (ho : o.op = .box t x) {v : Value} (hx : Value.scal (a.eval x) = some v) (hS : St w0 F L w)
    (h : ∀ g w', St w0 F (Ch.blk g t #[v] :: L) w' → K (a.put o.dst (.pointer (some ⟨g, 0, none⟩))) w') : if Region.wanted o (yielded ops a.tmps) = true then Oper.wp P o a w K Q else K (a.put o.dst undef) w := by
  rw [if_pos hw]
  have e := (Value.scal_spec hx).2.1
  unfold Oper.wp execOp
  simp only [ho, Instr.box, newVar, newRow, newObj, Sem.run_bind, Sem.run_pure, e]
  exact h _ _ (hS.alloc #[v] t)
theorem op_alloc_st (hw : Region.wanted o (yielded ops a.tmps) = true) {t : TypeId} (ho : o.op = .alloc t) {cs : Array Value} {size bytes : Nat} (he : Elem P t (.agg cs) size bytes) (hS : St w0 F L w)
    (h : ∀ g w', St w0 F (Ch.blk g t cs :: L) w' → K (a.put o.dst (.pointer (some ⟨g, 0, none⟩))) w') : if Region.wanted o (yielded ops a.tmps) = true then Oper.wp P o a w K Q else K (a.put o.dst undef) w := by
  rw [if_pos hw]
  obtain ⟨i, hi, hz', -⟩ := he
  have hr : (Instr.alloc t true (.tuple #[])).run P w = .ok (.pointer (some ⟨w.heap.size, 0, none⟩)) (w.alloc (.cells cs t)) := by
    simp [Instr.alloc, zeroValue, typeInfo, hi, hz', go_sem]
  unfold Oper.wp execOp
  simp only [ho, Sem.run_bind, hr, Result.andThen_ok, Sem.run_pure]
  exact h _ _ (hS.alloc cs t)
theorem op_load_st (hw : Region.wanted o (yielded ops a.tmps) = true) (i : Nat) {g j T : Nat} {cs : Array Value} (hS : St w0 F L w) (hi : L[i]? = some (Ch.blk g T cs)) {t : TypeId} {x : Operand} (ho : o.op = .load t x) (hx : a.eval x = .pointer (some ⟨g, j, none⟩))
    (hu : scalarB P t = true) {v : Value} (hv : cs[j]? = some v) (h : K (a.put o.dst v) w) : if Region.wanted o (yielded ops a.tmps) = true then Oper.wp P o a w K Q else K (a.put o.dst undef) w := by
  rw [if_pos hw]
  have hr := run_load1 hu ((hS.cell i hi j).trans hv)
  unfold Oper.wp execOp
  simp only [ho, hx, Sem.run_bind, hr, Result.andThen_ok, Sem.run_pure]
  exact h
theorem op_loadrow_st (hw : Region.wanted o (yielded ops a.tmps) = true) (i : Nat) {g j T n : Nat} {cs : Array Value} {vs : List Value} (hS : St w0 F L w) (hi : L[i]? = some (Ch.blk g T cs)) {t : TypeId} {x : Operand} (ho : o.op = .load t x) (hx : a.eval x = .pointer (some ⟨g, j, none⟩))
    (hu : rowB P t = true) (hsz : sizeB P t n = true) (hv : (cs.toList.drop j).take n = vs) (hl : vs.length = n) (h : K (a.put o.dst (.agg vs.toArray)) w) : if Region.wanted o (yielded ops a.tmps) = true then Oper.wp P o a w K Q else K (a.put o.dst undef) w := by
  rw [if_pos hw]
  subst hv
  have hr := run_loadrow hu hsz hl (Whole.range (hS.get i hi) j (range_extract cs j n))
  unfold Oper.wp execOp
  simp only [ho, hx, Sem.run_bind, hr, Result.andThen_ok, Sem.run_pure]
  exact h
theorem op_loadall_st (hw : Region.wanted o (yielded ops a.tmps) = true) (i : Nat) {g T : Nat} {cs : Array Value} (hS : St w0 F L w) (hi : L[i]? = some (Ch.blk g T cs)) {t : TypeId} {x : Operand} (ho : o.op = .load t x) (hx : a.eval x = .pointer (some ⟨g, 0, none⟩))
    (hu : rowB P t = true) (hsz : sizeB P t cs.size = true) (h : K (a.put o.dst (.agg cs)) w) : if Region.wanted o (yielded ops a.tmps) = true then Oper.wp P o a w K Q else K (a.put o.dst undef) w := by
  refine op_loadrow_st (vs := cs.toList) hw i hS hi ho hx hu hsz (by simp; exact List.take_of_length_le (by simp)) (by simp) ?_
  simpa using h

theorem op_store_st (hw : Region.wanted o (yielded ops a.tmps) = true) (i : Nat) {g j T : Nat} {cs : Array Value} (hS : St w0 F L w) (hi : L[i]? = some (Ch.blk g T cs)) {t : TypeId} {x y : Operand} (ho : o.op = .store t x y) (hx : a.eval x = .pointer (some ⟨g, j, none⟩))
    (hu : sizeB P t 1 = true) {v : Value} (hy : Value.scal (a.eval y) = some v) (hj : Nat.ble (j + 1) cs.size = true) (h : ∀ w', St w0 F (L.set i (Ch.blk g T (cs.setIfInBounds j v))) w' → K (a.put o.dst undef) w') : if Region.wanted o (yielded ops a.tmps) = true then Oper.wp P o a w K Q else K (a.put o.dst undef) w := by
  rw [if_pos hw]
  replace hj : j < cs.size := Nat.le_of_ble_eq_true hj
  obtain ⟨hy, -, hv⟩ := Value.scal_spec hy
  have hr := run_store1 (P := P) hu hv ((hS.cell i hi j).trans (Array.getElem?_eq_getElem hj)) (hS.frozen i hi j)
  unfold Oper.wp execOp
  simp only [ho, hx, hy, Sem.run_bind, hr, Result.andThen_ok, Sem.run_pure]
  exact h _ (hS.set i hi j v)
theorem op_storerow_st (hw : Region.wanted o (yielded ops a.tmps) = true) (i : Nat) {g j T n : Nat} {cs : Array Value} (hS : St w0 F L w) (hi : L[i]? = some (Ch.blk g T cs)) {t : TypeId} {x y : Operand} (ho : o.op = .store t x y) (hx : a.eval x = .pointer (some ⟨g, j, none⟩))
    (hsz : sizeB P t n = true) {vs : List Value} (hy : a.eval y = .agg vs.toArray) (hl : vs.length = n) (hv : vs.all Value.oneCell' = true) (hj : Nat.ble (j + n) cs.size = true)
    (h : ∀ w', St w0 F (L.set i (Ch.blk g T (cs.toList.take j ++ vs ++ cs.toList.drop (j + n)).toArray)) w' → K (a.put o.dst undef) w') : if Region.wanted o (yielded ops a.tmps) = true then Oper.wp P o a w K Q else K (a.put o.dst undef) w := by
  rw [if_pos hw]
  subst hl
  have h3 : (P.info? t).map (·.size) = some vs.length := by simpa [sizeB] using hsz
  obtain ⟨k1, k2, k3⟩ := Whole.setCells (P := P) (hS.get i hi) vs (Nat.le_of_ble_eq_true hj) (fun v hv' => List.all_eq_true.1 hv v hv')
  obtain ⟨ii, hii, hi1⟩ := Option.map_eq_some_iff.1 h3
  generalize w.setRow g (cs.toList.take j ++ vs ++ cs.toList.drop (j + vs.length)).toArray = W at k1 k2 k3
  have hr : (Instr.storeAt t (.pointer (some ⟨g, j, none⟩)) (.agg vs.toArray)).run P w = .ok () W := by
    simp [Instr.storeAt, Instr.sureAddr, storeVar, sizeOf, typeInfo, hii, hi1, Value.cells, k1]
  unfold Oper.wp execOp
  simp only [ho, hx, hy, Sem.run_bind, hr, Result.andThen_ok, Sem.run_pure]
  exact h _ (hS.upd i hi k3 (by simp [Ch.blk]) k2 (by simp [Ch.blk]))
end

section
variable {P : Program} {Q : Exit → Act → World → Prop} {S : World → Prop} {ops : Array Oper} {fuel : Nat} {listed : Array Bool} {a : Act} {w : World}
/-- A truth that is not known yet parts the way. -/
theorem mixs_case (d : Nat) {b : Bool} (hb : a.tmps[d]? = some (.bool b)) (h1 : b = true → wpAnyH P .any ops Q S fuel listed (a.put (some d) (.bool true)) w) (h0 : b = false → wpAnyH P .any ops Q S fuel listed (a.put (some d) (.bool false)) w) :
    wpAnyH P .any ops Q S fuel listed a w := by
  have e : a.put (some d) (.bool b) = a := by
    obtain ⟨hd, hv⟩ := Array.getElem?_eq_some_iff.1 hb
    have k : a.tmps.setIfInBounds d (.bool b) = a.tmps := by
      apply Array.ext (by simp)
      intro i h1 h2
      rw [Array.getElem_setIfInBounds]
      split
      · rename_i h
        subst h
        exact hv.symm
      · rfl
    simp only [Act.put, k]
  rw [← e]
  cases b with
  | true => exact h1 rfl
  | false => exact h0 rfl
end
end Go.Ofp
