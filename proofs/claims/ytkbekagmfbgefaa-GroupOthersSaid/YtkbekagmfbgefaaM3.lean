import Derived.Test.YtkbekagmfbgefaaM2
set_option linter.unusedVariables false
set_option linter.unusedSimpArgs false
set_option maxRecDepth 100000
section
namespace Go.Ofp
open Go.RowKit
theorem foldl_set (l : List Value) (k : Nat) (A : List Value) (B : List Value) (hB : B.length = l.length) (hk : A.length = k) :
    (l.zipIdx k).foldl (fun (cs : Array Value) (x : Value × Nat) => cs.setIfInBounds (0 + x.2) x.1) (A ++ B).toArray = (A ++ l).toArray := by
  induction l generalizing k A B with
  | nil => simp at hB; subst hB; simp
  | cons v l ih =>
    cases B with
    | nil => simp at hB
    | cons u B =>
      rw [List.zipIdx_cons, List.foldl_cons]
      have e : (A ++ u :: B).toArray.setIfInBounds (0 + k) v = ((A ++ [v]) ++ B).toArray := by
        simp only [Nat.zero_add, List.setIfInBounds_toArray]
        rw [← hk, List.set_append_right _ _ (Nat.le_refl _), Nat.sub_self, List.set_cons_zero]
        simp
      rw [e, ih (k + 1) (A ++ [v]) B (by simpa using hB) (by simp [hk])]
      simp
section
variable {P : Program} {w : World}
theorem run_build1 (w : World) (t e : TypeId) (ht : P.underlying t = some (.slice e)) {z : Value} {size bytes : Nat} (he : Elem P e z size bytes) {v : Value} (hv : v.cells.size = size) (hs : size ≤ 16777216) :
    (Instr.buildSlice t 1 #[(0, v)]).run P w = .ok (.slice (some ⟨w.heap.size, 0, none⟩) 1 1) (w.alloc (.cells v.cells e)) := by
  obtain ⟨i, hi, hz, hsz, hby, hzs, hpos⟩ := he
  have h0 : ¬ (16777216 < i.size) := by omega
  have h1 : ¬ (i.size = 0) := by omega
  have hf : Instr.fill (fun j => some (j * i.size, i.size)) ((Array.range (1 * i.size)).map (z.cells[· % z.cells.size]!)) [(0, v)] = some v.cells := by
    have hsz2 : v.cells.size = i.size := by omega
    simp only [Instr.fill, Nat.zero_mul, Nat.zero_add, Array.size_map, Array.size_range, Nat.one_mul, hsz2]
    rw [if_neg (by simp)]
    have := foldl_set v.cells.toList 0 [] ((Array.range i.size).map (z.cells[· % z.cells.size]!)).toList (by simp [hsz2]) rfl
    simp only [List.nil_append, Array.toArray_toList] at this
    refine congrArg some ?_
    rw [← Array.foldl_toList]
    simpa using this
  rw [Nat.one_mul] at hf
  simp [Instr.buildSlice, run_underlying ht, sizeOf, typeInfo, zeroValue, hi, hz, h0, h1]
  rw [hf]
  rfl
variable {w0 : World} {F : List Nat} {L : List Ch} {ops : Array Oper} {rest : List Oper} {o : Oper} {a : Act} {Q : Exit → Act → World → Prop} {K : Act → World → Prop}
theorem op_build1_st (hw : Region.wanted o (yielded ops a.tmps) = true) (hS : St w0 F L w) {t : TypeId} {x : Operand} (ho : o.op = .buildSlice t 1 #[(0, x)]) {e : TypeId} (ht : P.underlying t = some (.slice e)) {z : Value} {size bytes : Nat} (he : Elem P e z size bytes)
    {cs : Array Value} (hx : a.eval x = .agg cs) (hv : cs.size = size) (hs : size ≤ 16777216)
    (h : ∀ g w', St w0 F (Ch.blk g e cs :: L) w' → K (a.put o.dst (.slice (some ⟨g, 0, none⟩) 1 1)) w') : if Region.wanted o (yielded ops a.tmps) = true then Oper.wp P o a w K Q else K (a.put o.dst undef) w := by
  rw [if_pos hw]
  have hr := run_build1 w t e ht he (v := .agg cs) hv hs
  unfold Oper.wp execOp
  simp only [ho, List.map_toArray, List.map_cons, List.map_nil, hx, Sem.run_bind, hr, Result.andThen_ok, Sem.run_pure]
  exact h _ _ (hS.alloc cs e)
theorem St.blksl {g t : Nat} {cs : Array Value} (h : St w0 F L w) (i : Nat) (hi : L[i]? = some (Ch.blk g t cs)) : Sl w (some ⟨g, 0, none⟩) cs.toList := by
  intro j hj
  refine ⟨g, 0, rfl, ?_⟩
  rw [h.cell i hi, Nat.zero_add]
  simp
theorem wpList_build1 (hgd : o.guard = none) {t k : Nat} {x : Operand} (ho : o.op = .build t #[(k, x)]) (v : Value) (hx : a.eval x = v) {u : Value} (hr : ∀ w : World, (Instr.build t #[(k, v)]).run P w = .ok u w)
    (h : wpList P ops Q rest (a.put o.dst u) w) : wpList P ops Q (o :: rest) a w := by
  refine wpList_plain hgd fun K hK => ?_
  unfold Oper.wp execOp
  simp only [ho, List.map_toArray, List.map_cons, List.map_nil, hx, Sem.run_bind, hr, Result.andThen_ok, Sem.run_pure]
  exact hK _ _ h
theorem mixs_beginE {id : Nat} {l : List Oper} (hm : P.follows .mixedOrders = true) (hS : St w0 F L w)
    (h : ∀ w', St w0 F L w' → St w0 F [] w' → wpAnyH P .any l.toArray Q (fun w' => St w0 F [] w') l.length (Array.replicate l.length false) a w') : (Code.region id l.toArray true).wp P Q a w := by
  refine wp_region_held (S := fun w' => St w0 F [] w') hm ?_
  simpa using h w.drew hS.drew hS.drew.empty
end
end Go.Ofp
end
section
namespace Go.Ofp
open Go.RowKit
section
variable {P : Program} {w : World}
theorem run_build0 (w : World) (t e : TypeId) (ht : P.underlying t = some (.slice e)) {z : Value} {size bytes : Nat} (he : Elem P e z size bytes) :
    (Instr.buildSlice t 0 #[]).run P w = .ok (.slice (some ⟨w.heap.size, 0, none⟩) 0 0) (w.alloc (.cells #[] e)) := by
  obtain ⟨i, hi, hz, hsz, hby, hzs, hpos⟩ := he
  simp [Instr.buildSlice, run_underlying ht, sizeOf, typeInfo, hi, Instr.fill]
  rw [show (Array.map (fun (_ : Nat) => (default : Value)) (Array.range 0)) = #[] by simp]
  rfl
theorem own_build0 (w : World) (e : TypeId) (size : Nat) : (w.alloc (.cells #[] e)).ownsRow 0 e size (.slice (some ⟨w.heap.size, 0, none⟩) 0 0) 0 [] := by
  refine ⟨by simp, .inr ⟨w.heap.size, 0, #[], rfl, Nat.zero_le _, heap_alloc_new w _, Nat.le_refl _, by unfold maxLen; omega, by simp, by simp⟩⟩
variable {w0 : World} {F : List Nat} {L : List Ch} {ops : Array Oper} {rest : List Oper} {o : Oper} {a : Act} {Q : Exit → Act → World → Prop} {K : Act → World → Prop}
theorem St.build0 (hS : St w0 F L w) (e : TypeId) (size : Nat) : St w0 F (Ch.row e size (.slice (some ⟨w.heap.size, 0, none⟩) 0 0) 0 [] :: L) (w.alloc (.cells #[] e)) :=
  hS.push (Fr.alloc _ _) (own_build0 w e size) (by simp [Ch.row, Value.ownBlock])
theorem wpList_build0_st (hS : St w0 F L w) (hgd : o.guard = none) {t : TypeId} (ho : o.op = .buildSlice t 0 #[]) {e : TypeId} (ht : P.underlying t = some (.slice e)) {z : Value} {size bytes : Nat} (he : Elem P e z size bytes)
    (h : ∀ g w', St w0 F (Ch.row e size (.slice (some ⟨g, 0, none⟩) 0 0) 0 [] :: L) w' → wpList P ops Q rest (a.put o.dst (.slice (some ⟨g, 0, none⟩) 0 0)) w') : wpList P ops Q (o :: rest) a w := by
  refine wpList_plain hgd fun K hK => ?_
  have hr := run_build0 (P := P) w t e ht he
  unfold Oper.wp execOp
  simp only [ho, List.map_toArray, List.map_nil, Sem.run_bind, hr, Result.andThen_ok, Sem.run_pure]
  exact hK _ _ (h _ _ (hS.build0 e size))
theorem wpList_build1c_st (hS : St w0 F L w) (hgd : o.guard = none) {t : TypeId} {x : Operand} (ho : o.op = .buildSlice t 1 #[(0, x)]) {e : TypeId} (ht : P.underlying t = some (.slice e)) {z : Value} {bytes : Nat} (he : Elem P e z 1 bytes)
    {v : Value} (hx : Value.scal (a.eval x) = some v)
    (h : ∀ g w', St w0 F (Ch.blk g e #[v] :: L) w' → wpList P ops Q rest (a.put o.dst (.slice (some ⟨g, 0, none⟩) 1 1)) w') : wpList P ops Q (o :: rest) a w := by
  refine wpList_plain hgd fun K hK => ?_
  obtain ⟨h1, h2, -⟩ := Value.scal_spec hx
  rw [h1] at h2
  have hr := run_build1 w t e ht he (v := v) (by rw [h2]; rfl) (by omega)
  unfold Oper.wp execOp
  simp only [ho, List.map_toArray, List.map_cons, List.map_nil, h1, Sem.run_bind, hr, Result.andThen_ok, Sem.run_pure]
  refine hK _ _ (h _ _ ?_)
  rw [← h2]
  exact hS.alloc v.cells e
theorem St.blksl2 {g t : Nat} {xs : List Value} (h : St w0 F L w) (i : Nat) (hi : L[i]? = some (Ch.blk g t xs.toArray)) : Sl w (some ⟨g, 0, none⟩) xs := by
  have := h.blksl i hi
  simpa using this
theorem St.made {A : List Ch} {w1 : World} (h : St w0 F L w) (k : St w [] A w1) : St w0 F (A ++ L) w1 := h.call (A := []) (A' := A) (w' := w1) L rfl k
end
end Go.Ofp
end
section
namespace Go.Ofp
open Go.RowKit
section
variable {P : Program} {w w0 : World} {F : List Nat} {L : List Ch} {ops : Array Oper} {rest : List Oper} {o : Oper} {a : Act} {Q : Exit → Act → World → Prop} {K : Act → World → Prop}
theorem St.rowblk {e size n c g : Nat} {xs : List Value} (hS : St w0 F (Ch.row e size (.slice (some ⟨g, 0, none⟩) n c) n xs :: L) w) :
    ∃ cur : Array Value, cur.size = c * size ∧ cur.toList.take (n * size) = xs ∧ n ≤ c ∧ c ≤ maxLen ∧ St w0 F (Ch.blk g e cur :: L) w := by
  rcases (hS.get 0 rfl).2 with ⟨h, _⟩ | ⟨g', cap, cur, hv, _, hgc, hnc, hcm, hcs, htake⟩
  · cases h
  · cases hv
    exact ⟨cur, hcs, htake, hnc, hcm, hS.upd 0 rfl (Fr.refl [] w) (by simp) hgc (by simp [Ch.row, Ch.blk, Value.ownBlock])⟩
theorem St.blkrow2 {e n c g : Nat} {cur : Array Value} (hS : St w0 F (Ch.blk g e cur :: L) w) (size : Nat) (h1 : cur.size = c * size) (h2 : n ≤ c) (h3 : c ≤ maxLen) {xs : List Value} (hx : cur.toList.take (n * size) = xs) :
    St w0 F (Ch.row e size (.slice (some ⟨g, 0, none⟩) n c) n xs :: L) w := by
  subst hx
  refine hS.upd 0 rfl (Fr.refl [] w) (by simp) ⟨?_, .inr ⟨g, c, cur, rfl, Nat.zero_le _, hS.get 0 rfl, h2, h3, h1, rfl⟩⟩ (by simp [Ch.row, Ch.blk, Value.ownBlock])
  rw [List.length_take, Array.length_toList, h1]
  exact Nat.min_eq_left (Nat.mul_le_mul_right _ h2)
theorem St.blkpart {g t : Nat} {cs : Array Value} (h : St w0 F L w) (i : Nat) (hi : L[i]? = some (Ch.blk g t cs)) (k m : Nat) : Sl w (some ⟨g, k, none⟩) ((cs.toList.drop k).take m) :=
  ((h.blksl i hi).drop k |> fun x => by rw [Nat.zero_add] at x; exact x.take m)
theorem run_copy_blk (w : World) (t tx ty e : TypeId) (ht : P.underlying t = some (.slice e)) {z : Value} {size bytes : Nat} (he : Elem P e z size bytes)
    {g off nd c m cm k : Nat} {ad : Option Addr} {cs : Array Value} {news : List Value} (hw : Whole w g e cs) (hsl : Sl w ad news) (hk : Nat.min m nd = k) (hl : news.length = k * size) (h1 : ∀ u ∈ news, u.oneCell' = true) (hfit : off + k * size ≤ cs.size) :
    ∃ w', (Builtin.copy_ #[t, tx] ty #[.slice (some ⟨g, off, none⟩) nd c, .slice ad m cm]).run P w = .ok (.int .i64 k) w' ∧ Whole w' g e (cs.toList.take off ++ news ++ cs.toList.drop (off + k * size)).toArray ∧ Fr [g] w w' := by
  obtain ⟨i, hi, hz, rfl, rfl, hzs, hpos⟩ := he
  have hcells : (Builtin.firstCells i.size k (.slice ad m cm)).run P w = .ok news.toArray w := by
    have e : Builtin.firstCells i.size k (.slice ad m cm) = Builtin.firstCells i.size k (.slice ad k cm) := by cases ad <;> rfl
    rw [e]
    exact (Src.slice (P := P) (c := cm) ht hsl hl).cells w (fun _ => rfl)
  obtain ⟨k1, k2, k3⟩ := Whole.setCells (P := P) (j := off) hw news (by rw [hl]; exact hfit) h1
  rw [hl] at k1 k2 k3
  refine ⟨_, ?_, k2, k3⟩
  subst hk
  simp [Builtin.copy_, run_underlying ht, sizeOf, typeInfo, hi, Builtin.lenOf, hcells, k1, goInt]
theorem wpList_copyblk_st (i : Nat) {g off nd c m cm k T : Nat} {cs : Array Value} (hS : St w0 F L w) (hi : L[i]? = some (Ch.blk g T cs)) (hgd : o.guard = none) {s x : Operand} {t tx : TypeId} (ho : o.op = .call { callee := .builtin .copy, args := #[s, x], argTypes := #[t, tx] })
    (ht : P.underlying t = some (.slice T)) {z : Value} {size bytes : Nat} (he : Elem P T z size bytes) (hs : a.eval s = .slice (some ⟨g, off, none⟩) nd c) {ad : Option Addr} (hx : a.eval x = .slice ad m cm) {news : List Value} (hsl : Sl w ad news) (hk : Nat.min m nd = k) (hl : news.length = k * size) (h1 : ∀ u ∈ news, u.oneCell' = true) (hfit : off + k * size ≤ cs.size)
    (h : ∀ w', St w0 F (L.set i (Ch.blk g T (cs.toList.take off ++ news ++ cs.toList.drop (off + k * size)).toArray)) w' → wpList P ops Q rest (a.put o.dst (.int .i64 k)) w') : wpList P ops Q (o :: rest) a w := by
  refine wpList_plain hgd fun K hK => ?_
  obtain ⟨w', hr, h2, h3⟩ := run_copy_blk (c := c) (cm := cm) w t tx o.type T ht he (hS.get i hi) hsl hk hl h1 hfit
  unfold Oper.wp execOp
  simp only [ho, resolve, invoke, builtin, Sem.run_bind, Sem.run_pure, Result.andThen_ok, List.map_toArray, List.map_cons, List.map_nil, hs, hx, hr]
  exact hK _ _ (h w' (hS.upd i hi h3 (by simp [Ch.blk]) h2 (by simp [Ch.blk])))
theorem op_copyblk_st (hw : Region.wanted o (yielded ops a.tmps) = true) (i : Nat) {g off nd c m cm k T : Nat} {cs : Array Value} (hS : St w0 F L w) (hi : L[i]? = some (Ch.blk g T cs)) {s x : Operand} {t tx : TypeId} (ho : o.op = .call { callee := .builtin .copy, args := #[s, x], argTypes := #[t, tx] })
    (ht : P.underlying t = some (.slice T)) {z : Value} {size bytes : Nat} (he : Elem P T z size bytes) (hs : a.eval s = .slice (some ⟨g, off, none⟩) nd c) {ad : Option Addr} (hx : a.eval x = .slice ad m cm) {news : List Value} (hsl : Sl w ad news) (hk : Nat.min m nd = k) (hl : news.length = k * size) (h1 : ∀ u ∈ news, u.oneCell' = true) (hfit : off + k * size ≤ cs.size)
    (h : ∀ w', St w0 F (L.set i (Ch.blk g T (cs.toList.take off ++ news ++ cs.toList.drop (off + k * size)).toArray)) w' → K (a.put o.dst (.int .i64 k)) w') : if Region.wanted o (yielded ops a.tmps) = true then Oper.wp P o a w K Q else K (a.put o.dst undef) w := by
  rw [if_pos hw]
  obtain ⟨w', hr, h2, h3⟩ := run_copy_blk (c := c) (cm := cm) w t tx o.type T ht he (hS.get i hi) hsl hk hl h1 hfit
  unfold Oper.wp execOp
  simp only [ho, resolve, invoke, builtin, Sem.run_bind, Sem.run_pure, Result.andThen_ok, List.map_toArray, List.map_cons, List.map_nil, hs, hx, hr]
  exact h w' (hS.upd i hi h3 (by simp [Ch.blk]) h2 (by simp [Ch.blk]))
theorem run_app_blk (w : World) (t tx ty e : TypeId) (ht : P.underlying t = some (.slice e)) (htx : P.underlying tx = some (.slice e)) {z : Value} {size bytes : Nat} (he : Elem P e z size bytes)
    {g n c m cm : Nat} {ad : Option Addr} {cs : Array Value} {news : List Value} (hw : Whole w g e cs) (hsl : Sl w ad news) (hl : news.length = m * size) (h1 : ∀ u ∈ news, u.oneCell' = true) (hroom : n + m ≤ c) (hcs : cs.size = c * size) :
    ∃ w', (Builtin.append_ #[t, tx] ty #[.slice (some ⟨g, 0, none⟩) n c, .slice ad m cm]).run P w = .ok (.slice (some ⟨g, 0, none⟩) (n + m) c) w' ∧ Whole w' g e (cs.toList.take (n * size) ++ news ++ cs.toList.drop (n * size + m * size)).toArray ∧ Fr [g] w w' := by
  obtain ⟨i, hi, hz, rfl, rfl, hzs, hpos⟩ := he
  have hcells : (Builtin.firstCells i.size m (.slice ad m cm)).run P w = .ok news.toArray w := (Src.slice (P := P) (c := cm) ht hsl hl).cells w (fun _ => rfl)
  have hfit : n * i.size + news.length ≤ cs.size := by rw [hl, hcs, ← Nat.add_mul]; exact Nat.mul_le_mul_right _ hroom
  obtain ⟨k1, k2, k3⟩ := Whole.setCells (P := P) (j := n * i.size) hw news hfit h1
  rw [hl] at k1 k2 k3
  refine ⟨_, ?_, k2, k3⟩
  simp [Builtin.append_, run_underlying ht, run_underlying htx, sizeOf, typeInfo, hi, Builtin.lenOf, hroom, hcells, Addr.add_lit, k1]
theorem op_appblk_st (hw : Region.wanted o (yielded ops a.tmps) = true) (i : Nat) {g n c m cm T : Nat} {cs : Array Value} (hS : St w0 F L w) (hi : L[i]? = some (Ch.blk g T cs)) {s x : Operand} {t tx : TypeId} (ho : o.op = .call { callee := .builtin .append, args := #[s, x], argTypes := #[t, tx] })
    (ht : P.underlying t = some (.slice T)) (htx : P.underlying tx = some (.slice T)) {z : Value} {size bytes : Nat} (he : Elem P T z size bytes) (hs : a.eval s = .slice (some ⟨g, 0, none⟩) n c) {ad : Option Addr} (hx : a.eval x = .slice ad m cm) {news : List Value} (hsl : Sl w ad news) (hl : news.length = m * size) (h1 : ∀ u ∈ news, u.oneCell' = true) (hroom : n + m ≤ c) (hcs : cs.size = c * size)
    (h : ∀ w', St w0 F (L.set i (Ch.blk g T (cs.toList.take (n * size) ++ news ++ cs.toList.drop (n * size + m * size)).toArray)) w' → K (a.put o.dst (.slice (some ⟨g, 0, none⟩) (n + m) c)) w') : if Region.wanted o (yielded ops a.tmps) = true then Oper.wp P o a w K Q else K (a.put o.dst undef) w := by
  rw [if_pos hw]
  obtain ⟨w', hr, h2, h3⟩ := run_app_blk (cm := cm) w t tx o.type T ht htx he (hS.get i hi) hsl hl h1 hroom hcs
  unfold Oper.wp execOp
  simp only [ho, resolve, invoke, builtin, Sem.run_bind, Sem.run_pure, Result.andThen_ok, List.map_toArray, List.map_cons, List.map_nil, hs, hx, hr]
  exact h w' (hS.upd i hi h3 (by simp [Ch.blk]) h2 (by simp [Ch.blk]))
theorem zeroCells_len (z : Array Value) (n : Nat) : (Builtin.zeroCells z n).toList.length = n * z.size := by simp [Builtin.zeroCells]
theorem zeroCells_mem (z : Array Value) (n : Nat) (h : ∀ u ∈ z, u.oneCell' = true) (hz : 0 < z.size) : ∀ u ∈ (Builtin.zeroCells z n).toList, u.oneCell' = true := by
  intro u hu
  simp only [Builtin.zeroCells, Array.toList_map, List.mem_map] at hu
  obtain ⟨i, _, rfl⟩ := hu
  have hlt : i % z.size < z.size := Nat.mod_lt _ hz
  rw [getElem!_pos z (i % z.size) hlt]
  exact h _ (Array.getElem_mem hlt)
theorem run_app_zeros (w : World) (t tx ty e : TypeId) (ht : P.underlying t = some (.slice e)) {kn : IntKind} (htx : P.underlying tx = some (.int kn)) {z : Value} {size bytes : Nat} (he : Elem P e z size bytes)
    {ad : Option Addr} {n cap : Nat} {xs : List Value} (hs : Sl w ad xs) (hn : xs.length = n * size) {m : Nat} (hm : 0 < m) (hg : cap < n + m) (hb : (n + m) * bytes ≤ 140737488355328) (h63 : n + m ≤ maxLen) (hm2 : (m : Int) * (bytes : Int) ≤ 140737488355328) :
    ∃ c' w', (Builtin.append_ #[t, tx] ty #[.slice ad n cap, .int .i64 m]).run P w = .ok (.slice (some ⟨w.heap.size, 0, none⟩) (n + m) c') w' ∧ w'.ownsRow w.heap.size e size (.slice (some ⟨w.heap.size, 0, none⟩) (n + m) c') (n + m) (xs ++ (Builtin.zeroCells z.cells m).toList) ∧ Fr [] w w' := by
  obtain ⟨i, hi, hz, rfl, rfl, hzs, hpos⟩ := he
  have hold : (Builtin.firstCells i.size n (.slice ad n cap)).run P w.drew = .ok xs.toArray w.drew := (Src.slice ht (hs.same (w' := w.drew) (fun _ => rfl)) hn (c := cap)).cells _ (fun _ => rfl)
  have hroom : ¬ (n + m ≤ cap) := by omega
  have h63' : ¬ (9223372036854775807 < ((n : Int) + (m : Int))) := by simp only [maxLen] at h63; omega
  have hfit := growslice_fits hg hb
  have h48' : ¬ (281474976710656 < Builtin.nextslicecap (n + m) cap * i.bytes) := by omega
  have hge := grownCap_ge w (n + m) cap e
  have hcm : grownCap w (n + m) cap e ≤ maxLen := grownCap_le_maxLen w (n + m) cap e h63
  have hwrap : IntKind.i64.wrap (m : Int) = (m : Int) := IntWalk.i64_in _ (by simp only [maxLen] at h63; omega)
  have hneg : ¬ ((m : Int) < 0) := by omega
  have hbig : ¬ (281474976710656 < (m : Int) * (i.bytes : Int)) := by omega
  have hne : ¬ (m * i.size = 0) := by have := Nat.mul_pos hm hpos; omega
  have hne2 : ¬ (m = 0) := by omega
  have hzl : (Builtin.zeroCells z.cells m).size = m * i.size := by simp [Builtin.zeroCells, hzs]
  refine ⟨grownCap w (n + m) cap e, w.drew.alloc (.cells (xs.toArray ++ Builtin.zeroCells z.cells m ++ Builtin.zeroCells z.cells (grownCap w (n + m) cap e - (n + m))) e), ?_, ⟨?_, .inr ⟨w.heap.size, _, _, rfl, Nat.le_refl _, heap_alloc_new w.drew _, hge, hcm, ?_, ?_⟩⟩, ⟨rfl, rfl, rfl, by simp, fun k hk _ => heap_alloc_old w.drew _ hk⟩⟩
  · simp [Builtin.append_, run_underlying ht, run_underlying htx, sizeOf, typeInfo, zeroValue, hi, hz, asInt, asIntOf, hwrap, hneg, hbig, hroom, h63', h48', Question.forced, hne2, hold, newRow, grownCap]
    intro h0
    exact absurd h0 hne
  · rw [List.length_append, zeroCells_len, hzs, hn, Nat.add_mul]
  · simp only [Array.size_append, List.size_toArray, size_zeroCells, hzs, hn, ← Nat.add_mul]
    congr 1
    omega
  · have e1 : (xs ++ (Builtin.zeroCells z.cells m).toList).length = (n + m) * i.size := by rw [List.length_append, zeroCells_len, hzs, hn, Nat.add_mul]
    simp only [Array.toList_append]
    rw [← e1]
    exact List.take_left
theorem wpList_appzeros_st (hS : St w0 F L w) (hgd : o.guard = none) {s x : Operand} {t tx : TypeId} (ho : o.op = .call { callee := .builtin .append, args := #[s, x], argTypes := #[t, tx] })
    {e : TypeId} (ht : P.underlying t = some (.slice e)) {kn : IntKind} (htx : P.underlying tx = some (.int kn)) {z : Value} {size bytes : Nat} (he : Elem P e z size bytes)
    {ad : Option Addr} {n cap m : Nat} (hs : a.eval s = .slice ad n cap) {M : Int} (hx : a.eval x = .int .i64 M) (hM : M = (m : Int)) {xs : List Value} (hsl : Sl w ad xs) (hn : xs.length = n * size) (hm : 0 < m) (hg : cap < n + m) (hb : (n + m) * bytes ≤ 140737488355328) (h63 : n + m ≤ maxLen) (hm2 : (m : Int) * (bytes : Int) ≤ 140737488355328)
    (h : ∀ g c' w', St w0 F (Ch.row e size (.slice (some ⟨g, 0, none⟩) (n + m) c') (n + m) (xs ++ (Builtin.zeroCells z.cells m).toList) :: L) w' → wpList P ops Q rest (a.put o.dst (.slice (some ⟨g, 0, none⟩) (n + m) c')) w') : wpList P ops Q (o :: rest) a w := by
  refine wpList_plain hgd fun K hK => ?_
  subst hM
  obtain ⟨c', w', hr, h2, h3⟩ := run_app_zeros w t tx o.type e ht htx he hsl hn hm hg hb h63 hm2
  unfold Oper.wp execOp
  simp only [ho, resolve, invoke, builtin, Sem.run_bind, Sem.run_pure, Result.andThen_ok, List.map_toArray, List.map_cons, List.map_nil, hs, hx, hr]
  exact hK _ _ (h _ c' w' (hS.fresh h3 h2))
theorem run_clear_blk (w : World) (t ty e : TypeId) (ht : P.underlying t = some (.slice e)) {z : Value} {size bytes : Nat} (he : Elem P e z size bytes) (hz1 : ∀ u ∈ z.cells, u.oneCell' = true)
    {g off n c : Nat} {cs : Array Value} (hw : Whole w g e cs) (hfit : off + n * size ≤ cs.size) (hn : 0 < n) :
    ∃ w' cs', (Builtin.clear_ #[t] ty #[.slice (some ⟨g, off, none⟩) n c]).run P w = .ok (.tuple #[]) w' ∧ Whole w' g e cs' ∧ cs'.size = cs.size ∧ cs'.toList.take off = cs.toList.take off ∧ Fr [g] w w' := by
  obtain ⟨i, hi, hz, rfl, rfl, hzs, hpos⟩ := he
  have hl := zeroCells_len z.cells n
  rw [hzs] at hl
  obtain ⟨k1, k2, k3⟩ := Whole.setCells (P := P) (j := off) hw (Builtin.zeroCells z.cells n).toList (by rw [hl]; exact hfit) (zeroCells_mem _ _ hz1 (by omega))
  rw [hl] at k1 k2 k3
  obtain ⟨n, rfl⟩ : ∃ k, n = k + 1 := ⟨n - 1, by omega⟩
  refine ⟨_, _, ?_, k2, ?_, ?_, k3⟩
  · simp [Builtin.clear_, run_underlying ht, typeInfo, zeroValue, hi, hz, k1]
  · simp only [List.size_toArray, List.length_append, List.length_take, List.length_drop, Array.length_toList, hl]
    omega
  · rw [List.append_assoc, List.take_append_of_le_length (by simp; omega), List.take_take, Nat.min_self]
theorem wpList_clearblk_st (i : Nat) {g off n c T : Nat} {cs : Array Value} (hS : St w0 F L w) (hi : L[i]? = some (Ch.blk g T cs)) (hgd : o.guard = none) {s : Operand} {t : TypeId} (ho : o.op = .call { callee := .builtin .clear, args := #[s], argTypes := #[t] })
    (ht : P.underlying t = some (.slice T)) {z : Value} {size bytes : Nat} (he : Elem P T z size bytes) (hz1 : ∀ u ∈ z.cells, u.oneCell' = true) (hs : a.eval s = .slice (some ⟨g, off, none⟩) n c) (hfit : off + n * size ≤ cs.size) (hn : 0 < n)
    (h : ∀ w' cs', cs'.size = cs.size → cs'.toList.take off = cs.toList.take off → St w0 F (L.set i (Ch.blk g T cs')) w' → wpList P ops Q rest (a.put o.dst (.tuple #[])) w') : wpList P ops Q (o :: rest) a w := by
  refine wpList_plain hgd fun K hK => ?_
  obtain ⟨w', cs', hr, h2, h3, h4, h5⟩ := run_clear_blk (c := c) w t o.type T ht he hz1 (hS.get i hi) hfit hn
  unfold Oper.wp execOp
  simp only [ho, resolve, invoke, builtin, Sem.run_bind, Sem.run_pure, Result.andThen_ok, List.map_toArray, List.map_cons, List.map_nil, hs, hr]
  exact hK _ _ (h w' cs' h3 h4 (hS.upd i hi h5 (by simp [Ch.blk]) h2 (by simp [Ch.blk])))
end
end Go.Ofp
end
section
namespace Go.Ofp.Ids
def chkFrom : Int → List Int → Bool
  | _, [] => true
  | last, x :: l => decide (last < x) && (decide (x < 1073741824) && chkFrom x l)
def chk (l : List Int) : Bool := chkFrom 0 l
def Up (l : List Int) : Prop := l.Pairwise (· < ·)
def Rise (l : List Int) : Prop := Up l ∧ ∀ x ∈ l, 1 ≤ x ∧ x < 1073741824
theorem chkFrom_iff (l : List Int) : ∀ last : Int, chkFrom last l = true ↔ Up l ∧ ∀ x ∈ l, last < x ∧ x < 1073741824 := by
  induction l with
  | nil => intro last; simp [chkFrom, Up]
  | cons x l ih =>
    intro last
    simp only [chkFrom, Bool.and_eq_true, decide_eq_true_eq, ih x, Up, List.pairwise_cons, List.mem_cons, forall_eq_or_imp]
    constructor
    · rintro ⟨h1, h2, h3, h4⟩
      exact ⟨⟨fun y hy => (h4 y hy).1, h3⟩, ⟨h1, h2⟩, fun y hy => ⟨by have := (h4 y hy).1; omega, (h4 y hy).2⟩⟩
    · rintro ⟨⟨h1, h2⟩, ⟨h3, h4⟩, h5⟩
      exact ⟨h3, h4, h2, fun y hy => ⟨h1 y hy, (h5 y hy).2⟩⟩
theorem chk_iff (l : List Int) : chk l = true ↔ Rise l := by
  unfold chk Rise
  rw [chkFrom_iff]
  constructor
  · rintro ⟨h1, h2⟩; exact ⟨h1, fun x hx => by have := h2 x hx; omega⟩
  · rintro ⟨h1, h2⟩; exact ⟨h1, fun x hx => by have := h2 x hx; omega⟩
theorem up_ext : ∀ (l m : List Int), Up l → Up m → (∀ x, x ∈ l ↔ x ∈ m) → l = m
  | [], [], _, _, _ => rfl
  | [], y :: m, _, _, h => by have := (h y).2 (by simp); simp at this
  | x :: l, [], _, _, h => by have := (h x).1 (by simp); simp at this
  | x :: l, y :: m, hl, hm, h => by
    unfold Up at hl hm
    rw [List.pairwise_cons] at hl hm
    have exy : x = y := by
      have h1 := (h x).1 (by simp)
      have h2 := (h y).2 (by simp)
      simp only [List.mem_cons] at h1 h2
      rcases h1 with h1 | h1
      · exact h1
      · rcases h2 with h2 | h2
        · exact h2.symm
        · have := hm.1 x h1; have := hl.1 y h2; omega
    subst exy
    rw [up_ext l m hl.2 hm.2]
    intro z
    constructor
    · intro hz
      have := (h z).1 (by simp [hz])
      simp only [List.mem_cons] at this
      rcases this with rfl | this
      · have := hl.1 z hz; omega
      · exact this
    · intro hz
      have := (h z).2 (by simp [hz])
      simp only [List.mem_cons] at this
      rcases this with rfl | this
      · have := hm.1 z hz; omega
      · exact this
def place (l : List Int) (id : Int) : Nat := (l.filter (· < id)).length
def has (l : List Int) (id : Int) : Bool := l.contains id
def put (l : List Int) (id : Int) : List Int :=
  if id < 1 ∨ 1073741824 ≤ id ∨ has l id = true then l else l.take (place l id) ++ id :: l.drop (place l id)
def drop (l : List Int) (id : Int) : List Int := l.filter (· ≠ id)
def after (l : List Int) (id : Int) : List Int := l.filter (id < ·)
def both (a b : List Int) : List Int := a.filter fun x => has b x
def minus (a b : List Int) : List Int := a.filter fun x => !has b x
def either (a b : List Int) : List Int := b.foldl put a
@[simp] theorem has_iff (l : List Int) (x : Int) : has l x = true ↔ x ∈ l := by simp [has]
theorem up_filter (l : List Int) (p : Int → Bool) (h : Up l) : Up (l.filter p) := List.Pairwise.filter p h
theorem up_split (l : List Int) (id : Int) (h : Up l) : (l.filter (· < id)) = l.take (place l id) ∧ (l.filter (fun x => !decide (x < id))) = l.drop (place l id) := by
  unfold place
  induction l with
  | nil => simp
  | cons x l ih =>
    unfold Up at h
    rw [List.pairwise_cons] at h
    by_cases hx : x < id
    · have := ih h.2
      simp only [List.filter_cons, hx, decide_true, if_true, List.length_cons, List.take_succ_cons, List.drop_succ_cons, Bool.not_true, Bool.false_eq_true, if_false]
      exact ⟨congrArg _ this.1, this.2⟩
    · have e1 : l.filter (· < id) = [] := by
        rw [List.filter_eq_nil_iff]
        intro y hy
        have := h.1 y hy
        simp; omega
      have e2 : l.filter (fun x => !decide (x < id)) = l := by
        rw [List.filter_eq_self]
        intro y hy
        have := h.1 y hy
        simp; omega
      simp [hx, e1, e2]
theorem up_take_drop (l : List Int) (id : Int) (h : Up l) : (∀ x, x ∈ l.take (place l id) ↔ x ∈ l ∧ x < id) ∧ (∀ x, x ∈ l.drop (place l id) ↔ x ∈ l ∧ id ≤ x) := by
  obtain ⟨h1, h2⟩ := up_split l id h
  rw [← h1, ← h2]
  constructor
  · intro x; simp
  · intro x; simp
theorem mem_put (l : List Int) (id x : Int) (h : Up l) (h1 : 1 ≤ id) (h2 : id < 1073741824) : x ∈ put l id ↔ x = id ∨ x ∈ l := by
  unfold put
  split
  · rename_i hc
    rcases hc with hc | hc | hc
    · omega
    · omega
    · rw [has_iff] at hc
      constructor
      · exact Or.inr
      · rintro (rfl | h)
        · exact hc
        · exact h
  · obtain ⟨k1, k2⟩ := up_take_drop l id h
    simp only [List.mem_append, List.mem_cons, k1, k2]
    constructor
    · rintro (⟨h, _⟩ | h | ⟨h, _⟩)
      · exact .inr h
      · exact .inl h
      · exact .inr h
    · rintro (h | h)
      · exact .inr (.inl h)
      · by_cases hx : x < id
        · exact .inl ⟨h, hx⟩
        · exact .inr (.inr ⟨h, by omega⟩)
theorem up_put (l : List Int) (id : Int) (h : Up l) : Up (put l id) := by
  unfold put
  split
  · exact h
  · rename_i hc
    obtain ⟨k1, k2⟩ := up_take_drop l id h
    have hn : id ∉ l := by intro hm; exact hc (.inr (.inr ((has_iff _ _).2 hm)))
    unfold Up at h ⊢
    rw [List.pairwise_append]
    refine ⟨h.sublist (List.take_sublist _ _), ?_, ?_⟩
    · rw [List.pairwise_cons]
      refine ⟨fun y hy => ?_, h.sublist (List.drop_sublist _ _)⟩
      have := (k2 y).1 hy
      have : y ≠ id := fun e => hn (e ▸ this.1)
      omega
    · intro x hx y hy
      have hx' := (k1 x).1 hx
      simp only [List.mem_cons] at hy
      rcases hy with rfl | hy
      · exact hx'.2
      · have := (k2 y).1 hy; omega
theorem rise_put (l : List Int) (id : Int) (h : Rise l) : Rise (put l id) := by
  by_cases hv : 1 ≤ id ∧ id < 1073741824
  · refine ⟨up_put l id h.1, fun x hx => ?_⟩
    rcases (mem_put l id x h.1 hv.1 hv.2).1 hx with rfl | hx
    · exact hv
    · exact h.2 x hx
  · have : put l id = l := by unfold put; rw [if_pos]; omega
    rw [this]; exact h
theorem put_length (l : List Int) (id : Int) : (put l id).length ≤ l.length + 1 := by
  unfold put
  split
  · omega
  · simp; omega
def takes (k : Bool) (x : Int) : List Int := if k then [x] else []
def takeAll (k : Bool) (l : List Int) : List Int := if k then l else []
def along (kl kb kr : Bool) : List Int → List Int → List Int
  | [], b => takeAll kr b
  | x :: a, [] => takeAll kl (x :: a)
  | x :: a, y :: b =>
    if x < y then takes kl x ++ along kl kb kr a (y :: b)
    else if y < x then takes kr y ++ along kl kb kr (x :: a) b
    else takes kb x ++ along kl kb kr a b
termination_by a b => a.length + b.length
theorem drop_put (l : List Int) (id : Int) (h : Rise l) (hn : id ∉ l) : drop (put l id) id = l := by
  by_cases hv : 1 ≤ id ∧ id < 1073741824
  · refine up_ext _ _ (up_filter _ _ (up_put l id h.1)) h.1 fun x => ?_
    unfold drop
    rw [List.mem_filter, mem_put l id x h.1 hv.1 hv.2]
    by_cases hx : x = id
    · subst hx; simp [hn]
    · simp [hx]
  · have : put l id = l := by unfold put; rw [if_pos]; omega
    rw [this]
    unfold drop
    rw [List.filter_eq_self]
    intro x hx
    simp only [ne_eq, decide_not, Bool.not_eq_eq_eq_not, Bool.not_true, decide_eq_false_iff_not]
    intro e
    exact hn (e ▸ hx)
theorem drop_minus (l : List Int) (id : Int) : minus l [id] = drop l id := by
  unfold minus drop has
  congr 1
  funext x
  simp only [List.contains_cons, List.contains_nil, Bool.or_false, ne_eq, decide_not]
  by_cases h : x = id <;> simp [h]
end Go.Ofp.Ids
end
section
namespace Go.Ofp
open Go.RowKit
section
variable {w0 w w1 : World} {F : List Nat} {L : List Ch} {P : Program} {Q : Exit → Act → World → Prop} {ops : Array Oper} {fuel : Nat} {listed : Array Bool} {a a' : Act} {oi : Oper}
theorem tk (i : Nat) {v : Value} (h : wpAnyH P .any ops Q (fun w' => St w0 F L w') fuel (listed.setIfInBounds i true) a' w)
    (hi : ops[i]? = some oi := by rfl) (hok : (Region.noSelect ops && (Region.free .any ops listed i && (Region.ready .any ops listed).contains i)) = true := by kernel_rfl)
    (hQ : ∀ c a w, Q (.panic c) (a.put oi.dst v) w → Q (.panic c) a w := by exact fun _ _ _ h => h) (hw : Region.wanted oi (yielded ops a.tmps) = true := by kernel_rfl) (hS : St w0 F L w := by assumption)
    (hy : ∀ s : Cl w0 F L, (execOp a.eval oi).run P s.1 = .ok (.value v) s.1 := by (intro s; (go_simp <;> with_reducible rfl)))
    (ha : a.put oi.dst v = a' := by ((try simp only [List.getElem_toArray, List.getElem_cons_succ, List.getElem_cons_zero, Act.put, List.setIfInBounds_toArray, List.set_cons_zero, List.set_cons_succ]); rfl)) :
    wpAnyH P .any ops Q (fun w' => St w0 F L w') (fuel + 1) listed a w := by
  subst ha
  exact mixs_take i hi hok hQ hw hS hy h
theorem sk (i : Nat) (h : wpAnyH P .any ops Q (fun w' => St w0 F L w') fuel (listed.setIfInBounds i true) a' w)
    (hi : ops[i]? = some oi := by rfl) (hok : (Region.noSelect ops && (Region.free .any ops listed i && (Region.ready .any ops listed).contains i)) = true := by kernel_rfl)
    (hQ : ∀ c a w, Q (.panic c) (a.put oi.dst undef) w → Q (.panic c) a w := by exact fun _ _ _ h => h) (hw : Region.wanted oi (yielded ops a.tmps) = false := by kernel_rfl) (hS : St w0 F L w := by assumption)
    (ha : a.put oi.dst undef = a' := by ((try simp only [List.getElem_toArray, List.getElem_cons_succ, List.getElem_cons_zero, Act.put, List.setIfInBounds_toArray, List.set_cons_zero, List.set_cons_succ]); rfl)) :
    wpAnyH P .any ops Q (fun w' => St w0 F L w') (fuel + 1) listed a w := by
  subst ha
  exact mixs_skip i hi hok hQ hw hS h
theorem cl {K' : Act → World → Prop} {ls : Array Bool} (hK : Shut (∀ (L' : List Ch) a w1, (∀ x, St w0 F L' x → St w0 F L x) → St w0 F L' w1 → (St w0 F L' w1 → wpAnyH P .any ops Q (fun w' => St w0 F L' w') fuel ls a w1) → K' a w1))
    (h : St w0 F L w1 → wpAnyH P .any ops Q (fun w' => St w0 F L w') fuel ls a' w1)
    (hs : St w0 F L w1 := by first | exact hS | exact hS.drop | exact hS.drop.drop | exact hS.drop.drop.drop | exact hS.drop.drop.drop.drop | exact hS.empty | exact hS.one 0 rfl | exact hS.one 1 rfl | exact hS.one 2 rfl | exact hS.one 3 rfl | exact hS.one 4 rfl | exact hS.one 5 rfl | exact hS.one 6 rfl | exact hS.one 7 rfl | exact hS.one 8 rfl | exact hS.one 9 rfl | exact hS.one 10 rfl | exact hS.one 11 rfl | exact hS.fore2 | exact hS.fore3 | exact hS.drop.fore2 | exact hS.drop.drop.fore2 | exact hS.drop.drop.fore3 | exact hS.drop.fore3 | exact hS.toPart (by simp))
    (ha : a = a' := by ((try simp only [List.getElem_toArray, List.getElem_cons_succ, List.getElem_cons_zero, Act.put, List.setIfInBounds_toArray, List.set_cons_zero, List.set_cons_succ]); rfl)) : K' a w1 := by
  subst ha
  exact hK.out _ _ _ (fun _ h => h) hs h
end
section
variable {w0 w : World} {F : List Nat} {L L' : List Ch} {P : Program} {Q : Exit → Act → World → Prop} {ops : Array Oper} {rest : List Oper} {o : Oper} {a : Act}
theorem al (hS : St w0 F L w) (hgd : o.guard = none) {t : TypeId} (ho : o.op = .alloc t) {cs : Array Value} {size bytes : Nat} (h : ∀ g w', St w0 F (Ch.blk g t cs :: L) w' → wpList P ops Q rest (a.put o.dst (.pointer (some ⟨g, 0, none⟩))) w')
    (he : Elem P t (.agg cs) size bytes := by assumption) : wpList P ops Q (o :: rest) a w := wpList_alloc_st hS hgd ho he h
theorem ld (i : Nat) {g j T : Nat} {cs : Array Value} (hS : St w0 F L w) (hi : L[i]? = some (Ch.blk g T cs)) (hgd : o.guard = none) {t : TypeId} {x : Operand} (ho : o.op = .load t x) (hx : a.eval x = .pointer (some ⟨g, j, none⟩))
    {v : Value} (hv : cs[j]? = some v) (h : wpList P ops Q rest (a.put o.dst v) w) (hu : scalarB P t = true := by (with_unfolding_all (first | (simp [scalarB, go_sem]; done) | fail))) : wpList P ops Q (o :: rest) a w := wpList_load_st i hS hi hgd ho hx hu hv h
theorem lda (i : Nat) {g T : Nat} {cs : Array Value} (hS : St w0 F L w) (hi : L[i]? = some (Ch.blk g T cs)) (hgd : o.guard = none) {t : TypeId} {x : Operand} (ho : o.op = .load t x) (hx : a.eval x = .pointer (some ⟨g, 0, none⟩))
    (h : wpList P ops Q rest (a.put o.dst (.agg cs)) w) (hu : rowB P t = true := by (with_unfolding_all (first | (simp [rowB, go_sem]; done) | fail))) (hsz : sizeB P t cs.size = true := by kernel_rfl) : wpList P ops Q (o :: rest) a w := wpList_loadall_st i hS hi hgd ho hx hu hsz h
theorem sto (i : Nat) {g j T : Nat} {cs : Array Value} (hS : St w0 F L w) (hi : L[i]? = some (Ch.blk g T cs)) (hgd : o.guard = none) {t : TypeId} {x y : Operand} (ho : o.op = .store t x y) (hx : a.eval x = .pointer (some ⟨g, j, none⟩))
    {v : Value} (hy : Value.scal (a.eval y) = some v) (hj : Nat.ble (j + 1) cs.size = true) (h : ∀ w', St w0 F L' w' → wpList P ops Q rest (a.put o.dst undef) w')
    (hu : sizeB P t 1 = true := by kernel_rfl) (hn : L.set i (Ch.blk g T (cs.setIfInBounds j v)) = L' := by ((try simp only [List.set_cons_zero, List.set_cons_succ, List.setIfInBounds_toArray, List.take_succ_cons, List.take_zero, List.drop_succ_cons, List.drop_zero, List.nil_append, List.cons_append, List.append_nil, List.drop_nil, List.take_nil, List.length_cons, List.length_nil, Nat.zero_add, Nat.add_zero, Nat.reduceAdd]); exact rfl)) : wpList P ops Q (o :: rest) a w := wpList_store_st i hS hi hgd ho hx hu hy hj (by subst hn; exact h)
theorem stor (i : Nat) {g j T n : Nat} {cs : Array Value} (hS : St w0 F L w) (hi : L[i]? = some (Ch.blk g T cs)) (hgd : o.guard = none) {t : TypeId} {x y : Operand} (ho : o.op = .store t x y) (hx : a.eval x = .pointer (some ⟨g, j, none⟩))
    {vs : List Value} (hy : a.eval y = .agg vs.toArray) (hl : vs.length = n) (hv : vs.all Value.oneCell' = true) (hj : Nat.ble (j + n) cs.size = true) (h : ∀ w', St w0 F L' w' → wpList P ops Q rest (a.put o.dst undef) w')
    (hsz : sizeB P t n = true := by kernel_rfl) (hn : L.set i (Ch.blk g T (cs.toList.take j ++ vs ++ cs.toList.drop (j + n)).toArray) = L' := by ((try simp only [List.set_cons_zero, List.set_cons_succ, List.setIfInBounds_toArray, List.take_succ_cons, List.take_zero, List.drop_succ_cons, List.drop_zero, List.nil_append, List.cons_append, List.append_nil, List.drop_nil, List.take_nil, List.length_cons, List.length_nil, Nat.zero_add, Nat.add_zero, Nat.reduceAdd]); exact rfl)) : wpList P ops Q (o :: rest) a w := wpList_storerow_st i hS hi hgd ho hx hsz hy hl hv hj (by subst hn; exact h)
end
end Go.Ofp
end
