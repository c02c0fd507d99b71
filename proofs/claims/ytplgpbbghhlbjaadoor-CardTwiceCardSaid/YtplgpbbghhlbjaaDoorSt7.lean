/- Slices of the call's own that are shifted and cut in place: a row seen as a block, copy, append and clear within it. -/
import Derived.Test.YtplgpbbghhlbjaaDoorSt6
set_option linter.unusedSimpArgs false
set_option linter.unusedVariables false
namespace Go.Ofp
open Go.RowKit

section
variable {P : Program} {w w0 : World} {F : List Nat} {L : List Ch} {ops : Array Oper} {rest : List Oper} {o : Oper} {a : Act} {Q : Exit → Act → World → Prop} {K : Act → World → Prop}

/-- A row, seen as the block that it lies in. -/
theorem St.rowblk {e size n c g : Nat} {xs : List Value} (hS : St w0 F (Ch.row e size (.slice (some ⟨g, 0, none⟩) n c) n xs :: L) w) :
    ∃ cur : Array Value, cur.size = c * size ∧ cur.toList.take (n * size) = xs ∧ n ≤ c ∧ c ≤ maxLen ∧ St w0 F (Ch.blk g e cur :: L) w := by
  rcases (hS.get 0 rfl).2 with ⟨h, _⟩ | ⟨g', cap, cur, hv, _, hgc, hnc, hcm, hcs, htake⟩
  · cases h
  · cases hv
    exact ⟨cur, hcs, htake, hnc, hcm, hS.upd 0 rfl (Fr.refl [] w) (by simp) hgc (by simp [Ch.row, Ch.blk, Value.ownBlock])⟩
/-- The way back. -/
theorem St.blkrow2 {e n c g : Nat} {cur : Array Value} (hS : St w0 F (Ch.blk g e cur :: L) w) (size : Nat) (h1 : cur.size = c * size) (h2 : n ≤ c) (h3 : c ≤ maxLen) {xs : List Value} (hx : cur.toList.take (n * size) = xs) :
    St w0 F (Ch.row e size (.slice (some ⟨g, 0, none⟩) n c) n xs :: L) w := by
  subst hx
  refine hS.upd 0 rfl (Fr.refl [] w) (by simp) ⟨?_, .inr ⟨g, c, cur, rfl, Nat.zero_le _, hS.get 0 rfl, h2, h3, h1, rfl⟩⟩ (by simp [Ch.row, Ch.blk, Value.ownBlock])
  rw [List.length_take, Array.length_toList, h1]
  exact Nat.min_eq_left (Nat.mul_le_mul_right _ h2)

/-- A part of a block, as a slice. -/
theorem St.blkpart {g t : Nat} {cs : Array Value} (h : St w0 F L w) (i : Nat) (hi : L[i]? = some (Ch.blk g t cs)) (k m : Nat) : Sl w (some ⟨g, k, none⟩) ((cs.toList.drop k).take m) :=
  ((h.blksl i hi).drop k |> fun x => by rw [Nat.zero_add] at x; exact x.take m)

theorem run_copy_blk (w : World) (t tx ty e : TypeId) (ht : P.underlying t = some (.slice e)) {z : Value} {size bytes : Nat} (he : Elem P e z size bytes)
    {g off nd c m cm k : Nat} {ad : Option Addr} {cs : Array Value} {news : List Value} (hw : Whole w g e cs) (hsl : Sl w ad news) (hk : Nat.min m nd = k) (hl : news.length = k * size) (h1 : ∀ u ∈ news, u.oneCell' = true) (hfit : off + k * size ≤ cs.size) :
    ∃ w', (Builtin.copy_ #[t, tx] ty #[.slice (some ⟨g, off, none⟩) nd c, .slice ad m cm]).run P w = .ok (.int .i64 k) w' ∧ Whole w' g e (cs.toList.take off ++ news ++ cs.toList.drop (off + k * size)).toArray ∧ Fr [g] w w' := by
  obtain ⟨i, hi, hz, rfl, rfl, hzs, hpos⟩ := he
  have hcells : (Builtin.firstCells i.size k (.slice ad m cm)).run P w = .ok news.toArray w := by
    have e : Builtin.firstCells i.size k (.slice ad m cm) = Builtin.firstCells i.size k (.slice ad k cm) := by cases ad <;> rfl
    rw [e]
    exact (Src.slice (P := P) (c := cm) ht hsl hl).cells w (fun _ => rfl)
  obtain ⟨k1, k2, k3⟩ := Whole.setCells (P := P) (j := off) hw news (by rw [hl]; exact hfit) h1
  rw [hl] at k1 k2 k3
  refine ⟨_, ?_, k2, k3⟩
  subst hk
  simp [Builtin.copy_, run_underlying ht, sizeOf, typeInfo, hi, Builtin.lenOf, hcells, k1, goInt]

theorem wpList_copyblk_st (i : Nat) {g off nd c m cm k T : Nat} {cs : Array Value} (hS : St w0 F L w) (hi : L[i]? = some (Ch.blk g T cs)) (hgd : o.guard = none) {s x : Operand} {t tx : TypeId} (ho : o.op = .call { callee := .builtin .copy, args := #[s, x], argTypes := #[t, tx] })
    (ht : P.underlying t = some (.slice T)) {z : Value} {size bytes : Nat} (he : Elem P T z size bytes) (hs : a.eval s = .slice (some ⟨g, off, none⟩) nd c) {ad : Option Addr} (hx : a.eval x = .slice ad m cm) {news : List Value} (hsl : Sl w ad news) (hk : Nat.min m nd = k) (hl : news.length = k * size) (h1 : ∀ u ∈ news, u.oneCell' = true) (hfit : off + k * size ≤ cs.size)
    (h : ∀ w', St w0 F (L.set i (Ch.blk g T (cs.toList.take off ++ news ++ cs.toList.drop (off + k * size)).toArray)) w' → wpList P ops Q rest (a.put o.dst (.int .i64 k)) w') : wpList P ops Q (o :: rest) a w := by
  refine wpList_plain hgd fun K hK => ?_
  obtain ⟨w', hr, h2, h3⟩ := run_copy_blk (c := c) (cm := cm) w t tx o.type T ht he (hS.get i hi) hsl hk hl h1 hfit
  unfold Oper.wp execOp
  simp only [ho, resolve, invoke, builtin, Sem.run_bind, Sem.run_pure, Result.andThen_ok, List.map_toArray, List.map_cons, List.map_nil, hs, hx, hr]
  exact hK _ _ (h w' (hS.upd i hi h3 (by simp [Ch.blk]) h2 (by simp [Ch.blk])))

theorem op_copyblk_st (hw : Region.wanted o (yielded ops a.tmps) = true) (i : Nat) {g off nd c m cm k T : Nat} {cs : Array Value} (hS : St w0 F L w) (hi : L[i]? = some (Ch.blk g T cs)) {s x : Operand} {t tx : TypeId} (ho : o.op = .call { callee := .builtin .copy, args := #[s, x], argTypes := #[t, tx] })
    (ht : P.underlying t = some (.slice T)) {z : Value} {size bytes : Nat} (he : Elem P T z size bytes) (hs : a.eval s = .slice (some ⟨g, off, none⟩) nd c) {ad : Option Addr} (hx : a.eval x = .slice ad m cm) {news : List Value} (hsl : Sl w ad news) (hk : Nat.min m nd = k) (hl : news.length = k * size) (h1 : ∀ u ∈ news, u.oneCell' = true) (hfit : off + k * size ≤ cs.size)
    (h : ∀ w', St w0 F (L.set i (Ch.blk g T (cs.toList.take off ++ news ++ cs.toList.drop (off + k * size)).toArray)) w' → K (a.put o.dst (.int .i64 k)) w') : if Region.wanted o (yielded ops a.tmps) = true then Oper.wp P o a w K Q else K (a.put o.dst undef) w := by
  rw [if_pos hw]
  obtain ⟨w', hr, h2, h3⟩ := run_copy_blk (c := c) (cm := cm) w t tx o.type T ht he (hS.get i hi) hsl hk hl h1 hfit
  unfold Oper.wp execOp
  simp only [ho, resolve, invoke, builtin, Sem.run_bind, Sem.run_pure, Result.andThen_ok, List.map_toArray, List.map_cons, List.map_nil, hs, hx, hr]
  exact h w' (hS.upd i hi h3 (by simp [Ch.blk]) h2 (by simp [Ch.blk]))

/-- append within a block. -/
theorem run_app_blk (w : World) (t tx ty e : TypeId) (ht : P.underlying t = some (.slice e)) (htx : P.underlying tx = some (.slice e)) {z : Value} {size bytes : Nat} (he : Elem P e z size bytes)
    {g n c m cm : Nat} {ad : Option Addr} {cs : Array Value} {news : List Value} (hw : Whole w g e cs) (hsl : Sl w ad news) (hl : news.length = m * size) (h1 : ∀ u ∈ news, u.oneCell' = true) (hroom : n + m ≤ c) (hcs : cs.size = c * size) :
    ∃ w', (Builtin.append_ #[t, tx] ty #[.slice (some ⟨g, 0, none⟩) n c, .slice ad m cm]).run P w = .ok (.slice (some ⟨g, 0, none⟩) (n + m) c) w' ∧ Whole w' g e (cs.toList.take (n * size) ++ news ++ cs.toList.drop (n * size + m * size)).toArray ∧ Fr [g] w w' := by
  obtain ⟨i, hi, hz, rfl, rfl, hzs, hpos⟩ := he
  have hcells : (Builtin.firstCells i.size m (.slice ad m cm)).run P w = .ok news.toArray w := (Src.slice (P := P) (c := cm) ht hsl hl).cells w (fun _ => rfl)
  have hfit : n * i.size + news.length ≤ cs.size := by rw [hl, hcs, ← Nat.add_mul]; exact Nat.mul_le_mul_right _ hroom
  obtain ⟨k1, k2, k3⟩ := Whole.setCells (P := P) (j := n * i.size) hw news hfit h1
  rw [hl] at k1 k2 k3
  refine ⟨_, ?_, k2, k3⟩
  simp [Builtin.append_, run_underlying ht, run_underlying htx, sizeOf, typeInfo, hi, Builtin.lenOf, hroom, hcells, Addr.add_lit, k1]

theorem wpList_appblk_st (i : Nat) {g n c m cm T : Nat} {cs : Array Value} (hS : St w0 F L w) (hi : L[i]? = some (Ch.blk g T cs)) (hgd : o.guard = none) {s x : Operand} {t tx : TypeId} (ho : o.op = .call { callee := .builtin .append, args := #[s, x], argTypes := #[t, tx] })
    (ht : P.underlying t = some (.slice T)) (htx : P.underlying tx = some (.slice T)) {z : Value} {size bytes : Nat} (he : Elem P T z size bytes) (hs : a.eval s = .slice (some ⟨g, 0, none⟩) n c) {ad : Option Addr} (hx : a.eval x = .slice ad m cm) {news : List Value} (hsl : Sl w ad news) (hl : news.length = m * size) (h1 : ∀ u ∈ news, u.oneCell' = true) (hroom : n + m ≤ c) (hcs : cs.size = c * size)
    (h : ∀ w', St w0 F (L.set i (Ch.blk g T (cs.toList.take (n * size) ++ news ++ cs.toList.drop (n * size + m * size)).toArray)) w' → wpList P ops Q rest (a.put o.dst (.slice (some ⟨g, 0, none⟩) (n + m) c)) w') : wpList P ops Q (o :: rest) a w := by
  refine wpList_plain hgd fun K hK => ?_
  obtain ⟨w', hr, h2, h3⟩ := run_app_blk (cm := cm) w t tx o.type T ht htx he (hS.get i hi) hsl hl h1 hroom hcs
  unfold Oper.wp execOp
  simp only [ho, resolve, invoke, builtin, Sem.run_bind, Sem.run_pure, Result.andThen_ok, List.map_toArray, List.map_cons, List.map_nil, hs, hx, hr]
  exact hK _ _ (h w' (hS.upd i hi h3 (by simp [Ch.blk]) h2 (by simp [Ch.blk])))

theorem op_appblk_st (hw : Region.wanted o (yielded ops a.tmps) = true) (i : Nat) {g n c m cm T : Nat} {cs : Array Value} (hS : St w0 F L w) (hi : L[i]? = some (Ch.blk g T cs)) {s x : Operand} {t tx : TypeId} (ho : o.op = .call { callee := .builtin .append, args := #[s, x], argTypes := #[t, tx] })
    (ht : P.underlying t = some (.slice T)) (htx : P.underlying tx = some (.slice T)) {z : Value} {size bytes : Nat} (he : Elem P T z size bytes) (hs : a.eval s = .slice (some ⟨g, 0, none⟩) n c) {ad : Option Addr} (hx : a.eval x = .slice ad m cm) {news : List Value} (hsl : Sl w ad news) (hl : news.length = m * size) (h1 : ∀ u ∈ news, u.oneCell' = true) (hroom : n + m ≤ c) (hcs : cs.size = c * size)
    (h : ∀ w', St w0 F (L.set i (Ch.blk g T (cs.toList.take (n * size) ++ news ++ cs.toList.drop (n * size + m * size)).toArray)) w' → K (a.put o.dst (.slice (some ⟨g, 0, none⟩) (n + m) c)) w') : if Region.wanted o (yielded ops a.tmps) = true then Oper.wp P o a w K Q else K (a.put o.dst undef) w := by
  rw [if_pos hw]
  obtain ⟨w', hr, h2, h3⟩ := run_app_blk (cm := cm) w t tx o.type T ht htx he (hS.get i hi) hsl hl h1 hroom hcs
  unfold Oper.wp execOp
  simp only [ho, resolve, invoke, builtin, Sem.run_bind, Sem.run_pure, Result.andThen_ok, List.map_toArray, List.map_cons, List.map_nil, hs, hx, hr]
  exact h w' (hS.upd i hi h3 (by simp [Ch.blk]) h2 (by simp [Ch.blk]))

theorem zeroCells_len (z : Array Value) (n : Nat) : (Builtin.zeroCells z n).toList.length = n * z.size := by simp [Builtin.zeroCells]
theorem zeroCells_mem (z : Array Value) (n : Nat) (h : ∀ u ∈ z, u.oneCell' = true) (hz : 0 < z.size) : ∀ u ∈ (Builtin.zeroCells z n).toList, u.oneCell' = true := by
  intro u hu
  simp only [Builtin.zeroCells, Array.toList_map, List.mem_map] at hu
  obtain ⟨i, _, rfl⟩ := hu
  have hlt : i % z.size < z.size := Nat.mod_lt _ hz
  rw [getElem!_pos z (i % z.size) hlt]
  exact h _ (Array.getElem_mem hlt)

/-- append of zero values to a slice that has no room. -/
theorem run_app_zeros (w : World) (t tx ty e : TypeId) (ht : P.underlying t = some (.slice e)) {kn : IntKind} (htx : P.underlying tx = some (.int kn)) {z : Value} {size bytes : Nat} (he : Elem P e z size bytes)
    {ad : Option Addr} {n cap : Nat} {xs : List Value} (hs : Sl w ad xs) (hn : xs.length = n * size) {m : Nat} (hm : 0 < m) (hg : cap < n + m) (hb : (n + m) * bytes ≤ 140737488355328) (h63 : n + m ≤ maxLen) (hm2 : (m : Int) * (bytes : Int) ≤ 140737488355328) :
    ∃ c' w', (Builtin.append_ #[t, tx] ty #[.slice ad n cap, .int .i64 m]).run P w = .ok (.slice (some ⟨w.heap.size, 0, none⟩) (n + m) c') w' ∧ w'.ownsRow w.heap.size e size (.slice (some ⟨w.heap.size, 0, none⟩) (n + m) c') (n + m) (xs ++ (Builtin.zeroCells z.cells m).toList) ∧ Fr [] w w' := by
  obtain ⟨i, hi, hz, rfl, rfl, hzs, hpos⟩ := he
  have hold : (Builtin.firstCells i.size n (.slice ad n cap)).run P w.drew = .ok xs.toArray w.drew := (Src.slice ht (hs.same (w' := w.drew) (fun _ => rfl)) hn (c := cap)).cells _ (fun _ => rfl)
  have hroom : ¬ (n + m ≤ cap) := by omega
  have h63' : ¬ (9223372036854775807 < ((n : Int) + (m : Int))) := by simp only [maxLen] at h63; omega
  have hfit := growslice_fits hg hb
  have h48' : ¬ (281474976710656 < Builtin.nextslicecap (n + m) cap * i.bytes) := by omega
  have hge := grownCap_ge w (n + m) cap e
  have hcm : grownCap w (n + m) cap e ≤ maxLen := grownCap_le_maxLen w (n + m) cap e h63
  have hwrap : IntKind.i64.wrap (m : Int) = (m : Int) := IntWalk.i64_in _ (by simp only [maxLen] at h63; omega)
  have hneg : ¬ ((m : Int) < 0) := by omega
  have hbig : ¬ (281474976710656 < (m : Int) * (i.bytes : Int)) := by omega
  have hne : ¬ (m * i.size = 0) := by have := Nat.mul_pos hm hpos; omega
  have hne2 : ¬ (m = 0) := by omega
  have hzl : (Builtin.zeroCells z.cells m).size = m * i.size := by simp [Builtin.zeroCells, hzs]
  refine ⟨grownCap w (n + m) cap e, w.drew.alloc (.cells (xs.toArray ++ Builtin.zeroCells z.cells m ++ Builtin.zeroCells z.cells (grownCap w (n + m) cap e - (n + m))) e), ?_, ⟨?_, .inr ⟨w.heap.size, _, _, rfl, Nat.le_refl _, heap_alloc_new w.drew _, hge, hcm, ?_, ?_⟩⟩, ⟨rfl, rfl, rfl, by simp, fun k hk _ => heap_alloc_old w.drew _ hk⟩⟩
  · simp [Builtin.append_, run_underlying ht, run_underlying htx, sizeOf, typeInfo, zeroValue, hi, hz, asInt, asIntOf, hwrap, hneg, hbig, hroom, h63', h48', Question.forced, hne2, hold, newRow, grownCap]
    intro h0
    exact absurd h0 hne
  · rw [List.length_append, zeroCells_len, hzs, hn, Nat.add_mul]
  · simp only [Array.size_append, List.size_toArray, size_zeroCells, hzs, hn, ← Nat.add_mul]
    congr 1
    omega
  · have e1 : (xs ++ (Builtin.zeroCells z.cells m).toList).length = (n + m) * i.size := by rw [List.length_append, zeroCells_len, hzs, hn, Nat.add_mul]
    simp only [Array.toList_append]
    rw [← e1]
    exact List.take_left

theorem wpList_appzeros_st (hS : St w0 F L w) (hgd : o.guard = none) {s x : Operand} {t tx : TypeId} (ho : o.op = .call { callee := .builtin .append, args := #[s, x], argTypes := #[t, tx] })
    {e : TypeId} (ht : P.underlying t = some (.slice e)) {kn : IntKind} (htx : P.underlying tx = some (.int kn)) {z : Value} {size bytes : Nat} (he : Elem P e z size bytes)
    {ad : Option Addr} {n cap m : Nat} (hs : a.eval s = .slice ad n cap) {M : Int} (hx : a.eval x = .int .i64 M) (hM : M = (m : Int)) {xs : List Value} (hsl : Sl w ad xs) (hn : xs.length = n * size) (hm : 0 < m) (hg : cap < n + m) (hb : (n + m) * bytes ≤ 140737488355328) (h63 : n + m ≤ maxLen) (hm2 : (m : Int) * (bytes : Int) ≤ 140737488355328)
    (h : ∀ g c' w', St w0 F (Ch.row e size (.slice (some ⟨g, 0, none⟩) (n + m) c') (n + m) (xs ++ (Builtin.zeroCells z.cells m).toList) :: L) w' → wpList P ops Q rest (a.put o.dst (.slice (some ⟨g, 0, none⟩) (n + m) c')) w') : wpList P ops Q (o :: rest) a w := by
  refine wpList_plain hgd fun K hK => ?_
  subst hM
  obtain ⟨c', w', hr, h2, h3⟩ := run_app_zeros w t tx o.type e ht htx he hsl hn hm hg hb h63 hm2
  unfold Oper.wp execOp
  simp only [ho, resolve, invoke, builtin, Sem.run_bind, Sem.run_pure, Result.andThen_ok, List.map_toArray, List.map_cons, List.map_nil, hs, hx, hr]
  exact hK _ _ (h _ c' w' (hS.fresh h3 h2))

/-- clear of a part of a block. -/
theorem run_clear_blk (w : World) (t ty e : TypeId) (ht : P.underlying t = some (.slice e)) {z : Value} {size bytes : Nat} (he : Elem P e z size bytes) (hz1 : ∀ u ∈ z.cells, u.oneCell' = true)
    {g off n c : Nat} {cs : Array Value} (hw : Whole w g e cs) (hfit : off + n * size ≤ cs.size) (hn : 0 < n) :
    ∃ w' cs', (Builtin.clear_ #[t] ty #[.slice (some ⟨g, off, none⟩) n c]).run P w = .ok (.tuple #[]) w' ∧ Whole w' g e cs' ∧ cs'.size = cs.size ∧ cs'.toList.take off = cs.toList.take off ∧ Fr [g] w w' := by
  obtain ⟨i, hi, hz, rfl, rfl, hzs, hpos⟩ := he
  have hl := zeroCells_len z.cells n
  rw [hzs] at hl
  obtain ⟨k1, k2, k3⟩ := Whole.setCells (P := P) (j := off) hw (Builtin.zeroCells z.cells n).toList (by rw [hl]; exact hfit) (zeroCells_mem _ _ hz1 (by omega))
  rw [hl] at k1 k2 k3
  obtain ⟨n, rfl⟩ : ∃ k, n = k + 1 := ⟨n - 1, by omega⟩
  refine ⟨_, _, ?_, k2, ?_, ?_, k3⟩
  · simp [Builtin.clear_, run_underlying ht, typeInfo, zeroValue, hi, hz, k1]
  · simp only [List.size_toArray, List.length_append, List.length_take, List.length_drop, Array.length_toList, hl]
    omega
  · rw [List.append_assoc, List.take_append_of_le_length (by simp; omega), List.take_take, Nat.min_self]

theorem wpList_clearblk_st (i : Nat) {g off n c T : Nat} {cs : Array Value} (hS : St w0 F L w) (hi : L[i]? = some (Ch.blk g T cs)) (hgd : o.guard = none) {s : Operand} {t : TypeId} (ho : o.op = .call { callee := .builtin .clear, args := #[s], argTypes := #[t] })
    (ht : P.underlying t = some (.slice T)) {z : Value} {size bytes : Nat} (he : Elem P T z size bytes) (hz1 : ∀ u ∈ z.cells, u.oneCell' = true) (hs : a.eval s = .slice (some ⟨g, off, none⟩) n c) (hfit : off + n * size ≤ cs.size) (hn : 0 < n)
    (h : ∀ w' cs', cs'.size = cs.size → cs'.toList.take off = cs.toList.take off → St w0 F (L.set i (Ch.blk g T cs')) w' → wpList P ops Q rest (a.put o.dst (.tuple #[])) w') : wpList P ops Q (o :: rest) a w := by
  refine wpList_plain hgd fun K hK => ?_
  obtain ⟨w', cs', hr, h2, h3, h4, h5⟩ := run_clear_blk (c := c) w t o.type T ht he hz1 (hS.get i hi) hfit hn
  unfold Oper.wp execOp
  simp only [ho, resolve, invoke, builtin, Sem.run_bind, Sem.run_pure, Result.andThen_ok, List.map_toArray, List.map_cons, List.map_nil, hs, hr]
  exact hK _ _ (h w' cs' h3 h4 (hS.upd i hi h5 (by simp [Ch.blk]) h2 (by simp [Ch.blk])))
end
end Go.Ofp
