import Derived.Test.YtkbekagmfbgefaaRows
import Derived.WalkKit
import Derived.BigQuiet
import Derived.Lib.Hide
import Derived.WalkSmall
import Derived.Laws.IdiomCopy
import Derived.Deep.LoopGhost
import Derived.Deep.CutBlock
import Derived.Deep.DeepCutAuto
import Derived.Deep.QuietTactic
import Derived.WalkLawsBesides
import Derived.WalkSpells
import Derived.StillTailTactics
import Derived.Deep.RegionHeld
set_option linter.unusedVariables false
set_option linter.unusedSimpArgs false
set_option maxRecDepth 100000
section
namespace Go.Ofp
open Go.RowKit
def Sl (w : World) (a : Option Addr) (xs : List Value) : Prop :=
  ∀ i (h : i < xs.length), ∃ b off, a = some ⟨b, off, none⟩ ∧ w.cell? ⟨b, off + i, none⟩ = some xs[i]
def vb (b : UInt8) : Value := .int .u8 b.toNat
theorem Sl.nil (w : World) (a : Option Addr) : Sl w a [] := fun i h => absurd h (by simp)
theorem Sl.below {w w' : World} {a : Option Addr} {xs : List Value} (h : Sl w a xs) (hb : Below w.heap.size w w') : Sl w' a xs := by
  intro i hi
  obtain ⟨b, off, ha, hc⟩ := h i hi
  exact ⟨b, off, ha, by rw [hb.cell (World.block_lt_of_cell? w _ hc)]; exact hc⟩
theorem Sl.get {w : World} {a : Option Addr} {l : List UInt8} (h : Sl w a (l.map vb)) (i : Nat) (hi : i < l.length) :
    ∃ b off, a = some ⟨b, off, none⟩ ∧ w.cell? ⟨b, off + i, none⟩ = some (.int .u8 (l[i].toNat : Int)) := by
  obtain ⟨b, off, ha, hc⟩ := h i (by simpa using hi)
  exact ⟨b, off, ha, by simpa [vb] using hc⟩
theorem Sl.add {w : World} {b off : Nat} {xs : List Value} (h : Sl w (some ⟨b, off, none⟩) xs) : ∀ j u, xs[j]? = some u → w.cell? ((⟨b, off, none⟩ : Addr).add j) = some u := by
  intro j u hu
  obtain ⟨hj, rfl⟩ := List.getElem?_eq_some_iff.1 hu
  obtain ⟨b', off', ha, hc⟩ := h j hj
  obtain ⟨rfl, rfl⟩ : b = b' ∧ off = off' := by simpa using ha
  rw [Addr.add_lit]
  exact hc
theorem Sl.cells {w : World} {a : Option Addr} {xs : List Value} (h : Sl w a xs) (hne : xs ≠ []) : ∃ b off, a = some ⟨b, off, none⟩ := by
  obtain ⟨b, off, ha, _⟩ := h 0 (List.length_pos_iff.2 hne)
  exact ⟨b, off, ha⟩
theorem Sl.same {w w' : World} {a : Option Addr} {xs : List Value} (h : Sl w a xs) (hc : ∀ p, w'.cell? p = w.cell? p) : Sl w' a xs := by
  intro i hi
  obtain ⟨b, off, ha, e⟩ := h i hi
  exact ⟨b, off, ha, by rw [hc]; exact e⟩
theorem below_step {u v w : World} (h : Below u.heap.size u v) (k : Below v.heap.size v w) : Below u.heap.size u w := h.trans (k.mono h.size)
theorem Sl.take {w : World} {a : Option Addr} {xs : List Value} (h : Sl w a xs) (k : Nat) : Sl w a (xs.take k) := by
  intro i hi
  have hi' : i < xs.length := by rw [List.length_take] at hi; omega
  obtain ⟨b, off, ha, e⟩ := h i hi'
  exact ⟨b, off, ha, by rw [List.getElem_take]; exact e⟩
theorem Sl.left {w : World} {a : Option Addr} {xs ys : List Value} (h : Sl w a (xs ++ ys)) : Sl w a xs := by
  have := h.take xs.length
  rwa [List.take_left] at this
/-! ### What an append or a copy takes its new elements from -/
structure Src (P : Program) (w : World) (t : TypeId) (x : Value) (size m : Nat) (news : List Value) : Prop where
  kind : ∃ u, P.underlying t = some u ∧ ∀ k, u ≠ .int k
  len : Builtin.lenOf x = pure m
  cells : ∀ W : World, (∀ p, W.cell? p = w.cell? p) → (Builtin.firstCells size m x).run P W = .ok news.toArray W
  many : news.length = m * size
theorem Src.slice {P : Program} {w : World} {t e : TypeId} (ht : P.underlying t = some (.slice e)) {a : Option Addr} {m c size : Nat} {news : List Value} (h : Sl w a news) (hl : news.length = m * size) :
    Src P w t (.slice a m c) size m news where
  kind := ⟨_, ht, fun k => by simp⟩
  len := rfl
  many := hl
  cells := by
    intro W hW
    by_cases hn : news = []
    · subst hn
      cases a with
      | none => exact run_firstCells_none W _ _ _ _
      | some b => exact run_firstCells_some W size m b m c [] hl (by simp)
    · obtain ⟨b, off, rfl⟩ := h.cells hn
      exact run_firstCells_some W size m _ m c news hl (h.same hW).add
theorem Src.string {P : Program} (w : World) {t : TypeId} (ht : P.underlying t = some .string) (s : ByteArray) : Src P w t (.string s) 1 s.size (s.data.toList.map vb) where
  kind := ⟨_, ht, fun k => by simp⟩
  len := rfl
  many := by simp
  cells := by
    intro W _
    have hx : s.extract 0 s.size = s := by simp
    simp only [Builtin.firstCells, hx]
    show Result.ok _ W = _
    congr 1
    apply Array.ext'
    simp [vb]
def Elem (P : Program) (e : TypeId) (z : Value) (size bytes : Nat) : Prop := ∃ i, P.info? e = some i ∧ i.zero = some z ∧ i.size = size ∧ i.bytes = bytes ∧ z.cells.size = size ∧ 0 < size
theorem Elem.mk {P : Program} {e : TypeId} {z : Value} {size bytes : Nat} (h : (P.info? e).map (fun i => (i.zero, i.size, i.bytes)) = some (some z, size, bytes)) (h1 : z.cells.size = size) (h2 : 0 < size) : Elem P e z size bytes := by
  obtain ⟨i, hi, hz, hs, hb⟩ := info_parts h
  exact ⟨i, hi, hz, hs, hb, h1, h2⟩
theorem run_app_grow {P : Program} (w : World) (t tx ty e : TypeId) (ht : P.underlying t = some (.slice e)) {z : Value} {size bytes : Nat} (he : Elem P e z size bytes)
    {a : Option Addr} {n cap : Nat} {xs : List Value} (hs : Sl w a xs) (hn : xs.length = n * size) {x : Value} {m : Nat} {news : List Value} (hx : Src P w tx x size m news)
    (hg : cap < n + m) (hb : (n + m) * bytes ≤ 140737488355328) (h63 : n + m ≤ maxLen) (base : Nat) (hbase : base ≤ w.heap.size) :
    ∃ v' w', (Builtin.append_ #[t, tx] ty #[.slice a n cap, x]).run P w = .ok v' w' ∧ w'.ownsRow base e size v' (n + m) (xs ++ news) ∧ (∀ row, w.grownBy w' row) ∧ v'.ownBlock = some w.heap.size := by
  obtain ⟨i, hi, hz, rfl, rfl, hzs, hpos⟩ := he
  obtain ⟨u, hu, hk⟩ := hx.kind
  have hcells := hx.cells w.drew (fun _ => rfl)
  have hold : (Builtin.firstCells i.size n (.slice a n cap)).run P w.drew = .ok xs.toArray w.drew := (Src.slice ht (hs.same (w' := w.drew) (fun _ => rfl)) hn (c := cap)).cells _ (fun _ => rfl)
  have hroom : ¬ (n + m ≤ cap) := by omega
  have h63' : ¬ (9223372036854775807 < ((n : Int) + (m : Int))) := by simp only [maxLen] at h63; omega
  have hfit := growslice_fits hg hb
  have h48' : ¬ (281474976710656 < Builtin.nextslicecap (n + m) cap * i.bytes) := by omega
  have hlen : (xs ++ news).length = (n + m) * i.size := by rw [List.length_append, hn, hx.many, Nat.add_mul]
  have hge := grownCap_ge w (n + m) cap e
  have hcm : grownCap w (n + m) cap e ≤ maxLen := grownCap_le_maxLen w (n + m) cap e h63
  refine ⟨.slice (some ⟨w.heap.size, 0, none⟩) (n + m) (grownCap w (n + m) cap e),
    w.drew.alloc (.cells (xs.toArray ++ news.toArray ++ Builtin.zeroCells z.cells (grownCap w (n + m) cap e - (n + m))) e), ?_, ?_, ?_, rfl⟩
  · simp [Builtin.append_, run_underlying ht, run_underlying hu, sizeOf, typeInfo, zeroValue, hi, hz, hx.len, hroom, h63', h48', Question.forced, hcells, hold, newRow, grownCap]
    congr 2
    apply Array.ext'
    simp [List.append_assoc]
  · refine ⟨hlen, .inr ⟨w.heap.size, _, _, rfl, hbase, heap_alloc_new w.drew _, hge, hcm, ?_, ?_⟩⟩
    · simp only [Array.size_append, List.size_toArray, size_zeroCells, hzs, hn, hx.many, ← Nat.add_mul]
      congr 1
      omega
    · simp only [Array.toList_append, List.append_assoc]
      rw [← List.append_assoc, ← hlen]
      exact List.take_left
  · intro row
    exact ⟨rfl, rfl, rfl, by simp, fun k hk _ => heap_alloc_old w.drew _ hk⟩
theorem run_app {P : Program} (w : World) (t tx ty e : TypeId) (ht : P.underlying t = some (.slice e)) {z : Value} {size bytes : Nat} (he : Elem P e z size bytes)
    {v : Value} {n base : Nat} {xs : List Value} (hown : w.ownsRow base e size v n xs) {x : Value} {m : Nat} {news : List Value} (hx : Src P w tx x size m news) (h1 : ∀ u ∈ news, u.oneCell' = true)
    (hb : (n + m) * bytes ≤ 140737488355328) (h63 : n + m ≤ maxLen) (hbase : base ≤ w.heap.size) :
    ∃ v' w', (Builtin.append_ #[t, tx] ty #[v, x]).run P w = .ok v' w' ∧ w'.ownsRow base e size v' (n + m) (xs ++ news) ∧ w.grownBy w' v.ownBlock ∧ (v'.ownBlock = v.ownBlock ∨ v'.ownBlock = some w.heap.size) := by
  rcases hown.2 with ⟨rfl, rfl⟩ | ⟨g, cap, cur, rfl, hbg, hgc, hnc, hcm, hcs, htake⟩
  · have hxs : xs = [] := List.eq_nil_of_length_eq_zero (by simpa using hown.1)
    subst hxs
    by_cases hm : m = 0
    · subst hm
      have hnews : news = [] := List.eq_nil_of_length_eq_zero (by simpa using hx.many)
      subst hnews
      obtain ⟨i, hi, hz, rfl, rfl, hzs, hpos⟩ := he
      obtain ⟨u, hu, hk⟩ := hx.kind
      have hcells := hx.cells w (fun _ => rfl)
      refine ⟨.slice none 0 0, w, ?_, World.ownsRow_nil w base e i.size, ⟨rfl, rfl, rfl, Nat.le_refl _, fun _ _ _ => rfl⟩, .inl rfl⟩
      simp [Builtin.append_, run_underlying ht, run_underlying hu, sizeOf, typeInfo, hi, hx.len, hcells]
    · obtain ⟨v', w', h1, h2, h3, h4⟩ := run_app_grow w t tx ty e ht he (Sl.nil w none) (n := 0) (cap := 0) (by simp) hx (by omega) hb h63 base hbase
      exact ⟨v', w', h1, h2, h3 _, .inr h4⟩
  · by_cases hroom : n + m ≤ cap
    · obtain ⟨i, hi, hz, rfl, rfl, hzs, hpos⟩ := he
      obtain ⟨u, hu, hk⟩ := hx.kind
      have hcells := hx.cells w (fun _ => rfl)
      have hlen : (xs ++ news).length = (n + m) * i.size := by rw [List.length_append, hown.1, hx.many, Nat.add_mul]
      have hfit : n * i.size + news.length ≤ cur.size := by rw [hx.many, hcs, ← Nat.add_mul]; exact Nat.mul_le_mul_right _ hroom
      have hst := run_storeCells_at P g (n * i.size) e news 0 cur w hgc (by simpa using hfit) h1
      simp only [Nat.add_zero] at hst
      refine ⟨.slice (some ⟨g, 0, none⟩) (n + m) cap, w.setRow g (cur.toList.take (n * i.size) ++ news ++ cur.toList.drop (n * i.size + news.length)).toArray, ?_, ⟨hlen, .inr ⟨g, cap, _, rfl, hbg, setRow_heap w g cur _ e _ hgc, hroom, hcm, ?_, ?_⟩⟩,
        ⟨rfl, rfl, rfl, by simp, fun k _ hk => setRow_other w g k _ (fun e => hk (by simp [Value.ownBlock, e]))⟩, .inl rfl⟩
      · simp [Builtin.append_, run_underlying ht, run_underlying hu, sizeOf, typeInfo, hi, hx.len, hroom, hcells, Addr.add_lit, hst]
      · simp only [List.size_toArray, List.length_append, List.length_take, List.length_drop, Array.length_toList]
        omega
      · rw [htake, ← hlen]
        exact List.take_left
    · have hsl : Sl w (some ⟨g, 0, none⟩) xs := by
        intro j hj
        have := hown.cells (g := g) rfl j _ (List.getElem?_eq_getElem hj)
        rw [Addr.add_lit] at this
        exact ⟨g, 0, rfl, this⟩
      obtain ⟨v', w', h1, h2, h3, h4⟩ := run_app_grow w t tx ty e ht he hsl (n := n) (cap := cap) hown.1 hx (by omega) hb h63 base hbase
      exact ⟨v', w', h1, h2, h3 _, .inr h4⟩
theorem owns_sl {w : World} {base e size n : Nat} {v : Value} {xs : List Value} (h : w.ownsRow base e size v n xs) : ∃ a cap, v = .slice a n cap ∧ Sl w a xs ∧ xs.length = n * size ∧ n ≤ cap ∧ cap ≤ maxLen := by
  rcases h.2 with ⟨rfl, rfl⟩ | ⟨g, cap, cur, rfl, _, _, hn, hm, _⟩
  · exact ⟨none, 0, rfl, by rw [List.eq_nil_of_length_eq_zero (show xs.length = 0 by simpa using h.1)]; exact Sl.nil _ _, h.1, Nat.le_refl _, Nat.zero_le _⟩
  · refine ⟨_, cap, rfl, fun j hj => ⟨g, 0, rfl, ?_⟩, h.1, hn, hm⟩
    have := h.cells (g := g) rfl j _ (List.getElem?_eq_getElem hj)
    rw [Addr.add_lit] at this
    exact this
section
variable {P : Program} {w : World} {ops : Array Oper} {rest : List Oper} {o : Oper} {a : Act} {Q : Exit → Act → World → Prop}
theorem wpList_app (hgd : o.guard = none) {s x : Operand} {t tx : TypeId} (ho : o.op = .call { callee := .builtin .append, args := #[s, x], argTypes := #[t, tx] })
    {e : TypeId} (ht : P.underlying t = some (.slice e)) {z : Value} {size bytes : Nat} (he : Elem P e z size bytes) {v : Value} {n base : Nat} {xs : List Value} (hown : w.ownsRow base e size v n xs) (hs : a.eval s = v)
    {xv : Value} {m : Nat} {news : List Value} (hx : Src P w tx xv size m news) (hxv : a.eval x = xv) (h1 : ∀ u ∈ news, u.oneCell' = true)
    (hb : (n + m) * bytes ≤ 140737488355328) (h63 : n + m ≤ maxLen) (hbase : base ≤ w.heap.size)
    (h : ∀ v' w', w'.ownsRow base e size v' (n + m) (xs ++ news) → Below base w w' → w.grownBy w' v.ownBlock → (v'.ownBlock = v.ownBlock ∨ v'.ownBlock = some w.heap.size) → wpList P ops Q rest (a.put o.dst v') w') : wpList P ops Q (o :: rest) a w := by
  refine wpList_plain hgd fun K hK => ?_
  obtain ⟨v', w', hr, h2, h3, h4⟩ := run_app w t tx o.type e ht he hown hx h1 hb h63 hbase
  unfold Oper.wp execOp
  simp only [ho, resolve, invoke, builtin, Sem.run_bind, Sem.run_pure, Result.andThen_ok, List.map_toArray, List.map_cons, List.map_nil, hs, hxv, hr]
  exact hK _ _ (h v' w' h2 ((Below.refl _ _).grown h3 hbase fun k hk => (hown.lt k hk).1) h3 h4)
end
/-! ### Bytes and texts -/
def str (l : List UInt8) : ByteArray := ⟨l.toArray⟩
@[simp] theorem str_data (l : List UInt8) : (str l).data.toList = l := rfl
@[simp] theorem str_size (l : List UInt8) : (str l).size = l.length := by simp [str, ByteArray.size]
@[simp] theorem str_toList (l : List UInt8) : (str l).toList = l := by rw [ByteArray.toList_eq]; rfl
section
variable {P : Program} {w : World} {ops : Array Oper} {rest : List Oper} {o : Oper} {a : Act} {Q : Exit → Act → World → Prop}
end
section
variable {P : Program} {w : World} {ops : Array Oper} {rest : List Oper} {o : Oper} {a : Act} {Q : Exit → Act → World → Prop}
end
theorem Sl.new (w : World) (cs : Array Value) (e : TypeId) (fr : Nat × Nat) : Sl (w.alloc (.cells cs e fr)) (some ⟨w.heap.size, 0, none⟩) cs.toList := by
  intro i hi
  have hi' : i < cs.size := by simpa using hi
  refine ⟨w.heap.size, 0, rfl, ?_⟩
  rw [cell_of_row _ w.heap.size (0 + i) _ e _ (heap_alloc_new w _), Nat.zero_add]
  simp
section
variable {P : Program} {w : World} {ops : Array Oper} {rest : List Oper} {o : Oper} {a : Act} {Q : Exit → Act → World → Prop}
end
/-! ### Regions that draw their order, whose callees make memory of their own: the class of the worlds that grew out of one -/
def Past (w : World) : Type := { x : World // Below w.heap.size w x }
instance (w : World) : Nonempty (Past w) := ⟨⟨w, Below.refl _ _⟩⟩
theorem Past.cell {w : World} (s : Past w) {p : Addr} {v : Value} (h : w.cell? p = some v) : s.1.cell? p = some v := by
  rw [s.2.cell (World.block_lt_of_cell? w _ h)]; exact h
theorem Past.sl {w : World} (s : Past w) {a : Option Addr} {xs : List Value} (h : Sl w a xs) : Sl s.1 a xs := h.below s.2
/-! ### What came in -/
/-! ### Bits of int -/
end Go.Ofp
end
section
namespace Go.Ofp
open Go.RowKit
def Full (w : World) (base e size : Nat) (v : Value) (n : Nat) (xs : List Value) : Prop :=
  w.ownsRow base e size v n xs ∨ ∃ a, v = .slice a n n ∧ Sl w a xs ∧ xs.length = n * size
theorem Full.own {w : World} {base e size n : Nat} {v : Value} {xs : List Value} (h : w.ownsRow base e size v n xs) : Full w base e size v n xs := .inl h
theorem Full.full {w : World} {a : Option Addr} {base e size n : Nat} {xs : List Value} (h : Sl w a xs) (hl : xs.length = n * size) : Full w base e size (.slice a n n) n xs := .inr ⟨a, rfl, h, hl⟩
theorem Full.alloc {w : World} {base e size n : Nat} {v : Value} {xs : List Value} (h : Full w base e size v n xs) (o : Obj) : Full (w.alloc o) base e size v n xs := by
  rcases h with h | ⟨a, rfl, hs, hl⟩
  · exact .inl (h.alloc o)
  · exact .inr ⟨a, rfl, hs.below ((Below.refl _ _).alloc (Nat.le_refl _) _), hl⟩
section
variable {P : Program} {w : World} {ops : Array Oper} {rest : List Oper} {o : Oper} {a : Act} {Q : Exit → Act → World → Prop}
end
/-! ### A block that is known whole; what a call leaves that writes to one block alone -/
def Whole (w : World) (g : Nat) (t : TypeId) (cs : Array Value) : Prop := w.heap[g]? = some (.cells cs t (0, 0))
section
variable {w w' : World} {g : Nat} {t : TypeId} {cs : Array Value}
theorem Whole.lt (h : Whole w g t cs) : g < w.heap.size := (Array.getElem?_eq_some_iff.1 h).1
theorem Whole.cell (h : Whole w g t cs) (i : Nat) : w.cell? ⟨g, i, none⟩ = cs[i]? := cell_of_row w g i cs t (0, 0) h
theorem Whole.frozen (h : Whole w g t cs) (i : Nat) : w.frozen? ⟨g, i, none⟩ = false := by
  unfold Whole at h
  simp only [World.frozen?, h]
  simp
theorem Whole.new (w : World) (t : TypeId) (cs : Array Value) : Whole (w.alloc (.cells cs t)) w.heap.size t cs := heap_alloc_new w _
theorem Whole.set (h : Whole w g t cs) (i : Nat) (u : Value) : Whole (w.setCell ⟨g, i, none⟩ u) g t (cs.setIfInBounds i u) := by
  unfold Whole at h ⊢
  simp [World.setCell, Array.getElem?_modify, h]
theorem Whole.keep {row : Option Nat} (h : Whole w g t cs) (hb : w.grownBy w' row) (hg : some g ≠ row) : Whole w' g t cs := (hb.block g h.lt hg).trans h
theorem Whole.below {B : Nat} (h : Whole w g t cs) (hb : Below B w w') (hg : g < B) : Whole w' g t cs := (hb.block g hg).trans h
theorem Whole.drew (h : Whole w g t cs) : Whole w.drew g t cs := h
end
theorem grown_set (w : World) (g i : Nat) (u : Value) : w.grownBy (w.setCell ⟨g, i, none⟩ u) (some g) :=
  ⟨rfl, rfl, rfl, by simp [World.setCell], fun k _ hk => Below.heap_setCell w ⟨g, i, none⟩ u k (fun e => hk (by rw [e]))⟩
def Off (a : Option Addr) (g : Nat) : Prop := ∀ b off, a = some ⟨b, off, none⟩ → b ≠ g
theorem Sl.grown {w w' : World} {a : Option Addr} {g : Nat} {xs : List Value} (h : Sl w a xs) (ho : Off a g) (hg : w.grownBy w' (some g)) : Sl w' a xs := by
  intro i hi
  obtain ⟨b, off, ha, hc⟩ := h i hi
  refine ⟨b, off, ha, ?_⟩
  rw [World.cell?_of_block (hg.block b (World.block_lt_of_cell? w _ hc) (by simpa using ho b off ha))]
  exact hc
theorem Sl.drop {w : World} {b off : Nat} {xs : List Value} (h : Sl w (some ⟨b, off, none⟩) xs) (k : Nat) : Sl w (some ⟨b, off + k, none⟩) (xs.drop k) := by
  intro i hi
  rw [List.length_drop] at hi
  obtain ⟨b', off', ha, hc⟩ := h (k + i) (by omega)
  cases ha
  exact ⟨b, off + k, rfl, by rw [List.getElem_drop, Nat.add_assoc]; exact hc⟩
end Go.Ofp
end
section
namespace Go.Ofp
open Go.RowKit
section
variable {P : Program} {w : World} {ops : Array Oper} {rest : List Oper} {o : Oper} {a : Act} {Q : Exit → Act → World → Prop}
end
theorem Sl.cut {w : World} {b off k cap : Nat} {xs : List Value} (h : Sl w (some ⟨b, off + k, none⟩) xs) (hc : cap = k → xs = []) :
    Sl w (if cap = k then some ⟨b, off, none⟩ else some ⟨b, off + k, none⟩) xs := by
  split
  · rename_i e
    rw [hc e]
    exact Sl.nil _ _
  · exact h
end Go.Ofp
end
section
namespace Go.Ofp
open Go.RowKit
theorem wpAnyH_mono {P : Program} {md : Region.Mode} {ops : Array Oper} {Q : Exit → Act → World → Prop} {S S' : World → Prop} (h : ∀ w, S' w → S w) :
    ∀ (fuel : Nat) (listed : Array Bool) (a : Act) (w : World), wpAnyH P md ops Q S' fuel listed a w → wpAnyH P md ops Q S fuel listed a w
  | 0, _, _, _, k => k
  | fuel + 1, _, _, _, k => ⟨k.1, fun i hi => wpOp_mono (fun _ _ hh => ⟨h _ hh.1, wpAnyH_mono h fuel _ _ _ hh.2⟩) (k.2 i hi)⟩
section
variable {P : Program} {ops : Array Oper} {Q : Exit → Act → World → Prop} {w0 w : World} {fuel : Nat} {listed : Array Bool} {a : Act} {oi : Oper}
end
end Go.Ofp
end
section
namespace Go.Ofp
open Go.RowKit
def PastB (B : Nat) (w : World) : Type := { x : World // Below B w x }
theorem PastB.cell {B : Nat} {w : World} (s : PastB B w) {p : Addr} {v : Value} (h : w.cell? p = some v) (hp : p.block < B) : s.1.cell? p = some v := by
  rw [s.2.cell hp]; exact h
section
variable {P : Program} {Q : Exit → Act → World → Prop} {B : Nat}
variable {ops : Array Oper} {w0 w : World} {fuel : Nat} {listed : Array Bool} {a : Act} {oi : Oper}
end
end Go.Ofp
end
