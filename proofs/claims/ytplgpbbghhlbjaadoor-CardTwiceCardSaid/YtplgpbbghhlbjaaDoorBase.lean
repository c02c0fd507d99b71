/- Slices, as a walk reads them: the words and small lemmas that all texts of this seat share. -/
import Derived.Test.YtplgpbbghhlbjaaDoorRows
import Derived.WalkKit
import Derived.BigQuiet
import Derived.Lib.Hide
import Derived.WalkSmall
import Derived.Laws.IdiomCopy
import Derived.Deep.LoopGhost
import Derived.Deep.CutBlock
import Derived.Deep.DeepCutAuto
import Derived.Deep.QuietTactic
import Derived.WalkLawsBesides
import Derived.WalkSpells
set_option linter.unusedSimpArgs false
set_option linter.unusedVariables false
namespace Go.Ofp
open Go.RowKit

/-- The cells of a slice value hold xs. -/
def Sl (w : World) (a : Option Addr) (xs : List Value) : Prop :=
  ∀ i (h : i < xs.length), ∃ b off, a = some ⟨b, off, none⟩ ∧ w.cell? ⟨b, off + i, none⟩ = some xs[i]

/-- A byte as a value. -/
def vb (b : UInt8) : Value := .int .u8 b.toNat

theorem Sl.nil (w : World) (a : Option Addr) : Sl w a [] := fun i h => absurd h (by simp)

theorem Sl.below {w w' : World} {a : Option Addr} {xs : List Value} (h : Sl w a xs) (hb : Below w.heap.size w w') : Sl w' a xs := by
  intro i hi
  obtain ⟨b, off, ha, hc⟩ := h i hi
  exact ⟨b, off, ha, by rw [hb.cell (World.block_lt_of_cell? w _ hc)]; exact hc⟩

/-- One element, as the walk reads it. -/
theorem Sl.get {w : World} {a : Option Addr} {l : List UInt8} (h : Sl w a (l.map vb)) (i : Nat) (hi : i < l.length) :
    ∃ b off, a = some ⟨b, off, none⟩ ∧ w.cell? ⟨b, off + i, none⟩ = some (.int .u8 (l[i].toNat : Int)) := by
  obtain ⟨b, off, ha, hc⟩ := h i (by simpa using hi)
  exact ⟨b, off, ha, by simpa [vb] using hc⟩

theorem Sl.add {w : World} {b off : Nat} {xs : List Value} (h : Sl w (some ⟨b, off, none⟩) xs) : ∀ j u, xs[j]? = some u → w.cell? ((⟨b, off, none⟩ : Addr).add j) = some u := by
  intro j u hu
  obtain ⟨hj, rfl⟩ := List.getElem?_eq_some_iff.1 hu
  obtain ⟨b', off', ha, hc⟩ := h j hj
  obtain ⟨rfl, rfl⟩ : b = b' ∧ off = off' := by simpa using ha
  rw [Addr.add_lit]
  exact hc

theorem Sl.cells {w : World} {a : Option Addr} {xs : List Value} (h : Sl w a xs) (hne : xs ≠ []) : ∃ b off, a = some ⟨b, off, none⟩ := by
  obtain ⟨b, off, ha, _⟩ := h 0 (List.length_pos_iff.2 hne)
  exact ⟨b, off, ha⟩

theorem Sl.same {w w' : World} {a : Option Addr} {xs : List Value} (h : Sl w a xs) (hc : ∀ p, w'.cell? p = w.cell? p) : Sl w' a xs := by
  intro i hi
  obtain ⟨b, off, ha, e⟩ := h i hi
  exact ⟨b, off, ha, by rw [hc]; exact e⟩

/-- One step behind another: of what was there at first nothing has turned. -/
theorem below_step {u v w : World} (h : Below u.heap.size u v) (k : Below v.heap.size v w) : Below u.heap.size u w := h.trans (k.mono h.size)

theorem Sl.drewN {w : World} {a : Option Addr} {xs : List Value} (h : Sl w a xs) (n : Nat) : Sl (w.drewN n) a xs := h.same fun _ => rfl

theorem Sl.take {w : World} {a : Option Addr} {xs : List Value} (h : Sl w a xs) (k : Nat) : Sl w a (xs.take k) := by
  intro i hi
  have hi' : i < xs.length := by rw [List.length_take] at hi; omega
  obtain ⟨b, off, ha, e⟩ := h i hi'
  exact ⟨b, off, ha, by rw [List.getElem_take]; exact e⟩

theorem Sl.left {w : World} {a : Option Addr} {xs ys : List Value} (h : Sl w a (xs ++ ys)) : Sl w a xs := by
  have := h.take xs.length
  rwa [List.take_left] at this

/-! ### What an append or a copy takes its new elements from -/
structure Src (P : Program) (w : World) (t : TypeId) (x : Value) (size m : Nat) (news : List Value) : Prop where
  kind : ∃ u, P.underlying t = some u ∧ ∀ k, u ≠ .int k
  len : Builtin.lenOf x = pure m
  cells : ∀ W : World, (∀ p, W.cell? p = w.cell? p) → (Builtin.firstCells size m x).run P W = .ok news.toArray W
  many : news.length = m * size

theorem Src.slice {P : Program} {w : World} {t e : TypeId} (ht : P.underlying t = some (.slice e)) {a : Option Addr} {m c size : Nat} {news : List Value} (h : Sl w a news) (hl : news.length = m * size) :
    Src P w t (.slice a m c) size m news where
  kind := ⟨_, ht, fun k => by simp⟩
  len := rfl
  many := hl
  cells := by
    intro W hW
    by_cases hn : news = []
    · subst hn
      cases a with
      | none => exact run_firstCells_none W _ _ _ _
      | some b => exact run_firstCells_some W size m b m c [] hl (by simp)
    · obtain ⟨b, off, rfl⟩ := h.cells hn
      exact run_firstCells_some W size m _ m c news hl (h.same hW).add

theorem Src.string {P : Program} (w : World) {t : TypeId} (ht : P.underlying t = some .string) (s : ByteArray) : Src P w t (.string s) 1 s.size (s.data.toList.map vb) where
  kind := ⟨_, ht, fun k => by simp⟩
  len := rfl
  many := by simp
  cells := by
    intro W _
    have hx : s.extract 0 s.size = s := by simp
    simp only [Builtin.firstCells, hx]
    show Result.ok _ W = _
    congr 1
    apply Array.ext'
    simp [vb]

/-- What is known of an element's type. -/
def Elem (P : Program) (e : TypeId) (z : Value) (size bytes : Nat) : Prop := ∃ i, P.info? e = some i ∧ i.zero = some z ∧ i.size = size ∧ i.bytes = bytes ∧ z.cells.size = size ∧ 0 < size

theorem Elem.mk {P : Program} {e : TypeId} {z : Value} {size bytes : Nat} (h : (P.info? e).map (fun i => (i.zero, i.size, i.bytes)) = some (some z, size, bytes)) (h1 : z.cells.size = size) (h2 : 0 < size) : Elem P e z size bytes := by
  obtain ⟨i, hi, hz, hs, hb⟩ := info_parts h
  exact ⟨i, hi, hz, hs, hb, h1, h2⟩

/-- append to a slice that has no room: a new row. -/
theorem run_app_grow {P : Program} (w : World) (t tx ty e : TypeId) (ht : P.underlying t = some (.slice e)) {z : Value} {size bytes : Nat} (he : Elem P e z size bytes)
    {a : Option Addr} {n cap : Nat} {xs : List Value} (hs : Sl w a xs) (hn : xs.length = n * size) {x : Value} {m : Nat} {news : List Value} (hx : Src P w tx x size m news)
    (hg : cap < n + m) (hb : (n + m) * bytes ≤ 140737488355328) (h63 : n + m ≤ maxLen) (base : Nat) (hbase : base ≤ w.heap.size) :
    ∃ v' w', (Builtin.append_ #[t, tx] ty #[.slice a n cap, x]).run P w = .ok v' w' ∧ w'.ownsRow base e size v' (n + m) (xs ++ news) ∧ (∀ row, w.grownBy w' row) ∧ v'.ownBlock = some w.heap.size := by
  obtain ⟨i, hi, hz, rfl, rfl, hzs, hpos⟩ := he
  obtain ⟨u, hu, hk⟩ := hx.kind
  have hcells := hx.cells w.drew (fun _ => rfl)
  have hold : (Builtin.firstCells i.size n (.slice a n cap)).run P w.drew = .ok xs.toArray w.drew := (Src.slice ht (hs.same (w' := w.drew) (fun _ => rfl)) hn (c := cap)).cells _ (fun _ => rfl)
  have hroom : ¬ (n + m ≤ cap) := by omega
  have h63' : ¬ (9223372036854775807 < ((n : Int) + (m : Int))) := by simp only [maxLen] at h63; omega
  have hfit := growslice_fits hg hb
  have h48' : ¬ (281474976710656 < Builtin.nextslicecap (n + m) cap * i.bytes) := by omega
  have hlen : (xs ++ news).length = (n + m) * i.size := by rw [List.length_append, hn, hx.many, Nat.add_mul]
  have hge := grownCap_ge w (n + m) cap e
  have hcm : grownCap w (n + m) cap e ≤ maxLen := grownCap_le_maxLen w (n + m) cap e h63
  refine ⟨.slice (some ⟨w.heap.size, 0, none⟩) (n + m) (grownCap w (n + m) cap e),
    w.drew.alloc (.cells (xs.toArray ++ news.toArray ++ Builtin.zeroCells z.cells (grownCap w (n + m) cap e - (n + m))) e), ?_, ?_, ?_, rfl⟩
  · simp [Builtin.append_, run_underlying ht, run_underlying hu, sizeOf, typeInfo, zeroValue, hi, hz, hx.len, hroom, h63', h48', Question.forced, hcells, hold, newRow, grownCap]
    congr 2
    apply Array.ext'
    simp [List.append_assoc]
  · refine ⟨hlen, .inr ⟨w.heap.size, _, _, rfl, hbase, heap_alloc_new w.drew _, hge, hcm, ?_, ?_⟩⟩
    · simp only [Array.size_append, List.size_toArray, size_zeroCells, hzs, hn, hx.many, ← Nat.add_mul]
      congr 1
      omega
    · simp only [Array.toList_append, List.append_assoc]
      rw [← List.append_assoc, ← hlen]
      exact List.take_left
  · intro row
    exact ⟨rfl, rfl, rfl, by simp, fun k hk _ => heap_alloc_old w.drew _ hk⟩

/-- append to a row of the call's own. -/
theorem run_app {P : Program} (w : World) (t tx ty e : TypeId) (ht : P.underlying t = some (.slice e)) {z : Value} {size bytes : Nat} (he : Elem P e z size bytes)
    {v : Value} {n base : Nat} {xs : List Value} (hown : w.ownsRow base e size v n xs) {x : Value} {m : Nat} {news : List Value} (hx : Src P w tx x size m news) (h1 : ∀ u ∈ news, u.oneCell' = true)
    (hb : (n + m) * bytes ≤ 140737488355328) (h63 : n + m ≤ maxLen) (hbase : base ≤ w.heap.size) :
    ∃ v' w', (Builtin.append_ #[t, tx] ty #[v, x]).run P w = .ok v' w' ∧ w'.ownsRow base e size v' (n + m) (xs ++ news) ∧ w.grownBy w' v.ownBlock ∧ (v'.ownBlock = v.ownBlock ∨ v'.ownBlock = some w.heap.size) := by
  rcases hown.2 with ⟨rfl, rfl⟩ | ⟨g, cap, cur, rfl, hbg, hgc, hnc, hcm, hcs, htake⟩
  · have hxs : xs = [] := List.eq_nil_of_length_eq_zero (by simpa using hown.1)
    subst hxs
    by_cases hm : m = 0
    · subst hm
      have hnews : news = [] := List.eq_nil_of_length_eq_zero (by simpa using hx.many)
      subst hnews
      obtain ⟨i, hi, hz, rfl, rfl, hzs, hpos⟩ := he
      obtain ⟨u, hu, hk⟩ := hx.kind
      have hcells := hx.cells w (fun _ => rfl)
      refine ⟨.slice none 0 0, w, ?_, World.ownsRow_nil w base e i.size, ⟨rfl, rfl, rfl, Nat.le_refl _, fun _ _ _ => rfl⟩, .inl rfl⟩
      simp [Builtin.append_, run_underlying ht, run_underlying hu, sizeOf, typeInfo, hi, hx.len, hcells]
    · obtain ⟨v', w', h1, h2, h3, h4⟩ := run_app_grow w t tx ty e ht he (Sl.nil w none) (n := 0) (cap := 0) (by simp) hx (by omega) hb h63 base hbase
      exact ⟨v', w', h1, h2, h3 _, .inr h4⟩
  · by_cases hroom : n + m ≤ cap
    · obtain ⟨i, hi, hz, rfl, rfl, hzs, hpos⟩ := he
      obtain ⟨u, hu, hk⟩ := hx.kind
      have hcells := hx.cells w (fun _ => rfl)
      have hlen : (xs ++ news).length = (n + m) * i.size := by rw [List.length_append, hown.1, hx.many, Nat.add_mul]
      have hfit : n * i.size + news.length ≤ cur.size := by rw [hx.many, hcs, ← Nat.add_mul]; exact Nat.mul_le_mul_right _ hroom
      have hst := run_storeCells_at P g (n * i.size) e news 0 cur w hgc (by simpa using hfit) h1
      simp only [Nat.add_zero] at hst
      refine ⟨.slice (some ⟨g, 0, none⟩) (n + m) cap, w.setRow g (cur.toList.take (n * i.size) ++ news ++ cur.toList.drop (n * i.size + news.length)).toArray, ?_, ⟨hlen, .inr ⟨g, cap, _, rfl, hbg, setRow_heap w g cur _ e _ hgc, hroom, hcm, ?_, ?_⟩⟩,
        ⟨rfl, rfl, rfl, by simp, fun k _ hk => setRow_other w g k _ (fun e => hk (by simp [Value.ownBlock, e]))⟩, .inl rfl⟩
      · simp [Builtin.append_, run_underlying ht, run_underlying hu, sizeOf, typeInfo, hi, hx.len, hroom, hcells, Addr.add_lit, hst]
      · simp only [List.size_toArray, List.length_append, List.length_take, List.length_drop, Array.length_toList]
        omega
      · rw [htake, ← hlen]
        exact List.take_left
    · have hsl : Sl w (some ⟨g, 0, none⟩) xs := by
        intro j hj
        have := hown.cells (g := g) rfl j _ (List.getElem?_eq_getElem hj)
        rw [Addr.add_lit] at this
        exact ⟨g, 0, rfl, this⟩
      obtain ⟨v', w', h1, h2, h3, h4⟩ := run_app_grow w t tx ty e ht he hsl (n := n) (cap := cap) hown.1 hx (by omega) hb h63 base hbase
      exact ⟨v', w', h1, h2, h3 _, .inr h4⟩

/-- What is owned reads as a slice. -/
theorem owns_sl {w : World} {base e size n : Nat} {v : Value} {xs : List Value} (h : w.ownsRow base e size v n xs) : ∃ a cap, v = .slice a n cap ∧ Sl w a xs ∧ xs.length = n * size ∧ n ≤ cap ∧ cap ≤ maxLen := by
  rcases h.2 with ⟨rfl, rfl⟩ | ⟨g, cap, cur, rfl, _, _, hn, hm, _⟩
  · exact ⟨none, 0, rfl, by rw [List.eq_nil_of_length_eq_zero (show xs.length = 0 by simpa using h.1)]; exact Sl.nil _ _, h.1, Nat.le_refl _, Nat.zero_le _⟩
  · refine ⟨_, cap, rfl, fun j hj => ⟨g, 0, rfl, ?_⟩, h.1, hn, hm⟩
    have := h.cells (g := g) rfl j _ (List.getElem?_eq_getElem hj)
    rw [Addr.add_lit] at this
    exact this

section
variable {P : Program} {w : World} {ops : Array Oper} {rest : List Oper} {o : Oper} {a : Act} {Q : Exit → Act → World → Prop}

/-- The walk's law: append to a row of the call's own. -/
theorem wpList_app (hgd : o.guard = none) {s x : Operand} {t tx : TypeId} (ho : o.op = .call { callee := .builtin .append, args := #[s, x], argTypes := #[t, tx] })
    {e : TypeId} (ht : P.underlying t = some (.slice e)) {z : Value} {size bytes : Nat} (he : Elem P e z size bytes) {v : Value} {n base : Nat} {xs : List Value} (hown : w.ownsRow base e size v n xs) (hs : a.eval s = v)
    {xv : Value} {m : Nat} {news : List Value} (hx : Src P w tx xv size m news) (hxv : a.eval x = xv) (h1 : ∀ u ∈ news, u.oneCell' = true)
    (hb : (n + m) * bytes ≤ 140737488355328) (h63 : n + m ≤ maxLen) (hbase : base ≤ w.heap.size)
    (h : ∀ v' w', w'.ownsRow base e size v' (n + m) (xs ++ news) → Below base w w' → w.grownBy w' v.ownBlock → (v'.ownBlock = v.ownBlock ∨ v'.ownBlock = some w.heap.size) → wpList P ops Q rest (a.put o.dst v') w') : wpList P ops Q (o :: rest) a w := by
  refine wpList_plain hgd fun K hK => ?_
  obtain ⟨v', w', hr, h2, h3, h4⟩ := run_app w t tx o.type e ht he hown hx h1 hb h63 hbase
  unfold Oper.wp execOp
  simp only [ho, resolve, invoke, builtin, Sem.run_bind, Sem.run_pure, Result.andThen_ok, List.map_toArray, List.map_cons, List.map_nil, hs, hxv, hr]
  exact hK _ _ (h v' w' h2 ((Below.refl _ _).grown h3 hbase fun k hk => (hown.lt k hk).1) h3 h4)

/-- The walk's law: append to a slice that has no room. -/
theorem wpList_app_grow (hgd : o.guard = none) {s x : Operand} {t tx : TypeId} (ho : o.op = .call { callee := .builtin .append, args := #[s, x], argTypes := #[t, tx] })
    {e : TypeId} (ht : P.underlying t = some (.slice e)) {z : Value} {size bytes : Nat} (he : Elem P e z size bytes) {ad : Option Addr} {n cap : Nat} {xs : List Value} (hsl : Sl w ad xs) (hs : a.eval s = .slice ad n cap) (hn : xs.length = n * size)
    {xv : Value} {m : Nat} {news : List Value} (hx : Src P w tx xv size m news) (hxv : a.eval x = xv) (hg : cap < n + m)
    (hb : (n + m) * bytes ≤ 140737488355328) (h63 : n + m ≤ maxLen)
    (h : ∀ v' w', w'.ownsRow w.heap.size e size v' (n + m) (xs ++ news) → (∀ row, w.grownBy w' row) → v'.ownBlock = some w.heap.size → wpList P ops Q rest (a.put o.dst v') w') : wpList P ops Q (o :: rest) a w := by
  refine wpList_plain hgd fun K hK => ?_
  obtain ⟨v', w', hr, h2, h3, h4⟩ := run_app_grow w t tx o.type e ht he hsl hn hx hg hb h63 w.heap.size (Nat.le_refl _)
  unfold Oper.wp execOp
  simp only [ho, resolve, invoke, builtin, Sem.run_bind, Sem.run_pure, Result.andThen_ok, List.map_toArray, List.map_cons, List.map_nil, hs, hxv, hr]
  exact hK _ _ (h v' w' h2 h3 h4)
end

/-! ### Bytes and texts -/
/-- A text of bytes. -/
def str (l : List UInt8) : ByteArray := ⟨l.toArray⟩
@[simp] theorem str_data (l : List UInt8) : (str l).data.toList = l := rfl
@[simp] theorem str_size (l : List UInt8) : (str l).size = l.length := by simp [str, ByteArray.size]
@[simp] theorem str_toList (l : List UInt8) : (str l).toList = l := by rw [ByteArray.toList_eq]; rfl
theorem str_of (s : ByteArray) : str s.data.toList = s := rfl

theorem run_bts {P : Program} (w : World) (src dst e : TypeId) (hs : P.underlying src = some (.slice e)) (he : P.underlying e = some (.int .u8)) (hd : P.underlying dst = some .string)
    {a : Option Addr} {l : List UInt8} (h : Sl w a (l.map vb)) (n cap : Nat) (hn : n = l.length) : (convert src dst (.slice a n cap)).run P w = .ok (.string (str l)) w := by
  subst hn
  cases a with
  | none =>
    by_cases hl : l = []
    · subst hl
      exact run_convert_bytes_nil w src e hs he _ _ dst hd
    · obtain ⟨b, off, hb⟩ := h.cells (by simpa using hl)
      cases hb
  | some b =>
    refine run_convert_bytes_back w src dst e b cap l hs he hd fun j hj => ?_
    obtain ⟨b', off, hb, hc⟩ := h.get j hj
    cases hb
    rw [Addr.add_lit]
    exact hc

section
variable {P : Program} {w : World} {ops : Array Oper} {rest : List Oper} {o : Oper} {a : Act} {Q : Exit → Act → World → Prop}

theorem wpList_bts (hgd : o.guard = none) {src dst e : TypeId} {x : Operand} (ho : o.op = .convert src dst x) (hs : P.underlying src = some (.slice e)) (he : P.underlying e = some (.int .u8)) (hd : P.underlying dst = some .string)
    {ad : Option Addr} {n cap : Nat} (hx : a.eval x = .slice ad n cap) {l : List UInt8} (hsl : Sl w ad (l.map vb)) (hn : n = l.length)
    (h : wpList P ops Q rest (a.put o.dst (.string (str l))) w) : wpList P ops Q (o :: rest) a w := by
  refine wpList_plain hgd fun K hK => ?_
  have hr := run_bts w src dst e hs he hd hsl n cap hn
  unfold Oper.wp execOp
  simp only [ho, hx, Sem.run_bind, hr, Result.andThen_ok, Sem.run_pure]
  exact hK _ _ h

theorem wpList_stb (hgd : o.guard = none) {src dst e : TypeId} {x : Operand} (ho : o.op = .convert src dst x) (hs : P.underlying src = some .string) (hd : P.underlying dst = some (.slice e)) (he : P.underlying e = some (.int .u8))
    {s : ByteArray} (hx : a.eval x = .string s)
    (h : ∀ ad cap w', Sl w' ad (s.data.toList.map vb) → Below w.heap.size w w' → w.heap.size < w'.heap.size → wpList P ops Q rest (a.put o.dst (.slice ad s.size cap)) w') : wpList P ops Q (o :: rest) a w := by
  refine wpList_plain hgd fun K hK => ?_
  have hr := run_bytes_of_string (P := P) w src dst e s hs hd he
  unfold Oper.wp execOp
  simp only [ho, hx, Sem.run_bind, hr, Result.andThen_ok, Sem.run_pure]
  refine hK _ _ (h _ _ _ ?_ ?_ ?_)
  · intro i hi
    refine ⟨w.heap.size, 0, rfl, ?_⟩
    have hi' : i < s.data.size := by simpa using hi
    rw [cell_of_row _ w.heap.size (0 + i) _ e _ (heap_alloc_new w.drew _)]
    simp only [bytesRow, Nat.zero_add]
    rw [Array.getElem?_append_left (by simpa using hi')]
    simp [vb]
    exact ⟨_, Array.getElem?_eq_getElem hi', rfl⟩
  · exact (Below.refl _ _).drew.alloc (Nat.le_refl _) _
  · simp
end

theorem cell_freeze (w : World) (b : Addr) (n : Nat) (p : Addr) : (w.freeze b n).cell? p = w.cell? p := by
  unfold World.freeze
  split
  · rfl
  · simp only [World.cell?, Array.getElem?_modify]
    by_cases h : b.block = p.block
    · rw [h]
      simp only [if_true]
      cases w.heap[p.block]? with
      | none => rfl
      | some o => cases o <;> rfl
    · simp [h]

theorem run_same_bytes {P : Program} (w : World) (t e : TypeId) (ht : P.underlying t = some (.slice e)) (he : P.underlying e = some (.int .u8)) (ad : Addr) (n cap : Nat) :
    ∃ w', (convert t t (.slice (some ad) n cap)).run P w = .ok (.slice (some ad) n cap) w' ∧ (∀ p, w'.cell? p = w.cell? p) ∧ Below ad.block w w' ∧ w'.heap.size = w.heap.size := by
  cases hs : w.shape? ad.block with
  | none =>
    refine ⟨w, ?_, fun _ => rfl, Below.refl _ _, rfl⟩
    simp [convert, run_underlying ht, run_underlying he, markStringish, hs]
  | some q =>
    obtain ⟨e', m⟩ := q
    refine ⟨w.freeze ⟨ad.block, m, none⟩ 1, ?_, cell_freeze _ _ _, ?_, ?_⟩
    · simp [convert, run_underlying ht, run_underlying he, markStringish, hs]
    · refine ⟨rfl, rfl, rfl, by simp [World.freeze], fun k hk => ?_⟩
      rw [World.freeze, if_neg (by decide), Array.getElem?_modify, if_neg (show ad.block ≠ k by omega)]
    · simp [World.freeze]

section
variable {P : Program} {w : World} {ops : Array Oper} {rest : List Oper} {o : Oper} {a : Act} {Q : Exit → Act → World → Prop}
theorem wpList_same_bytes (hgd : o.guard = none) {t e : TypeId} {x : Operand} (ho : o.op = .convert t t x) (ht : P.underlying t = some (.slice e)) (he : P.underlying e = some (.int .u8))
    {ad : Addr} {n cap : Nat} (hx : a.eval x = .slice (some ad) n cap)
    (h : ∀ w', (∀ p, w'.cell? p = w.cell? p) → Below ad.block w w' → w'.heap.size = w.heap.size → wpList P ops Q rest (a.put o.dst (.slice (some ad) n cap)) w') : wpList P ops Q (o :: rest) a w := by
  refine wpList_plain hgd fun K hK => ?_
  obtain ⟨w', hr, h1, h2, h3⟩ := run_same_bytes w t e ht he ad n cap
  unfold Oper.wp execOp
  simp only [ho, hx, Sem.run_bind, hr, Result.andThen_ok, Sem.run_pure]
  exact hK _ _ (h w' h1 h2 h3)
end

/-- A new row reads as its cells. -/
theorem Sl.new (w : World) (cs : Array Value) (e : TypeId) (fr : Nat × Nat) : Sl (w.alloc (.cells cs e fr)) (some ⟨w.heap.size, 0, none⟩) cs.toList := by
  intro i hi
  have hi' : i < cs.size := by simpa using hi
  refine ⟨w.heap.size, 0, rfl, ?_⟩
  rw [cell_of_row _ w.heap.size (0 + i) _ e _ (heap_alloc_new w _), Nat.zero_add]
  simp

theorem vb_ofNat (n : Nat) : vb (UInt8.ofNat n) = .int .u8 ((n : Int) % 256) := by simp [vb, UInt8.toNat_ofNat']

/-- Bytes as a text and the text as bytes. -/
theorem str_append (a : ByteArray) (l : List UInt8) : a ++ str l = str (a.data.toList ++ l) := by
  apply ByteArray.ext
  apply Array.ext'
  simp [str]

section
variable {P : Program} {w : World} {ops : Array Oper} {rest : List Oper} {o : Oper} {a : Act} {Q : Exit → Act → World → Prop}
/-- make([]T, 0, n). -/
theorem wpList_mk (hg : o.guard = none) {l c : Operand} {t : TypeId} (hop : o.op = Op.makeSlice t l c)
    {e : TypeId} (h1 : P.underlying t = some (.slice e)) {z : Value} {size bytes : Nat} (he : Elem P e z size bytes)
    {kl kc : IntKind} {C : Int} (hl : a.eval l = .int kl 0) (hc : a.eval c = .int kc C) (n : Nat) (hC : C = (n : Int)) (hb : n * bytes ≤ 281474976710656) (hm : n ≤ maxLen)
    (hK : ∀ w', w'.ownsRow w.heap.size e size (.slice (some ⟨w.heap.size, 0, none⟩) 0 n) 0 [] → (∀ row, w.grownBy w' row) → wpList P ops Q rest (a.put o.dst (.slice (some ⟨w.heap.size, 0, none⟩) 0 n)) w') :
    wpList P ops Q (o :: rest) a w := by
  obtain ⟨i, hi, hz, hs, hby, hzs, hpos⟩ := he
  refine wpList_make_own w hg l c t hop w.heap.size e i z size h1 hi hz hs kl kc C n hl hc hC (by rw [hby, Nat.mul_comm]; exact hb) hm (Nat.le_refl _) fun w' h2 h3 => hK w' h2 fun row => ?_
  exact ⟨h3.os, h3.tape, h3.output, h3.size, fun k hk _ => h3.block k hk (by simp)⟩

/-- make([]T, n). -/
theorem wpList_mkfull (hg : o.guard = none) {l c : Operand} {t : TypeId} (hop : o.op = Op.makeSlice t l c)
    {e : TypeId} (h1 : P.underlying t = some (.slice e)) {z : Value} {size bytes : Nat} (he : Elem P e z size bytes)
    {kl kc : IntKind} {L C : Int} (hl : a.eval l = .int kl L) (hc : a.eval c = .int kc C) (n : Nat) (hL : L = (n : Int)) (hC : C = (n : Int)) (hb : n * bytes ≤ 281474976710656) (hm : n ≤ maxLen)
    (hK : ∀ w', w'.ownsRow w.heap.size e size (.slice (some ⟨w.heap.size, 0, none⟩) n n) n (madeCells z.cells (n * size)).toList → (∀ row, w.grownBy w' row) → wpList P ops Q rest (a.put o.dst (.slice (some ⟨w.heap.size, 0, none⟩) n n)) w') :
    wpList P ops Q (o :: rest) a w := by
  obtain ⟨i, hi, hz, hs, hby, hzs, hpos⟩ := he
  refine wpList_make_full w hg l c t hop w.heap.size e i z size h1 hi hz hs kl kc L C n hl hc hL hC (by rw [hby, Nat.mul_comm]; exact hb) hm (Nat.le_refl _) fun w' h2 h3 => hK w' h2 fun row => ?_
  exact ⟨h3.os, h3.tape, h3.output, h3.size, fun k hk _ => h3.block k hk (by simp)⟩
end

theorem below_grown {w w' : World} (h : ∀ row, w.grownBy w' row) : Below w.heap.size w w' :=
  (Below.refl _ _).grown (h none) (Nat.le_refl _) (by simp)

theorem owns_kept {w w' : World} {base e size n : Nat} {v : Value} {xs : List Value} (h : w.ownsRow base e size v n xs) (hg : ∀ row, w.grownBy w' row) : w'.ownsRow base e size v n xs :=
  h.kept (hg none) (by cases hv : v.ownBlock <;> simp)

theorem vb_one (l : List UInt8) : ∀ u ∈ l.map vb, u.oneCell' = true := by
  intro u hu
  obtain ⟨_, _, rfl⟩ := List.mem_map.1 hu
  rfl

/-! ### Regions that draw their order, whose callees make memory of their own: the class of the worlds that grew out of one -/
/-- A world in which all that was there still stands as it stood. -/
def Past (w : World) : Type := { x : World // Below w.heap.size w x }
instance (w : World) : Nonempty (Past w) := ⟨⟨w, Below.refl _ _⟩⟩

theorem Past.cell {w : World} (s : Past w) {p : Addr} {v : Value} (h : w.cell? p = some v) : s.1.cell? p = some v := by
  rw [s.2.cell (World.block_lt_of_cell? w _ h)]; exact h
theorem Past.sl {w : World} (s : Past w) {a : Option Addr} {xs : List Value} (h : Sl w a xs) : Sl s.1 a xs := h.below s.2
theorem Past.next {w w' : World} (s : Past w) (h : Below s.1.heap.size s.1 w') : ∃ t : Past w, w' = t.1 := ⟨⟨w', s.2.trans (h.mono s.2.size)⟩, rfl⟩

theorem wp_region_past_lit {P : Program} {id : Nat} {Q : Exit → Act → World → Prop} {a : Act} {w : World} {l : List Oper} (hm : P.follows .mixedOrders = true) (hB : Region.lexB .any l.toArray = true)
    (h : wpQuiet P l.toArray (fun w' => ∃ s : Past w, w' = s.1) (fun a' => ∀ w', (∃ s : Past w, w' = s.1) → Q .normal a' w') l a) : (Code.region id l.toArray true).wp P Q a w :=
  wp_region_quiet (C := fun w' => ∃ s : Past w, w' = s.1) hm hB ⟨⟨_, (Below.refl _ _).drew⟩, rfl⟩ (by simpa using h)

theorem Calls.same_below {P : Program} {f : FuncId} {args : Array Value} {w : World} {v : Value} (h : Calls P f args w fun e w' => e = .returned v ∧ w = w') :
    Calls P f args w fun e w' => e = .returned v ∧ Below w.heap.size w w' :=
  h.mono fun _ _ ⟨he, hw⟩ => ⟨he, hw ▸ Below.refl _ _⟩

theorem Calls.past {P : Program} {f : FuncId} {args : Array Value} {w : World} {s : Past w} {v : Value} (h : Calls P f args s.1 fun e w' => e = .returned v ∧ Below s.1.heap.size s.1 w') :
    Calls P f args s.1 fun e w'' => e = .returned v ∧ ∃ t : Past w, w'' = t.1 :=
  h.mono fun _ _ ⟨he, hb⟩ => ⟨he, s.next hb⟩

/-! ### What came in -/
/-- A slice of bytes that came in, as the frame of a proof tells of it, reads as bytes. -/
theorem row_bytes {w : World} {a : Option Addr} {len cap : Nat} {zs : List Int} (h : (a = none ∧ len = 0 ∧ cap = 0 ∧ zs = []) ∨
    ∃ x, a = some x ∧ len ≤ cap ∧ cap ≤ maxLen ∧ zs.length = cap ∧ (∀ i, i < zs.length → w.cell? (x.add i) = some (.int .u8 (zs.getD i 0))) ∧ ∀ n ∈ zs, (Lit.int .u8 n).wf = true) :
    ∃ l : List UInt8, l.length = len ∧ Sl w a (l.map vb) ∧ len ≤ cap ∧ cap ≤ maxLen := by
  rcases h with ⟨rfl, rfl, rfl, rfl⟩ | ⟨x, rfl, h1, h2, h3, h4, h5⟩
  · exact ⟨[], rfl, Sl.nil _ _, Nat.le_refl _, Nat.zero_le _⟩
  · refine ⟨(zs.take len).map fun n => UInt8.ofNat n.toNat, by rw [List.length_map, List.length_take]; omega, ?_, h1, h2⟩
    intro i hi
    have hi' : i < len := by simp at hi; omega
    have hc := h4 i (by omega)
    obtain ⟨b, off, spot⟩ := x
    have hs : spot = none := by
      have := h4 0 (by omega)
      simpa [Addr.add] using World.cell?_spot this
    subst hs
    refine ⟨b, off, rfl, ?_⟩
    rw [Addr.add_lit] at hc
    rw [hc]
    have hz : i < zs.length := by omega
    have hwf := h5 (zs[i]) (List.getElem_mem hz)
    have hb : 0 ≤ zs[i] ∧ zs[i] ≤ 255 := by simpa [Lit.wf, IntKind.min, IntKind.max, IntKind.bits, IntKind.signed] using hwf
    simp [vb, List.getD, List.getElem?_eq_getElem hz, UInt8.toNat_ofNat']
    omega

/-! ### Bits of int -/
theorem ofInt_i64 (a : Nat) (ha : a < 9223372036854775808) : (BitVec.ofInt 64 (a : Int)).toNat = a := by
  rw [BitVec.ofInt_natCast, BitVec.toNat_ofNat]; exact Nat.mod_eq_of_lt (by omega)
theorem wrap_i64_nat (a : Nat) (ha : a < 9223372036854775808) : IntKind.i64.wrap (a : Int) = a := by
  simp only [IntKind.wrap, IntKind.bits, IntKind.signed]
  simp
  omega
theorem i64_and_nat (a b : Nat) (ha : a < 9223372036854775808) (hb : b < 9223372036854775808) : bits .and .i64 (a : Int) (b : Int) = ((a &&& b : Nat) : Int) := by
  have hx : a &&& b < 2 ^ 63 := Nat.and_lt_two_pow _ (by omega)
  show IntKind.i64.wrap ((BitVec.ofInt 64 (a : Int) &&& BitVec.ofInt 64 (b : Int)).toNat : Int) = _
  rw [BitVec.toNat_and, ofInt_i64 a ha, ofInt_i64 b hb, wrap_i64_nat _ (by omega)]
theorem i64_or_nat (a b : Nat) (ha : a < 9223372036854775808) (hb : b < 9223372036854775808) : bits .or .i64 (a : Int) (b : Int) = ((a ||| b : Nat) : Int) := by
  have hx : a ||| b < 2 ^ 63 := Nat.or_lt_two_pow (by omega) (by omega)
  show IntKind.i64.wrap ((BitVec.ofInt 64 (a : Int) ||| BitVec.ofInt 64 (b : Int)).toNat : Int) = _
  rw [BitVec.toNat_or, ofInt_i64 a ha, ofInt_i64 b hb, wrap_i64_nat _ (by omega)]
theorem i64_and1 (a : Nat) (ha : a < 9223372036854775808) : bits .and .i64 (a : Int) 1 = ((a % 2 : Nat) : Int) := by
  have := i64_and_nat a 1 ha (by decide)
  rw [show ((1 : Nat) : Int) = 1 from rfl] at this
  rw [this, nat_mask1]

end Go.Ofp
