/- Texts laid together: Base Kit Kit2 PieceMath SumMath SecMath DiskMath DiskFit RingMath OctetMath. -/
import Derived.Test.YtlhpibniecfofaaRows
import Derived.WalkKit
import Derived.BigQuiet
import Derived.Lib.Hide
import Derived.WalkSmall
import Derived.Laws.IdiomCopy
import Derived.Deep.LoopGhost
import Derived.Deep.CutBlock
import Derived.Deep.DeepCutAuto
import Derived.Deep.QuietTactic
import Derived.WalkLawsBesides
import Derived.WalkSpells
import Derived.StillTailTactics
import Derived.Laws.BitsAllLaws
section
/- Slices, as a walk reads them: the words and small lemmas that all texts of this seat share. -/
set_option linter.unusedSimpArgs false
set_option linter.unusedVariables false
namespace Go.Ofp
open Go.RowKit

/-- The cells of a slice value hold xs. -/
def Sl (w : World) (a : Option Addr) (xs : List Value) : Prop :=
  ∀ i (h : i < xs.length), ∃ b off, a = some ⟨b, off, none⟩ ∧ w.cell? ⟨b, off + i, none⟩ = some xs[i]

/-- A byte as a value. -/
def vb (b : UInt8) : Value := .int .u8 b.toNat

theorem Sl.nil (w : World) (a : Option Addr) : Sl w a [] := fun i h => absurd h (by simp)

theorem Sl.below {w w' : World} {a : Option Addr} {xs : List Value} (h : Sl w a xs) (hb : Below w.heap.size w w') : Sl w' a xs := by
  intro i hi
  obtain ⟨b, off, ha, hc⟩ := h i hi
  exact ⟨b, off, ha, by rw [hb.cell (World.block_lt_of_cell? w _ hc)]; exact hc⟩

/-- One element, as the walk reads it. -/
theorem Sl.get {w : World} {a : Option Addr} {l : List UInt8} (h : Sl w a (l.map vb)) (i : Nat) (hi : i < l.length) :
    ∃ b off, a = some ⟨b, off, none⟩ ∧ w.cell? ⟨b, off + i, none⟩ = some (.int .u8 (l[i].toNat : Int)) := by
  obtain ⟨b, off, ha, hc⟩ := h i (by simpa using hi)
  exact ⟨b, off, ha, by simpa [vb] using hc⟩

theorem Sl.add {w : World} {b off : Nat} {xs : List Value} (h : Sl w (some ⟨b, off, none⟩) xs) : ∀ j u, xs[j]? = some u → w.cell? ((⟨b, off, none⟩ : Addr).add j) = some u := by
  intro j u hu
  obtain ⟨hj, rfl⟩ := List.getElem?_eq_some_iff.1 hu
  obtain ⟨b', off', ha, hc⟩ := h j hj
  obtain ⟨rfl, rfl⟩ : b = b' ∧ off = off' := by simpa using ha
  rw [Addr.add_lit]
  exact hc

theorem Sl.cells {w : World} {a : Option Addr} {xs : List Value} (h : Sl w a xs) (hne : xs ≠ []) : ∃ b off, a = some ⟨b, off, none⟩ := by
  obtain ⟨b, off, ha, _⟩ := h 0 (List.length_pos_iff.2 hne)
  exact ⟨b, off, ha⟩

theorem Sl.same {w w' : World} {a : Option Addr} {xs : List Value} (h : Sl w a xs) (hc : ∀ p, w'.cell? p = w.cell? p) : Sl w' a xs := by
  intro i hi
  obtain ⟨b, off, ha, e⟩ := h i hi
  exact ⟨b, off, ha, by rw [hc]; exact e⟩

theorem Sl.drewN {w : World} {a : Option Addr} {xs : List Value} (h : Sl w a xs) (n : Nat) : Sl (w.drewN n) a xs := h.same fun _ => rfl

theorem Sl.take {w : World} {a : Option Addr} {xs : List Value} (h : Sl w a xs) (k : Nat) : Sl w a (xs.take k) := by
  intro i hi
  have hi' : i < xs.length := by rw [List.length_take] at hi; omega
  obtain ⟨b, off, ha, e⟩ := h i hi'
  exact ⟨b, off, ha, by rw [List.getElem_take]; exact e⟩

theorem Sl.left {w : World} {a : Option Addr} {xs ys : List Value} (h : Sl w a (xs ++ ys)) : Sl w a xs := by
  have := h.take xs.length
  rwa [List.take_left] at this

/-! ### What an append or a copy takes its new elements from -/
structure Src (P : Program) (w : World) (t : TypeId) (x : Value) (size m : Nat) (news : List Value) : Prop where
  kind : ∃ u, P.underlying t = some u ∧ ∀ k, u ≠ .int k
  len : Builtin.lenOf x = pure m
  cells : ∀ W : World, (∀ p, W.cell? p = w.cell? p) → (Builtin.firstCells size m x).run P W = .ok news.toArray W
  many : news.length = m * size

theorem Src.slice {P : Program} {w : World} {t e : TypeId} (ht : P.underlying t = some (.slice e)) {a : Option Addr} {m c size : Nat} {news : List Value} (h : Sl w a news) (hl : news.length = m * size) :
    Src P w t (.slice a m c) size m news where
  kind := ⟨_, ht, fun k => by simp⟩
  len := rfl
  many := hl
  cells := by
    intro W hW
    by_cases hn : news = []
    · subst hn
      cases a with
      | none => exact run_firstCells_none W _ _ _ _
      | some b => exact run_firstCells_some W size m b m c [] hl (by simp)
    · obtain ⟨b, off, rfl⟩ := h.cells hn
      exact run_firstCells_some W size m _ m c news hl (h.same hW).add

theorem Src.string {P : Program} (w : World) {t : TypeId} (ht : P.underlying t = some .string) (s : ByteArray) : Src P w t (.string s) 1 s.size (s.data.toList.map vb) where
  kind := ⟨_, ht, fun k => by simp⟩
  len := rfl
  many := by simp
  cells := by
    intro W _
    have hx : s.extract 0 s.size = s := by simp
    simp only [Builtin.firstCells, hx]
    show Result.ok _ W = _
    congr 1
    apply Array.ext'
    simp [vb]

/-- What is known of an element's type. -/
def Elem (P : Program) (e : TypeId) (z : Value) (size bytes : Nat) : Prop := ∃ i, P.info? e = some i ∧ i.zero = some z ∧ i.size = size ∧ i.bytes = bytes ∧ z.cells.size = size ∧ 0 < size

theorem Elem.mk {P : Program} {e : TypeId} {z : Value} {size bytes : Nat} (h : (P.info? e).map (fun i => (i.zero, i.size, i.bytes)) = some (some z, size, bytes)) (h1 : z.cells.size = size) (h2 : 0 < size) : Elem P e z size bytes := by
  obtain ⟨i, hi, hz, hs, hb⟩ := info_parts h
  exact ⟨i, hi, hz, hs, hb, h1, h2⟩

/-- append to a slice that has no room: a new row. -/
theorem run_app_grow {P : Program} (w : World) (t tx ty e : TypeId) (ht : P.underlying t = some (.slice e)) {z : Value} {size bytes : Nat} (he : Elem P e z size bytes)
    {a : Option Addr} {n cap : Nat} {xs : List Value} (hs : Sl w a xs) (hn : xs.length = n * size) {x : Value} {m : Nat} {news : List Value} (hx : Src P w tx x size m news)
    (hg : cap < n + m) (hb : (n + m) * bytes ≤ 140737488355328) (h63 : n + m ≤ maxLen) (base : Nat) (hbase : base ≤ w.heap.size) :
    ∃ v' w', (Builtin.append_ #[t, tx] ty #[.slice a n cap, x]).run P w = .ok v' w' ∧ w'.ownsRow base e size v' (n + m) (xs ++ news) ∧ (∀ row, w.grownBy w' row) ∧ v'.ownBlock = some w.heap.size := by
  obtain ⟨i, hi, hz, rfl, rfl, hzs, hpos⟩ := he
  obtain ⟨u, hu, hk⟩ := hx.kind
  have hcells := hx.cells w.drew (fun _ => rfl)
  have hold : (Builtin.firstCells i.size n (.slice a n cap)).run P w.drew = .ok xs.toArray w.drew := (Src.slice ht (hs.same (w' := w.drew) (fun _ => rfl)) hn (c := cap)).cells _ (fun _ => rfl)
  have hroom : ¬ (n + m ≤ cap) := by omega
  have h63' : ¬ (9223372036854775807 < ((n : Int) + (m : Int))) := by simp only [maxLen] at h63; omega
  have hfit := growslice_fits hg hb
  have h48' : ¬ (281474976710656 < Builtin.nextslicecap (n + m) cap * i.bytes) := by omega
  have hlen : (xs ++ news).length = (n + m) * i.size := by rw [List.length_append, hn, hx.many, Nat.add_mul]
  have hge := grownCap_ge w (n + m) cap e
  have hcm : grownCap w (n + m) cap e ≤ maxLen := grownCap_le_maxLen w (n + m) cap e h63
  refine ⟨.slice (some ⟨w.heap.size, 0, none⟩) (n + m) (grownCap w (n + m) cap e),
    w.drew.alloc (.cells (xs.toArray ++ news.toArray ++ Builtin.zeroCells z.cells (grownCap w (n + m) cap e - (n + m))) e), ?_, ?_, ?_, rfl⟩
  · simp [Builtin.append_, run_underlying ht, run_underlying hu, sizeOf, typeInfo, zeroValue, hi, hz, hx.len, hroom, h63', h48', Question.forced, hcells, hold, newRow, grownCap]
    congr 2
    apply Array.ext'
    simp [List.append_assoc]
  · refine ⟨hlen, .inr ⟨w.heap.size, _, _, rfl, hbase, heap_alloc_new w.drew _, hge, hcm, ?_, ?_⟩⟩
    · simp only [Array.size_append, List.size_toArray, size_zeroCells, hzs, hn, hx.many, ← Nat.add_mul]
      congr 1
      omega
    · simp only [Array.toList_append, List.append_assoc]
      rw [← List.append_assoc, ← hlen]
      exact List.take_left
  · intro row
    exact ⟨rfl, rfl, rfl, by simp, fun k hk _ => heap_alloc_old w.drew _ hk⟩

/-- append to a row of the call's own. -/
theorem run_app {P : Program} (w : World) (t tx ty e : TypeId) (ht : P.underlying t = some (.slice e)) {z : Value} {size bytes : Nat} (he : Elem P e z size bytes)
    {v : Value} {n base : Nat} {xs : List Value} (hown : w.ownsRow base e size v n xs) {x : Value} {m : Nat} {news : List Value} (hx : Src P w tx x size m news) (h1 : ∀ u ∈ news, u.oneCell' = true)
    (hb : (n + m) * bytes ≤ 140737488355328) (h63 : n + m ≤ maxLen) (hbase : base ≤ w.heap.size) :
    ∃ v' w', (Builtin.append_ #[t, tx] ty #[v, x]).run P w = .ok v' w' ∧ w'.ownsRow base e size v' (n + m) (xs ++ news) ∧ w.grownBy w' v.ownBlock ∧ (v'.ownBlock = v.ownBlock ∨ v'.ownBlock = some w.heap.size) := by
  rcases hown.2 with ⟨rfl, rfl⟩ | ⟨g, cap, cur, rfl, hbg, hgc, hnc, hcm, hcs, htake⟩
  · have hxs : xs = [] := List.eq_nil_of_length_eq_zero (by simpa using hown.1)
    subst hxs
    by_cases hm : m = 0
    · subst hm
      have hnews : news = [] := List.eq_nil_of_length_eq_zero (by simpa using hx.many)
      subst hnews
      obtain ⟨i, hi, hz, rfl, rfl, hzs, hpos⟩ := he
      obtain ⟨u, hu, hk⟩ := hx.kind
      have hcells := hx.cells w (fun _ => rfl)
      refine ⟨.slice none 0 0, w, ?_, World.ownsRow_nil w base e i.size, ⟨rfl, rfl, rfl, Nat.le_refl _, fun _ _ _ => rfl⟩, .inl rfl⟩
      simp [Builtin.append_, run_underlying ht, run_underlying hu, sizeOf, typeInfo, hi, hx.len, hcells]
    · obtain ⟨v', w', h1, h2, h3, h4⟩ := run_app_grow w t tx ty e ht he (Sl.nil w none) (n := 0) (cap := 0) (by simp) hx (by omega) hb h63 base hbase
      exact ⟨v', w', h1, h2, h3 _, .inr h4⟩
  · by_cases hroom : n + m ≤ cap
    · obtain ⟨i, hi, hz, rfl, rfl, hzs, hpos⟩ := he
      obtain ⟨u, hu, hk⟩ := hx.kind
      have hcells := hx.cells w (fun _ => rfl)
      have hlen : (xs ++ news).length = (n + m) * i.size := by rw [List.length_append, hown.1, hx.many, Nat.add_mul]
      have hfit : n * i.size + news.length ≤ cur.size := by rw [hx.many, hcs, ← Nat.add_mul]; exact Nat.mul_le_mul_right _ hroom
      have hst := run_storeCells_at P g (n * i.size) e news 0 cur w hgc (by simpa using hfit) h1
      simp only [Nat.add_zero] at hst
      refine ⟨.slice (some ⟨g, 0, none⟩) (n + m) cap, w.setRow g (cur.toList.take (n * i.size) ++ news ++ cur.toList.drop (n * i.size + news.length)).toArray, ?_, ⟨hlen, .inr ⟨g, cap, _, rfl, hbg, setRow_heap w g cur _ e _ hgc, hroom, hcm, ?_, ?_⟩⟩,
        ⟨rfl, rfl, rfl, by simp, fun k _ hk => setRow_other w g k _ (fun e => hk (by simp [Value.ownBlock, e]))⟩, .inl rfl⟩
      · simp [Builtin.append_, run_underlying ht, run_underlying hu, sizeOf, typeInfo, hi, hx.len, hroom, hcells, Addr.add_lit, hst]
      · simp only [List.size_toArray, List.length_append, List.length_take, List.length_drop, Array.length_toList]
        omega
      · rw [htake, ← hlen]
        exact List.take_left
    · have hsl : Sl w (some ⟨g, 0, none⟩) xs := by
        intro j hj
        have := hown.cells (g := g) rfl j _ (List.getElem?_eq_getElem hj)
        rw [Addr.add_lit] at this
        exact ⟨g, 0, rfl, this⟩
      obtain ⟨v', w', h1, h2, h3, h4⟩ := run_app_grow w t tx ty e ht he hsl (n := n) (cap := cap) hown.1 hx (by omega) hb h63 base hbase
      exact ⟨v', w', h1, h2, h3 _, .inr h4⟩

/-- What is owned reads as a slice. -/
theorem owns_sl {w : World} {base e size n : Nat} {v : Value} {xs : List Value} (h : w.ownsRow base e size v n xs) : ∃ a cap, v = .slice a n cap ∧ Sl w a xs ∧ xs.length = n * size ∧ n ≤ cap ∧ cap ≤ maxLen := by
  rcases h.2 with ⟨rfl, rfl⟩ | ⟨g, cap, cur, rfl, _, _, hn, hm, _⟩
  · exact ⟨none, 0, rfl, by rw [List.eq_nil_of_length_eq_zero (show xs.length = 0 by simpa using h.1)]; exact Sl.nil _ _, h.1, Nat.le_refl _, Nat.zero_le _⟩
  · refine ⟨_, cap, rfl, fun j hj => ⟨g, 0, rfl, ?_⟩, h.1, hn, hm⟩
    have := h.cells (g := g) rfl j _ (List.getElem?_eq_getElem hj)
    rw [Addr.add_lit] at this
    exact this

section
variable {P : Program} {w : World} {ops : Array Oper} {rest : List Oper} {o : Oper} {a : Act} {Q : Exit → Act → World → Prop}

/-- The walk's law: append to a row of the call's own. -/
theorem wpList_app (hgd : o.guard = none) {s x : Operand} {t tx : TypeId} (ho : o.op = .call { callee := .builtin .append, args := #[s, x], argTypes := #[t, tx] })
    {e : TypeId} (ht : P.underlying t = some (.slice e)) {z : Value} {size bytes : Nat} (he : Elem P e z size bytes) {v : Value} {n base : Nat} {xs : List Value} (hown : w.ownsRow base e size v n xs) (hs : a.eval s = v)
    {xv : Value} {m : Nat} {news : List Value} (hx : Src P w tx xv size m news) (hxv : a.eval x = xv) (h1 : ∀ u ∈ news, u.oneCell' = true)
    (hb : (n + m) * bytes ≤ 140737488355328) (h63 : n + m ≤ maxLen) (hbase : base ≤ w.heap.size)
    (h : ∀ v' w', w'.ownsRow base e size v' (n + m) (xs ++ news) → Below base w w' → w.grownBy w' v.ownBlock → (v'.ownBlock = v.ownBlock ∨ v'.ownBlock = some w.heap.size) → wpList P ops Q rest (a.put o.dst v') w') : wpList P ops Q (o :: rest) a w := by
  refine wpList_plain hgd fun K hK => ?_
  obtain ⟨v', w', hr, h2, h3, h4⟩ := run_app w t tx o.type e ht he hown hx h1 hb h63 hbase
  unfold Oper.wp execOp
  simp only [ho, resolve, invoke, builtin, Sem.run_bind, Sem.run_pure, Result.andThen_ok, List.map_toArray, List.map_cons, List.map_nil, hs, hxv, hr]
  exact hK _ _ (h v' w' h2 ((Below.refl _ _).grown h3 hbase fun k hk => (hown.lt k hk).1) h3 h4)

end

/-! ### Bytes and texts -/
/-- A text of bytes. -/
def str (l : List UInt8) : ByteArray := ⟨l.toArray⟩
@[simp] theorem str_data (l : List UInt8) : (str l).data.toList = l := rfl
@[simp] theorem str_size (l : List UInt8) : (str l).size = l.length := by simp [str, ByteArray.size]
@[simp] theorem str_toList (l : List UInt8) : (str l).toList = l := by rw [ByteArray.toList_eq]; rfl
theorem str_of (s : ByteArray) : str s.data.toList = s := rfl

theorem run_bts {P : Program} (w : World) (src dst e : TypeId) (hs : P.underlying src = some (.slice e)) (he : P.underlying e = some (.int .u8)) (hd : P.underlying dst = some .string)
    {a : Option Addr} {l : List UInt8} (h : Sl w a (l.map vb)) (n cap : Nat) (hn : n = l.length) : (convert src dst (.slice a n cap)).run P w = .ok (.string (str l)) w := by
  subst hn
  cases a with
  | none =>
    by_cases hl : l = []
    · subst hl
      exact run_convert_bytes_nil w src e hs he _ _ dst hd
    · obtain ⟨b, off, hb⟩ := h.cells (by simpa using hl)
      cases hb
  | some b =>
    refine run_convert_bytes_back w src dst e b cap l hs he hd fun j hj => ?_
    obtain ⟨b', off, hb, hc⟩ := h.get j hj
    cases hb
    rw [Addr.add_lit]
    exact hc

section
variable {P : Program} {w : World} {ops : Array Oper} {rest : List Oper} {o : Oper} {a : Act} {Q : Exit → Act → World → Prop}

theorem wpList_bts (hgd : o.guard = none) {src dst e : TypeId} {x : Operand} (ho : o.op = .convert src dst x) (hs : P.underlying src = some (.slice e)) (he : P.underlying e = some (.int .u8)) (hd : P.underlying dst = some .string)
    {ad : Option Addr} {n cap : Nat} (hx : a.eval x = .slice ad n cap) {l : List UInt8} (hsl : Sl w ad (l.map vb)) (hn : n = l.length)
    (h : wpList P ops Q rest (a.put o.dst (.string (str l))) w) : wpList P ops Q (o :: rest) a w := by
  refine wpList_plain hgd fun K hK => ?_
  have hr := run_bts w src dst e hs he hd hsl n cap hn
  unfold Oper.wp execOp
  simp only [ho, hx, Sem.run_bind, hr, Result.andThen_ok, Sem.run_pure]
  exact hK _ _ h

theorem wpList_stb (hgd : o.guard = none) {src dst e : TypeId} {x : Operand} (ho : o.op = .convert src dst x) (hs : P.underlying src = some .string) (hd : P.underlying dst = some (.slice e)) (he : P.underlying e = some (.int .u8))
    {s : ByteArray} (hx : a.eval x = .string s)
    (h : ∀ ad cap w', Sl w' ad (s.data.toList.map vb) → Below w.heap.size w w' → w.heap.size < w'.heap.size → wpList P ops Q rest (a.put o.dst (.slice ad s.size cap)) w') : wpList P ops Q (o :: rest) a w := by
  refine wpList_plain hgd fun K hK => ?_
  have hr := run_bytes_of_string (P := P) w src dst e s hs hd he
  unfold Oper.wp execOp
  simp only [ho, hx, Sem.run_bind, hr, Result.andThen_ok, Sem.run_pure]
  refine hK _ _ (h _ _ _ ?_ ?_ ?_)
  · intro i hi
    refine ⟨w.heap.size, 0, rfl, ?_⟩
    have hi' : i < s.data.size := by simpa using hi
    rw [cell_of_row _ w.heap.size (0 + i) _ e _ (heap_alloc_new w.drew _)]
    simp only [bytesRow, Nat.zero_add]
    rw [Array.getElem?_append_left (by simpa using hi')]
    simp [vb]
    exact ⟨_, Array.getElem?_eq_getElem hi', rfl⟩
  · exact (Below.refl _ _).drew.alloc (Nat.le_refl _) _
  · simp
end

theorem cell_freeze (w : World) (b : Addr) (n : Nat) (p : Addr) : (w.freeze b n).cell? p = w.cell? p := by
  unfold World.freeze
  split
  · rfl
  · simp only [World.cell?, Array.getElem?_modify]
    by_cases h : b.block = p.block
    · rw [h]
      simp only [if_true]
      cases w.heap[p.block]? with
      | none => rfl
      | some o => cases o <;> rfl
    · simp [h]

section
variable {P : Program} {w : World} {ops : Array Oper} {rest : List Oper} {o : Oper} {a : Act} {Q : Exit → Act → World → Prop}
end

/-- A new row reads as its cells. -/
theorem Sl.new (w : World) (cs : Array Value) (e : TypeId) (fr : Nat × Nat) : Sl (w.alloc (.cells cs e fr)) (some ⟨w.heap.size, 0, none⟩) cs.toList := by
  intro i hi
  have hi' : i < cs.size := by simpa using hi
  refine ⟨w.heap.size, 0, rfl, ?_⟩
  rw [cell_of_row _ w.heap.size (0 + i) _ e _ (heap_alloc_new w _), Nat.zero_add]
  simp

theorem vb_ofNat (n : Nat) : vb (UInt8.ofNat n) = .int .u8 ((n : Int) % 256) := by simp [vb, UInt8.toNat_ofNat']

section
variable {P : Program} {w : World} {ops : Array Oper} {rest : List Oper} {o : Oper} {a : Act} {Q : Exit → Act → World → Prop}
/-- make([]T, 0, n). -/
theorem wpList_mk (hg : o.guard = none) {l c : Operand} {t : TypeId} (hop : o.op = Op.makeSlice t l c)
    {e : TypeId} (h1 : P.underlying t = some (.slice e)) {z : Value} {size bytes : Nat} (he : Elem P e z size bytes)
    {kl kc : IntKind} {C : Int} (hl : a.eval l = .int kl 0) (hc : a.eval c = .int kc C) (n : Nat) (hC : C = (n : Int)) (hb : n * bytes ≤ 281474976710656) (hm : n ≤ maxLen)
    (hK : ∀ w', w'.ownsRow w.heap.size e size (.slice (some ⟨w.heap.size, 0, none⟩) 0 n) 0 [] → (∀ row, w.grownBy w' row) → wpList P ops Q rest (a.put o.dst (.slice (some ⟨w.heap.size, 0, none⟩) 0 n)) w') :
    wpList P ops Q (o :: rest) a w := by
  obtain ⟨i, hi, hz, hs, hby, hzs, hpos⟩ := he
  refine wpList_make_own w hg l c t hop w.heap.size e i z size h1 hi hz hs kl kc C n hl hc hC (by rw [hby, Nat.mul_comm]; exact hb) hm (Nat.le_refl _) fun w' h2 h3 => hK w' h2 fun row => ?_
  exact ⟨h3.os, h3.tape, h3.output, h3.size, fun k hk _ => h3.block k hk (by simp)⟩

/-- make([]T, n). -/
theorem wpList_mkfull (hg : o.guard = none) {l c : Operand} {t : TypeId} (hop : o.op = Op.makeSlice t l c)
    {e : TypeId} (h1 : P.underlying t = some (.slice e)) {z : Value} {size bytes : Nat} (he : Elem P e z size bytes)
    {kl kc : IntKind} {L C : Int} (hl : a.eval l = .int kl L) (hc : a.eval c = .int kc C) (n : Nat) (hL : L = (n : Int)) (hC : C = (n : Int)) (hb : n * bytes ≤ 281474976710656) (hm : n ≤ maxLen)
    (hK : ∀ w', w'.ownsRow w.heap.size e size (.slice (some ⟨w.heap.size, 0, none⟩) n n) n (madeCells z.cells (n * size)).toList → (∀ row, w.grownBy w' row) → wpList P ops Q rest (a.put o.dst (.slice (some ⟨w.heap.size, 0, none⟩) n n)) w') :
    wpList P ops Q (o :: rest) a w := by
  obtain ⟨i, hi, hz, hs, hby, hzs, hpos⟩ := he
  refine wpList_make_full w hg l c t hop w.heap.size e i z size h1 hi hz hs kl kc L C n hl hc hL hC (by rw [hby, Nat.mul_comm]; exact hb) hm (Nat.le_refl _) fun w' h2 h3 => hK w' h2 fun row => ?_
  exact ⟨h3.os, h3.tape, h3.output, h3.size, fun k hk _ => h3.block k hk (by simp)⟩
end

theorem below_grown {w w' : World} (h : ∀ row, w.grownBy w' row) : Below w.heap.size w w' :=
  (Below.refl _ _).grown (h none) (Nat.le_refl _) (by simp)

theorem vb_one (l : List UInt8) : ∀ u ∈ l.map vb, u.oneCell' = true := by
  intro u hu
  obtain ⟨_, _, rfl⟩ := List.mem_map.1 hu
  rfl

/-! ### Regions that draw their order, whose callees make memory of their own: the class of the worlds that grew out of one -/
/-- A world in which all that was there still stands as it stood. -/
def Past (w : World) : Type := { x : World // Below w.heap.size w x }
instance (w : World) : Nonempty (Past w) := ⟨⟨w, Below.refl _ _⟩⟩

theorem Past.cell {w : World} (s : Past w) {p : Addr} {v : Value} (h : w.cell? p = some v) : s.1.cell? p = some v := by
  rw [s.2.cell (World.block_lt_of_cell? w _ h)]; exact h
theorem Past.sl {w : World} (s : Past w) {a : Option Addr} {xs : List Value} (h : Sl w a xs) : Sl s.1 a xs := h.below s.2
theorem Past.next {w w' : World} (s : Past w) (h : Below s.1.heap.size s.1 w') : ∃ t : Past w, w' = t.1 := ⟨⟨w', s.2.trans (h.mono s.2.size)⟩, rfl⟩

theorem wp_region_past_lit {P : Program} {id : Nat} {Q : Exit → Act → World → Prop} {a : Act} {w : World} {l : List Oper} (hm : P.follows .mixedOrders = true) (hB : Region.lexB .any l.toArray = true)
    (h : wpQuiet P l.toArray (fun w' => ∃ s : Past w, w' = s.1) (fun a' => ∀ w', (∃ s : Past w, w' = s.1) → Q .normal a' w') l a) : (Code.region id l.toArray true).wp P Q a w :=
  wp_region_quiet (C := fun w' => ∃ s : Past w, w' = s.1) hm hB ⟨⟨_, (Below.refl _ _).drew⟩, rfl⟩ (by simpa using h)

theorem Calls.past {P : Program} {f : FuncId} {args : Array Value} {w : World} {s : Past w} {v : Value} (h : Calls P f args s.1 fun e w' => e = .returned v ∧ Below s.1.heap.size s.1 w') :
    Calls P f args s.1 fun e w'' => e = .returned v ∧ ∃ t : Past w, w'' = t.1 :=
  h.mono fun _ _ ⟨he, hb⟩ => ⟨he, s.next hb⟩

/-! ### What came in -/
/-! ### Bits of int -/
theorem ofInt_i64 (a : Nat) (ha : a < 9223372036854775808) : (BitVec.ofInt 64 (a : Int)).toNat = a := by
  rw [BitVec.ofInt_natCast, BitVec.toNat_ofNat]; exact Nat.mod_eq_of_lt (by omega)
theorem wrap_i64_nat (a : Nat) (ha : a < 9223372036854775808) : IntKind.i64.wrap (a : Int) = a := by
  simp only [IntKind.wrap, IntKind.bits, IntKind.signed]
  simp
  omega
theorem i64_and_nat (a b : Nat) (ha : a < 9223372036854775808) (hb : b < 9223372036854775808) : bits .and .i64 (a : Int) (b : Int) = ((a &&& b : Nat) : Int) := by
  have hx : a &&& b < 2 ^ 63 := Nat.and_lt_two_pow _ (by omega)
  show IntKind.i64.wrap ((BitVec.ofInt 64 (a : Int) &&& BitVec.ofInt 64 (b : Int)).toNat : Int) = _
  rw [BitVec.toNat_and, ofInt_i64 a ha, ofInt_i64 b hb, wrap_i64_nat _ (by omega)]
theorem i64_or_nat (a b : Nat) (ha : a < 9223372036854775808) (hb : b < 9223372036854775808) : bits .or .i64 (a : Int) (b : Int) = ((a ||| b : Nat) : Int) := by
  have hx : a ||| b < 2 ^ 63 := Nat.or_lt_two_pow (by omega) (by omega)
  show IntKind.i64.wrap ((BitVec.ofInt 64 (a : Int) ||| BitVec.ofInt 64 (b : Int)).toNat : Int) = _
  rw [BitVec.toNat_or, ofInt_i64 a ha, ofInt_i64 b hb, wrap_i64_nat _ (by omega)]
end Go.Ofp
end

section
/- More words that all texts of this seat share: appends onto slices that are full. -/
set_option linter.unusedSimpArgs false
set_option linter.unusedVariables false
namespace Go.Ofp
open Go.RowKit

/-- A slice to which an append makes a row of its own: the call's own already, or full. -/
def Full (w : World) (base e size : Nat) (v : Value) (n : Nat) (xs : List Value) : Prop :=
  w.ownsRow base e size v n xs ∨ ∃ a, v = .slice a n n ∧ Sl w a xs ∧ xs.length = n * size

theorem Full.own {w : World} {base e size n : Nat} {v : Value} {xs : List Value} (h : w.ownsRow base e size v n xs) : Full w base e size v n xs := .inl h
theorem Full.full {w : World} {a : Option Addr} {base e size n : Nat} {xs : List Value} (h : Sl w a xs) (hl : xs.length = n * size) : Full w base e size (.slice a n n) n xs := .inr ⟨a, rfl, h, hl⟩

theorem Full.alloc {w : World} {base e size n : Nat} {v : Value} {xs : List Value} (h : Full w base e size v n xs) (o : Obj) : Full (w.alloc o) base e size v n xs := by
  rcases h with h | ⟨a, rfl, hs, hl⟩
  · exact .inl (h.alloc o)
  · exact .inr ⟨a, rfl, hs.below ((Below.refl _ _).alloc (Nat.le_refl _) _), hl⟩

section
variable {P : Program} {w : World} {ops : Array Oper} {rest : List Oper} {o : Oper} {a : Act} {Q : Exit → Act → World → Prop}

theorem run_app_full (w : World) (t tx ty e : TypeId) (ht : P.underlying t = some (.slice e)) {z : Value} {size bytes : Nat} (he : Elem P e z size bytes)
    {v : Value} {n base : Nat} {xs : List Value} (hf : Full w base e size v n xs) {x : Value} {m : Nat} {news : List Value} (hx : Src P w tx x size m news) (h1 : ∀ u ∈ news, u.oneCell' = true) (hm : 0 < m)
    (hb : (n + m) * bytes ≤ 140737488355328) (h63 : n + m ≤ maxLen) (hbase : base ≤ w.heap.size) :
    ∃ v' w', (Builtin.append_ #[t, tx] ty #[v, x]).run P w = .ok v' w' ∧ w'.ownsRow base e size v' (n + m) (xs ++ news) ∧ Below base w w' := by
  rcases hf with h | ⟨a, rfl, hs, hl⟩
  · obtain ⟨v', w', r, h2, h3, _⟩ := run_app w t tx ty e ht he h hx h1 hb h63 hbase
    exact ⟨v', w', r, h2, (Below.refl _ _).grown h3 hbase fun k hk => (h.lt k hk).1⟩
  · obtain ⟨v', w', r, h2, h3, h4⟩ := run_app_grow w t tx ty e ht he hs (n := n) (cap := n) hl hx (by omega) hb h63 base hbase
    exact ⟨v', w', r, h2, (Below.refl _ _).grown (h3 none) hbase (by simp)⟩

/-- The walk's law: append of at least one element. -/
theorem wpList_app_full (hgd : o.guard = none) {s x : Operand} {t tx : TypeId} (ho : o.op = .call { callee := .builtin .append, args := #[s, x], argTypes := #[t, tx] })
    {e : TypeId} (ht : P.underlying t = some (.slice e)) {z : Value} {size bytes : Nat} (he : Elem P e z size bytes) {v : Value} {n base : Nat} {xs : List Value} (hf : Full w base e size v n xs) (hs : a.eval s = v)
    {xv : Value} {m : Nat} {news : List Value} (hx : Src P w tx xv size m news) (hxv : a.eval x = xv) (h1 : ∀ u ∈ news, u.oneCell' = true) (hm : 0 < m)
    (hb : (n + m) * bytes ≤ 140737488355328) (h63 : n + m ≤ maxLen) (hbase : base ≤ w.heap.size)
    (h : ∀ v' w', w'.ownsRow base e size v' (n + m) (xs ++ news) → Below base w w' → wpList P ops Q rest (a.put o.dst v') w') : wpList P ops Q (o :: rest) a w := by
  refine wpList_plain hgd fun K hK => ?_
  obtain ⟨v', w', hr, h2, h3⟩ := run_app_full w t tx o.type e ht he hf hx h1 hm hb h63 hbase
  unfold Oper.wp execOp
  simp only [ho, resolve, invoke, builtin, Sem.run_bind, Sem.run_pure, Result.andThen_ok, List.map_toArray, List.map_cons, List.map_nil, hs, hxv, hr]
  exact hK _ _ (h v' w' h2 h3)
end

/-! ### A block that is known whole; what a call leaves that writes to one block alone -/
def Whole (w : World) (g : Nat) (t : TypeId) (cs : Array Value) : Prop := w.heap[g]? = some (.cells cs t (0, 0))

section
variable {w w' : World} {g : Nat} {t : TypeId} {cs : Array Value}
theorem Whole.lt (h : Whole w g t cs) : g < w.heap.size := (Array.getElem?_eq_some_iff.1 h).1
theorem Whole.cell (h : Whole w g t cs) (i : Nat) : w.cell? ⟨g, i, none⟩ = cs[i]? := cell_of_row w g i cs t (0, 0) h
theorem Whole.frozen (h : Whole w g t cs) (i : Nat) : w.frozen? ⟨g, i, none⟩ = false := by
  unfold Whole at h
  simp only [World.frozen?, h]
  simp
theorem Whole.new (w : World) (t : TypeId) (cs : Array Value) : Whole (w.alloc (.cells cs t)) w.heap.size t cs := heap_alloc_new w _
theorem Whole.set (h : Whole w g t cs) (i : Nat) (u : Value) : Whole (w.setCell ⟨g, i, none⟩ u) g t (cs.setIfInBounds i u) := by
  unfold Whole at h ⊢
  simp [World.setCell, Array.getElem?_modify, h]
theorem Whole.keep {row : Option Nat} (h : Whole w g t cs) (hb : w.grownBy w' row) (hg : some g ≠ row) : Whole w' g t cs := (hb.block g h.lt hg).trans h
theorem Whole.below {B : Nat} (h : Whole w g t cs) (hb : Below B w w') (hg : g < B) : Whole w' g t cs := (hb.block g hg).trans h
theorem Whole.drewN (h : Whole w g t cs) (n : Nat) : Whole (w.drewN n) g t cs := h
theorem Whole.drew (h : Whole w g t cs) : Whole w.drew g t cs := h
end

theorem grown_refl (w : World) (row : Option Nat) : w.grownBy w row := ⟨rfl, rfl, rfl, Nat.le_refl _, fun _ _ _ => rfl⟩
theorem grown_drewN (w : World) (n : Nat) (row : Option Nat) : w.grownBy (w.drewN n) row := ⟨rfl, rfl, rfl, Nat.le_refl _, fun _ _ _ => rfl⟩
theorem grown_trans {a b c : World} {row : Option Nat} (h : a.grownBy b row) (k : b.grownBy c row) : a.grownBy c row :=
  ⟨k.os.trans h.os, k.tape.trans h.tape, k.output.trans h.output, Nat.le_trans h.size k.size, fun i hi hr => (k.block i (Nat.lt_of_lt_of_le hi h.size) hr).trans (h.block i hi hr)⟩
theorem grown_set (w : World) (g i : Nat) (u : Value) : w.grownBy (w.setCell ⟨g, i, none⟩ u) (some g) :=
  ⟨rfl, rfl, rfl, by simp [World.setCell], fun k _ hk => Below.heap_setCell w ⟨g, i, none⟩ u k (fun e => hk (by rw [e]))⟩
theorem below_of_grown {w w' : World} {g B : Nat} (h : w.grownBy w' (some g)) (hB : B ≤ g) (hw : B ≤ w.heap.size) : Below B w w' :=
  (Below.refl _ _).grown h hw fun k hk => by cases hk; exact hB

/-- A slice that lies in another block than the one that is written. -/
def Off (a : Option Addr) (g : Nat) : Prop := ∀ b off, a = some ⟨b, off, none⟩ → b ≠ g

theorem Sl.grown {w w' : World} {a : Option Addr} {g : Nat} {xs : List Value} (h : Sl w a xs) (ho : Off a g) (hg : w.grownBy w' (some g)) : Sl w' a xs := by
  intro i hi
  obtain ⟨b, off, ha, hc⟩ := h i hi
  refine ⟨b, off, ha, ?_⟩
  rw [World.cell?_of_block (hg.block b (World.block_lt_of_cell? w _ hc) (by simpa using ho b off ha))]
  exact hc

theorem Sl.drop {w : World} {b off : Nat} {xs : List Value} (h : Sl w (some ⟨b, off, none⟩) xs) (k : Nat) : Sl w (some ⟨b, off + k, none⟩) (xs.drop k) := by
  intro i hi
  rw [List.length_drop] at hi
  obtain ⟨b', off', ha, hc⟩ := h (k + i) (by omega)
  cases ha
  exact ⟨b, off + k, rfl, by rw [List.getElem_drop, Nat.add_assoc]; exact hc⟩

theorem or_high (n : Nat) : bits .or .u8 ((n : Int) % 256) 128 = (((n % 128 + 128 : Nat)) : Int) := by
  have h := u8_or_nat (n % 256) 128 (by omega) (by decide)
  have e : ∀ x, x < 256 → x ||| 128 = x % 128 + 128 := by decide +kernel
  rw [e (n % 256) (by omega), show n % 256 % 128 = n % 128 by omega] at h
  rw [← h]
  rfl

theorem vb_small (n : Nat) (h : n < 256) : vb (UInt8.ofNat n) = .int .u8 (n : Int) := by
  rw [vb_ofNat]; congr 1; omega

/-- Seven bits more of a number. -/
theorem step7 (v c i : Nat) (hv : v < 2 ^ i) (hi : i ≤ 40) (hc : c < 256) :
    bits .or .i64 (v : Int) (wrap64 (wrap64 (bits .and .u8 (c : Int) 127) * ((2 ^ i : Nat) : Int))) = ((v + 2 ^ i * (c % 128) : Nat) : Int) := by
  rw [← IntWalk.i64_left, ← IntWalk.i64_left]
  have h1 : bits .and .u8 (c : Int) 127 = ((c % 128 : Nat) : Int) := by
    have := u8_and_nat c 127 hc (by decide)
    rw [nat_mask7] at this
    exact this
  have hp : 2 ^ i ≤ 2 ^ 40 := Nat.pow_le_pow_right (by decide) hi
  have hm : c % 128 < 128 := Nat.mod_lt _ (by decide)
  have hx : c % 128 * 2 ^ i ≤ 128 * 2 ^ 40 := Nat.mul_le_mul (by omega) hp
  rw [h1, wrap_i64_nat _ (by omega), ← Int.natCast_mul, wrap_i64_nat _ (by omega), i64_or_nat _ _ (by omega) (by omega), Nat.or_comm, nat_join i _ _ (Nat.mul_mod_left _ _) hv, Nat.mul_comm, Nat.add_comm]

end Go.Ofp
end

section
/- More laws for the walk: copy into a row of the call's own. -/
set_option linter.unusedSimpArgs false
set_option linter.unusedVariables false
namespace Go.Ofp
open Go.RowKit

section
variable {P : Program} {w : World} {ops : Array Oper} {rest : List Oper} {o : Oper} {a : Act} {Q : Exit → Act → World → Prop}

theorem run_copy_all (w : World) (t tx ty e : TypeId) (ht : P.underlying t = some (.slice e)) {z : Value} {size bytes : Nat} (he : Elem P e z size bytes)
    {g n c base : Nat} {xs : List Value} (hown : w.ownsRow base e size (.slice (some ⟨g, 0, none⟩) n c) n xs) {x : Value} {news : List Value} (hx : Src P w tx x size n news) (h1 : ∀ u ∈ news, u.oneCell' = true) :
    ∃ w', (Builtin.copy_ #[t, tx] ty #[.slice (some ⟨g, 0, none⟩) n c, x]).run P w = .ok (.int .i64 n) w' ∧ w'.ownsRow base e size (.slice (some ⟨g, 0, none⟩) n c) n news ∧ w.grownBy w' (some g) := by
  obtain ⟨i, hi, hz, rfl, rfl, hzs, hpos⟩ := he
  rcases hown.2 with ⟨h, _⟩ | ⟨g', cap, cur, hv, hbg, hgc, hnc, hcm, hcs, htake⟩
  · cases h
  cases hv
  have hcells := hx.cells w (fun _ => rfl)
  have hlen := hx.many
  have hfit : 0 + news.length ≤ cur.size := by rw [hlen, hcs]; have := Nat.mul_le_mul_right i.size hnc; omega
  have hst := run_storeCells_at P g 0 e news 0 cur w hgc (by simpa using hfit) h1
  simp only [Nat.add_zero] at hst
  refine ⟨w.setRow g (cur.toList.take 0 ++ news ++ cur.toList.drop (0 + news.length)).toArray, ?_, ⟨hlen, .inr ⟨g, c, _, rfl, hbg, setRow_heap w g cur _ e _ hgc, hnc, hcm, ?_, ?_⟩⟩,
    ⟨rfl, rfl, rfl, by simp, fun k _ hk => setRow_other w g k _ (fun e => hk (by simp [e]))⟩⟩
  · simp [Builtin.copy_, run_underlying ht, sizeOf, typeInfo, hi, hx.len, hcells, hst, goInt]
  · simp only [List.size_toArray, List.length_append, List.length_take, List.length_drop, Array.length_toList]
    omega
  · simp only [List.take_zero, List.nil_append, ← hlen]
    exact List.take_left

theorem wpList_copy_all (hgd : o.guard = none) {s x : Operand} {t tx : TypeId} (ho : o.op = .call { callee := .builtin .copy, args := #[s, x], argTypes := #[t, tx] })
    {e : TypeId} (ht : P.underlying t = some (.slice e)) {z : Value} {size bytes : Nat} (he : Elem P e z size bytes)
    {g n c base : Nat} {xs : List Value} (hown : w.ownsRow base e size (.slice (some ⟨g, 0, none⟩) n c) n xs) (hs : a.eval s = .slice (some ⟨g, 0, none⟩) n c) {xv : Value} {news : List Value} (hx : Src P w tx xv size n news) (hxv : a.eval x = xv) (h1 : ∀ u ∈ news, u.oneCell' = true)
    (h : ∀ w', w'.ownsRow base e size (.slice (some ⟨g, 0, none⟩) n c) n news → w.grownBy w' (some g) → wpList P ops Q rest (a.put o.dst (.int .i64 n)) w') : wpList P ops Q (o :: rest) a w := by
  refine wpList_plain hgd fun K hK => ?_
  obtain ⟨w', hr, h2, h3⟩ := run_copy_all w t tx o.type e ht he hown hx h1
  unfold Oper.wp execOp
  simp only [ho, resolve, invoke, builtin, Sem.run_bind, Sem.run_pure, Result.andThen_ok, List.map_toArray, List.map_cons, List.map_nil, hs, hxv, hr]
  exact hK _ _ (h w' h2 h3)
end

/-- A cut of a slice, whose address bears Go's own 'if'. -/
theorem Sl.cut {w : World} {b off k cap : Nat} {xs : List Value} (h : Sl w (some ⟨b, off + k, none⟩) xs) (hc : cap = k → xs = []) :
    Sl w (if cap = k then some ⟨b, off, none⟩ else some ⟨b, off + k, none⟩) xs := by
  split
  · rename_i e
    rw [hc e]
    exact Sl.nil _ _
  · exact h

end Go.Ofp
end

section
/- Records cut into pieces, and pieces joined: the plain law of both ways to do it. -/
set_option linter.unusedSimpArgs false
set_option linter.unusedVariables false
namespace Go.Ofp
set_option linter.unusedVariables false

/-- A piece of a record. -/
structure Pc where
  life : Int
  place : Int
  first : Bool
  last : Bool
  body : ByteArray

def Pc.row (p : Pc) : List Value := [.int .i64 p.life, .int .i64 p.place, .bool p.first, .bool p.last, .string p.body]
def Pc.val (p : Pc) : Value := .agg p.row.toArray

@[simp] theorem Pc.row_length (p : Pc) : p.row.length = 5 := rfl

def Pc.ok (p : Pc) : Bool := decide (1 ≤ p.life) && (decide (p.life < 4294967296) && (decide (0 ≤ p.place) && (decide (p.place < 1099511627776) && decide (p.body.size ≤ 52))))

theorem Pc.ok_iff (p : Pc) : p.ok = true ↔ 1 ≤ p.life ∧ p.life < 4294967296 ∧ 0 ≤ p.place ∧ p.place < 1099511627776 ∧ p.body.size ≤ 52 := by
  simp [Pc.ok]

/-- How many pieces a record has. -/
def manyB (n : Nat) : Nat := if n ≤ 52 then 1 else (n - 1) / 52 + 1

theorem manyB_pos (n : Nat) : 0 < manyB n := by unfold manyB; split <;> omega
theorem manyB_le (n : Nat) : n ≤ manyB n * 52 := by unfold manyB; split <;> omega
theorem manyB_eq (n : Nat) : (n ≤ 52 ∧ manyB n = 1) ∨ (52 < n ∧ manyB n = (n - 1) / 52 + 1) := by unfold manyB; split <;> omega
theorem manyB_lt (n : Nat) (h : 1 < manyB n) : (manyB n - 1) * 52 < n := by have := manyB_eq n; omega
theorem manyB_of (n m : Nat) (hm : 0 < m) (h1 : n ≤ m * 52) (h2 : m = 1 ∨ (m - 1) * 52 < n) : manyB n = m := by have := manyB_eq n; omega
theorem manyB_bound (n : Nat) : manyB n ≤ n + 1 := by unfold manyB; split <;> omega

/-- Piece number i. -/
def pieceAt (life place : Int) (rec : ByteArray) (n i : Nat) : Pc :=
  ⟨life, place + i, i == 0, i == n - 1, rec.extract (i * 52) (min rec.size ((i + 1) * 52))⟩

/-- May a record be cut there? -/
def cutOk (life place : Int) (n : Nat) : Bool := decide (0 ≤ place) && (decide (place + n ≤ 1099511627776) && (decide (1 ≤ life) && decide (life < 4294967296)))

theorem cutOk_iff (life place : Int) (n : Nat) : cutOk life place n = true ↔ 0 ≤ place ∧ place + n ≤ 1099511627776 ∧ 1 ≤ life ∧ life < 4294967296 := by simp [cutOk]

def cutB (life place : Int) (rec : ByteArray) : List Pc :=
  if cutOk life place (manyB rec.size) then (List.range (manyB rec.size)).map (pieceAt life place rec (manyB rec.size)) else []

theorem size_extract (s : ByteArray) (a b : Nat) : (s.extract a b).size = min b s.size - a := by simp

theorem pieceAt_size (life place : Int) (rec : ByteArray) (i : Nat) : (pieceAt life place rec (manyB rec.size) i).body.size = min rec.size ((i + 1) * 52) - i * 52 := by
  simp only [pieceAt, size_extract]
  omega

theorem pieceAt_ok (life place : Int) (rec : ByteArray) (i : Nat) (hi : i < manyB rec.size) (h0 : 0 ≤ place) : (pieceAt life place rec (manyB rec.size) i).ok = (decide (1 ≤ life) && (decide (life < 4294967296) && decide (place + i < 1099511627776))) := by
  rw [Bool.eq_iff_iff, Pc.ok_iff, pieceAt_size life place rec i]
  simp only [pieceAt, Bool.and_eq_true, decide_eq_true_eq]
  omega

/-- All bodies, in a row. -/
def catB (l : List Pc) : List UInt8 := (l.map fun p => p.body.data.toList).flatten

/-- May piece number i of n stand there, behind a first one? -/
def joinAt (l0 : Pc) (n i : Nat) (p : Pc) : Bool :=
  p.ok && (p.life == l0.life && (p.place == l0.place + i && (p.first == (i == 0) && (p.last == (i == n - 1) && ((i == n - 1 || decide (52 ≤ p.body.size)) && (i == 0 || decide (0 < p.body.size)))))))

theorem joinAt_iff (l0 : Pc) (n i : Nat) (p : Pc) : joinAt l0 n i p = true ↔ p.ok = true ∧ p.life = l0.life ∧ p.place = l0.place + i ∧ p.first = (i == 0) ∧ p.last = (i == n - 1) ∧ (i = n - 1 ∨ 52 ≤ p.body.size) ∧ (i = 0 ∨ 0 < p.body.size) := by
  simp [joinAt]

def joinOk (l : List Pc) : Bool := match l with
  | [] => false
  | l0 :: _ => (List.range l.length).all fun i => match l[i]? with
    | some p => joinAt l0 l.length i p
    | none => false

theorem joinOk_iff (l0 : Pc) (l : List Pc) (h0 : l[0]? = some l0) : joinOk l = true ↔ ∀ i p, l[i]? = some p → joinAt l0 l.length i p = true := by
  cases l with
  | nil => simp at h0
  | cons a l =>
    simp only [List.getElem?_cons_zero, Option.some.injEq] at h0
    subst h0
    simp only [joinOk, List.all_eq_true, List.mem_range]
    constructor
    · intro h i p hp
      have := h i (List.getElem?_eq_some_iff.1 hp).1
      rwa [hp] at this
    · intro h i hi
      rw [List.getElem?_eq_getElem hi]
      exact h i _ (List.getElem?_eq_getElem hi)

/-- The record of pieces, and whether there is one. -/
def joinB (l : List Pc) : ByteArray × Bool := if joinOk l then (str (catB l), true) else (str [], false)

theorem ba_ext {a b : ByteArray} (h : a.data.toList = b.data.toList) : a = b := ByteArray.ext (Array.ext' h)
theorem ba_size (s : ByteArray) : s.size = s.data.toList.length := by rw [Array.length_toList]; rfl
theorem extract_list (s : ByteArray) (a b : Nat) : (s.extract a b).data.toList = (s.data.toList.drop a).take (b - a) := by
  rw [ByteArray.data_extract, Array.toList_extract, List.extract_eq_take_drop]

theorem flat_at {α : Type} (k : Nat) : ∀ (bs : List (List α)) (i : Nat) (hi : i < bs.length), (∀ j (hj : j < bs.length), j < i → bs[j].length = k) → (bs.flatten.drop (i * k)).take bs[i].length = bs[i]
  | [], i, hi, _ => by simp at hi
  | b :: bs, 0, _, _ => by simp
  | b :: bs, i + 1, hi, h => by
    have h0 : b.length = k := h 0 (by simp) (by omega)
    have ih := flat_at k bs i (by simpa using hi) (fun j hj hji => by have := h (j + 1) (by simpa using hj) (by omega); simpa using this)
    have e : (i + 1) * k - b.length = i * k := by rw [h0, Nat.add_mul]; omega
    simp only [List.flatten_cons, List.getElem_cons_succ]
    rw [List.drop_append, e, List.drop_eq_nil_of_le (by rw [h0, Nat.add_mul]; omega), List.nil_append]
    exact ih

theorem flat_len {α : Type} (k : Nat) : ∀ (bs : List (List α)) (n : Nat) (hn : bs.length = n + 1), (∀ j (hj : j < bs.length), j < n → bs[j].length = k) → bs.flatten.length = n * k + (bs[n]'(by omega)).length
  | [], n, hn, _ => by simp at hn
  | [b], 0, _, _ => by simp
  | b :: c :: bs, 0, hn, _ => by simp at hn
  | b :: bs, n + 1, hn, h => by
    have h0 : b.length = k := h 0 (by simp) (by omega)
    have ih := flat_len k bs n (by simpa using hn) (fun j hj hji => by have := h (j + 1) (by simpa using hj) (by omega); simpa using this)
    simp only [List.flatten_cons, List.length_append, List.getElem_cons_succ, ih, h0, Nat.add_mul]
    omega

/-- A list, cut into pieces of k, is what the pieces come to. -/
theorem chunks_flat {α : Type} (k : Nat) (l : List α) : ∀ n, l.length ≤ n * k → ((List.range n).map fun i => (l.drop (i * k)).take k).flatten = l
  | 0, h => by
    have : l = [] := List.eq_nil_of_length_eq_zero (by omega)
    simp [this]
  | n + 1, h => by
    rw [List.range_succ_eq_map, List.map_cons, List.map_map, List.flatten_cons]
    have ih := chunks_flat k (l.drop k) n (by rw [List.length_drop, Nat.add_mul] at *; omega)
    have e : (List.range n).map ((fun i => (l.drop (i * k)).take k) ∘ Nat.succ) = (List.range n).map fun i => ((l.drop k).drop (i * k)).take k := by
      refine List.map_congr_left fun i _ => ?_
      simp only [Function.comp, List.drop_drop]
      congr 2
      rw [Nat.succ_mul]
      omega
    rw [e, ih]
    simp

theorem cutB_get {life place : Int} {rec : ByteArray} (h : cutOk life place (manyB rec.size) = true) (i : Nat) : (cutB life place rec)[i]? = if i < manyB rec.size then some (pieceAt life place rec (manyB rec.size) i) else none := by
  rw [cutB, if_pos h, List.getElem?_map]
  split
  · rename_i hi; rw [List.getElem?_range hi]; rfl
  · rename_i hi; rw [List.getElem?_eq_none (by simpa using hi)]; rfl

theorem cutB_length {life place : Int} {rec : ByteArray} (h : cutOk life place (manyB rec.size) = true) : (cutB life place rec).length = manyB rec.size := by
  rw [cutB, if_pos h]; simp

theorem pieceAt_body (life place : Int) (rec : ByteArray) (i : Nat) : (pieceAt life place rec (manyB rec.size) i).body.data.toList = (rec.data.toList.drop (i * 52)).take 52 := by
  simp only [pieceAt]
  rw [extract_list]
  by_cases h : (i + 1) * 52 ≤ rec.size
  · rw [Nat.min_eq_right h]; congr 1; omega
  · rw [Nat.min_eq_left (by omega), List.take_of_length_le (by rw [List.length_drop, ← ba_size]; omega), List.take_of_length_le (by rw [List.length_drop, ← ba_size]; omega)]

theorem cat_cut {life place : Int} {rec : ByteArray} (h : cutOk life place (manyB rec.size) = true) : catB (cutB life place rec) = rec.data.toList := by
  rw [catB, cutB, if_pos h, List.map_map]
  have e : (List.range (manyB rec.size)).map ((fun p : Pc => p.body.data.toList) ∘ pieceAt life place rec (manyB rec.size)) = (List.range (manyB rec.size)).map fun i => (rec.data.toList.drop (i * 52)).take 52 :=
    List.map_congr_left fun i _ => pieceAt_body _ _ _ _
  rw [e]
  exact chunks_flat 52 _ _ (by rw [← ba_size]; exact manyB_le _)

/-- Pieces that a cut makes stand where they may. -/
theorem join_cut_at {life place : Int} {rec : ByteArray} (h : cutOk life place (manyB rec.size) = true) (l0 : Pc) (h1 : l0.life = life) (h2 : l0.place = place) (i : Nat) (hi : i < manyB rec.size) :
    joinAt l0 (manyB rec.size) i (pieceAt life place rec (manyB rec.size) i) = true := by
  rw [cutOk_iff] at h
  rw [joinAt_iff, pieceAt_ok _ _ _ _ hi h.1, pieceAt_size]
  have := manyB_le rec.size
  have h3 := manyB_lt rec.size
  simp only [pieceAt, Bool.and_eq_true, decide_eq_true_eq, h1, h2]
  refine ⟨by omega, trivial, trivial, trivial, trivial, ?_, ?_⟩ <;> omega

theorem joinOk_iff_cut (l0 : Pc) (l : List Pc) (h0 : l[0]? = some l0) : joinOk l = true ↔ cutB l0.life l0.place (str (catB l)) = l := by
  have hpos : 0 < l.length := (List.getElem?_eq_some_iff.1 h0).1
  rw [joinOk_iff l0 l h0]
  constructor
  · intro h
    have hat : ∀ i (hi : i < l.length), joinAt l0 l.length i l[i] = true := fun i hi => h i _ (List.getElem?_eq_getElem hi)
    have hL : (l.map fun p : Pc => p.body.data.toList).length = l.length - 1 + 1 := by rw [List.length_map]; omega
    have h52 : ∀ j (hj : j < (l.map fun p : Pc => p.body.data.toList).length), j < l.length - 1 → ((l.map fun p : Pc => p.body.data.toList)[j]).length = 52 := by
      intro j hj hlt
      have hj' : j < l.length := by omega
      have := (joinAt_iff _ _ _ _).1 (hat j hj')
      have hk := ((Pc.ok_iff _).1 this.1).2.2.2.2
      rw [List.getElem_map, ← ba_size]
      omega
    have hlen := flat_len 52 _ (l.length - 1) hL h52
    rw [List.getElem_map, ← ba_size] at hlen
    have hlast := (joinAt_iff _ _ _ _).1 (hat (l.length - 1) (by omega))
    have hlok := (Pc.ok_iff _).1 hlast.1
    have hsz : (str (catB l)).size = (l.length - 1) * 52 + (l[l.length - 1]).body.size := by rw [str_size, catB]; exact hlen
    have hmany : manyB (str (catB l)).size = l.length := manyB_of _ _ hpos (by omega) (by omega)
    have hok : cutOk l0.life l0.place (manyB (str (catB l)).size) = true := by
      rw [cutOk_iff, hmany]
      have z := (joinAt_iff _ _ _ _).1 (hat 0 hpos)
      have zk := (Pc.ok_iff _).1 z.1
      omega
    refine List.ext_getElem? fun i => ?_
    rw [cutB_get hok, hmany]
    split
    · rename_i hi
      rw [List.getElem?_eq_getElem hi]
      have hi' := (joinAt_iff _ _ _ _).1 (hat i hi)
      have hik := (Pc.ok_iff _).1 hi'.1
      have hb : (l[i]).body = (pieceAt l0.life l0.place (str (catB l)) l.length i).body := by
        apply ba_ext
        rw [← hmany, pieceAt_body, str_data, catB]
        have hf := flat_at 52 (l.map fun p : Pc => p.body.data.toList) i (by simpa using hi) (fun j hj hji => h52 j hj (by omega))
        rw [List.getElem_map] at hf
        by_cases hl : i = l.length - 1
        · rw [List.take_of_length_le] 
          · rw [← hf, List.take_of_length_le]
            rw [List.length_drop, hlen, ← ba_size]
            subst hl
            omega
          · rw [List.length_drop, hlen]
            subst hl
            omega
        · have : (l[i]).body.data.toList.length = 52 := by have := h52 i (by simpa using hi) (by omega); rwa [List.getElem_map] at this
          rw [this] at hf
          exact hf.symm
      obtain ⟨-, e1, e2, e3, e4, -, -⟩ := hi'
      cases hli : l[i] with
      | mk a b c d e =>
        rw [hli] at hb e1 e2 e3 e4
        simp only at hb e1 e2 e3 e4
        subst e1 e2 e3 e4 hb
        simp [pieceAt]
    · rename_i hi
      rw [List.getElem?_eq_none (by omega)]
  · intro h i p hp
    have hok : cutOk l0.life l0.place (manyB (str (catB l)).size) = true := by
      cases hc : cutOk l0.life l0.place (manyB (str (catB l)).size) with
      | true => rfl
      | false =>
        rw [cutB, hc] at h
        simp at h
        subst h
        simp at hpos
    have hlen : manyB (str (catB l)).size = l.length := by rw [← cutB_length hok, h]
    rw [← h, cutB_get hok] at hp
    split at hp
    · rename_i hi
      cases hp
      rw [← hlen]
      exact join_cut_at hok l0 rfl rfl i hi
    · cases hp

/-- A record joined of its pieces. -/
theorem join_cut {life place : Int} {rec : ByteArray} (h : cutOk life place (manyB rec.size) = true) : joinB (cutB life place rec) = (rec, true) := by
  have hp := manyB_pos rec.size
  have h0 : (cutB life place rec)[0]? = some (pieceAt life place rec (manyB rec.size) 0) := by rw [cutB_get h, if_pos hp]
  have hj : joinOk (cutB life place rec) = true := by
    rw [joinOk_iff_cut _ _ h0, cat_cut h, str_of]
    simp [pieceAt]
  rw [joinB, if_pos hj, cat_cut h, str_of]

end Go.Ofp
end

section
/- Plain mathematics of the sums of bytes (a CRC over 32 bits): steps, their linearity, products of polynomials. No program in sight. -/
set_option linter.unusedSimpArgs false
set_option linter.unusedVariables false
namespace Go.Ofp

abbrev B32 := BitVec 32

def poly : B32 := 0x82f63b78#32

/-- One step of a sum. -/
def half (s : B32) : B32 := (s >>> 1) ^^^ (if s.getLsbD 0 then poly else 0#32)

/-- k steps. -/
def steps : Nat → B32 → B32
  | 0, s => s
  | k + 1, s => steps k (half s)

theorem steps_succ' (k : Nat) (s : B32) : steps (k + 1) s = half (steps k s) := by
  induction k generalizing s with
  | zero => rfl
  | succ k ih => show steps (k + 1) (half s) = _; rw [ih]; rfl

/-- All bits. -/
def ones : B32 := ~~~ 0#32

/-- The sum's register behind bytes (numbers below 256). -/
def reg (s : B32) (l : List UInt8) : B32 := l.foldl (fun s b => steps 8 (s ^^^ BitVec.ofNat 32 b.toNat)) s

def crc (l : List UInt8) : B32 := ~~~ (reg ones l)

theorem reg_snoc (s : B32) (a : List UInt8) (b : UInt8) : reg s (a ++ [b]) = steps 8 (reg s a ^^^ BitVec.ofNat 32 b.toNat) := by simp [reg]
/-! ### Products of polynomials, the lowest power at the highest bit -/

/-- A product, bit by bit of the first, from the highest on. -/
def mulF : Nat → B32 → B32 → B32
  | 0, _, _ => 0#32
  | k + 1, a, b => (if a.getLsbD 31 then b else 0#32) ^^^ mulF k (a <<< 1) (half b)

def mul (a b : B32) : B32 := mulF 32 a b

theorem mulF_zero (k : Nat) (b : B32) : mulF k 0#32 b = 0#32 := by
  induction k generalizing b with
  | zero => rfl
  | succ k ih => simp [mulF, ih]

theorem mul_one (b : B32) : mul (1#32 <<< 31) b = b := by
  show mulF 32 _ _ = _
  have e : mulF 31 (1#32 <<< 31 <<< 1) (half b) = 0#32 := by
    rw [show (1#32 <<< 31 <<< 1 : B32) = 0#32 by decide]; exact mulF_zero _ _
  rw [mulF, e]; simp

/-- The power of k steps. -/
def power (k : Nat) : B32 := steps k (1#32 <<< 31)

/-! ### Sealing, opening, bursts -/

def bv (b : UInt8) : B32 := BitVec.ofNat 32 b.toNat

/-- Four bytes as a number, the lowest first. -/
def word (b0 b1 b2 b3 : UInt8) : B32 := BitVec.ofNat 32 (b0.toNat + b1.toNat * 256 + b2.toNat * 65536 + b3.toNat * 16777216)

/-- The four bytes of a number, the lowest first. -/
def le4 (x : B32) : List UInt8 := [UInt8.ofNat x.toNat, UInt8.ofNat (x.toNat / 256), UInt8.ofNat (x.toNat / 65536), UInt8.ofNat (x.toNat / 16777216)]

/-- Bytes with their sum behind. -/
def sealed (l : List UInt8) : List UInt8 := l ++ le4 (crc l)

end Go.Ofp
end

section
/- Sectors of pieces: the bytes, and back: plain law. -/
set_option linter.unusedSimpArgs false
set_option linter.unusedVariables false
namespace Go.Ofp
set_option linter.unusedVariables false

/-- The lowest k bytes of a number, the lowest first. -/
def le (n : Nat) : Nat → List UInt8
  | 0 => []
  | k + 1 => UInt8.ofNat n :: le (n / 256) k

@[simp] theorem le_length (n k : Nat) : (le n k).length = k := by
  induction k generalizing n with
  | zero => rfl
  | succ k ih => simp [le, ih]

/-- The number of bytes, the lowest first. -/
def numLE : List UInt8 → Nat
  | [] => 0
  | b :: l => b.toNat + 256 * numLE l

theorem numLE_lt (l : List UInt8) : numLE l < 256 ^ l.length := by
  induction l with
  | nil => simp [numLE]
  | cons b l ih =>
    have := b.toNat_lt
    simp only [numLE, List.length_cons, Nat.pow_succ]
    omega

theorem numLE_le (n k : Nat) (h : n < 256 ^ k) : numLE (le n k) = n := by
  induction k generalizing n with
  | zero => simp at h; simp [le, numLE, h]
  | succ k ih =>
    rw [le, numLE, ih _ (by rw [Nat.pow_succ] at h; omega)]
    simp only [UInt8.toNat_ofNat']
    omega

/-- The number that tells a body's size and which end of its record it is. -/
def sizeFlags (p : Pc) : Nat := p.body.size + (if p.first then 64 else 0) + (if p.last then 128 else 0)

theorem sizeFlags_bits (p : Pc) (h : p.body.size ≤ 52) : sizeFlags p < 256 ∧ sizeFlags p % 64 = p.body.size ∧ (sizeFlags p / 64 % 2 == 1) = p.first ∧ (sizeFlags p / 128 == 1) = p.last := by
  unfold sizeFlags
  cases p.first <;> cases p.last <;> simp <;> omega

/-- A sector without its sum. -/
def headB (p : Pc) : List UInt8 := le p.life.toNat 4 ++ (le p.place.toNat 5 ++ (UInt8.ofNat (sizeFlags p) :: (p.body.data.toList ++ List.replicate (52 - p.body.size) 0)))

theorem headB_length (p : Pc) (h : p.body.size ≤ 52) : (headB p).length = 62 := by
  simp only [headB, List.length_append, le_length, List.length_cons, List.length_replicate, ← ba_size]
  omega

/-- A piece's sector. -/
def putB (p : Pc) : List UInt8 := if p.ok then headB p ++ le (crc (headB p)).toNat 2 else []

theorem putB_length (p : Pc) (h : p.ok = true) : (putB p).length = 64 := by
  rw [putB, if_pos h, List.length_append, headB_length p ((Pc.ok_iff p).1 h).2.2.2.2]
  simp

def noPc : Pc := ⟨0, 0, false, false, ⟨#[]⟩⟩

/-- What a sector's bytes say, if they say anything. -/
def readPc (s : ByteArray) : Pc :=
  ⟨numLE (s.data.toList.take 4), numLE ((s.data.toList.drop 4).take 5), (s.data.toList.getD 9 0).toNat / 64 % 2 == 1, (s.data.toList.getD 9 0).toNat / 128 == 1, s.extract 10 (10 + (s.data.toList.getD 9 0).toNat % 64)⟩

/-- The piece of a sector. -/
def getB (s : ByteArray) : Pc × Bool :=
  if s.size = 64 ∧ (s.data.toList.getD 9 0).toNat % 64 ≤ 52 ∧ str (putB (readPc s)) = s then (readPc s, true) else (noPc, false)

theorem get_put (p : Pc) (h : p.ok = true) : getB (str (putB p)) = (p, true) := by
  have hl := putB_length p h
  obtain ⟨h1, h2, h3, h4, h5⟩ := (Pc.ok_iff p).1 h
  obtain ⟨b1, b2, b3, b4⟩ := sizeFlags_bits p h5
  have hput : putB p = le p.life.toNat 4 ++ (le p.place.toNat 5 ++ (UInt8.ofNat (sizeFlags p) :: (p.body.data.toList ++ (List.replicate (52 - p.body.size) 0 ++ le (crc (headB p)).toNat 2)))) := by
    rw [putB, if_pos h, headB]
    simp
  have e9 : ((putB p).getD 9 0).toNat = sizeFlags p := by
    rw [hput, List.getD_eq_getElem?_getD, List.getElem?_append_right (by simp), List.getElem?_append_right (by simp)]
    simp only [le_length]
    simp [UInt8.toNat_ofNat']
    omega
  have e4 : (putB p).take 4 = le p.life.toNat 4 := by
    rw [hput, List.take_append_of_le_length (by simp), List.take_of_length_le (by simp)]
  have e5 : ((putB p).drop 4).take 5 = le p.place.toNat 5 := by
    rw [hput, List.drop_append_of_le_length (by simp), List.drop_of_length_le (by simp), List.nil_append, List.take_append_of_le_length (by simp), List.take_of_length_le (by simp)]
  have eb : (str (putB p)).extract 10 (10 + p.body.size) = p.body := by
    apply ba_ext
    rw [extract_list, str_data]
    have : (putB p).drop 10 = p.body.data.toList ++ (List.replicate (52 - p.body.size) 0 ++ le (crc (headB p)).toNat 2) := by
      rw [hput, List.drop_append, List.drop_of_length_le (by simp), List.nil_append, le_length, List.drop_append, List.drop_of_length_le (by simp), List.nil_append, le_length]
      rfl
    rw [this, List.take_append_of_le_length (by rw [← ba_size]; omega), List.take_of_length_le (by rw [← ba_size]; omega)]
  have hr : readPc (str (putB p)) = p := by
    unfold readPc
    simp only [str_data, e9, e4, e5, b2, b3, b4, eb]
    rw [numLE_le _ _ (by omega), numLE_le _ _ (by omega)]
    obtain ⟨life, place, first, last, body⟩ := p
    simp only at h1 h3 ⊢
    congr 1 <;> omega
  rw [getB, if_pos]
  · rw [hr]
  · rw [hr, str_size, str_data, e9, b2]
    exact ⟨hl, h5, rfl⟩

end Go.Ofp
end

section
/- Disks: what is done with one: plain law. -/
set_option linter.unusedSimpArgs false
set_option linter.unusedVariables false
namespace Go.Ofp

/-- A sector: its bytes, and whether it can't be read. -/
structure Sc where
  b : List UInt8
  bad : Bool
/-- A write that waits. -/
structure Wt where
  place : Int
  b : List UInt8
/-- A disk. -/
structure Dk where
  sec : List Sc
  wait : List Wt
  fuse : Int
  dead : Bool

namespace Dk
/-- Why nothing can be done with a sector. -/
def ready (d : Dk) (i : Int) : Int := if d.dead then 15 else if i < 0 ∨ (d.sec.length : Int) ≤ i then 1 else 0
/-- A step, of which the power may go. -/
def step (d : Dk) : Dk := if d.fuse = 0 then { d with dead := true } else if 0 < d.fuse then { d with fuse := d.fuse - 1 } else d
/-- What a sector has, with what waits. -/
def see (d : Dk) (i : Int) : Sc := d.wait.foldl (fun s w => if w.place = i then ⟨w.b, false⟩ else s) (d.sec.getD i.toNat ⟨[], true⟩)
def read (d : Dk) (i : Int) : List UInt8 × Int := if d.ready i = 0 then (if (d.see i).bad then ([], 16) else ((d.see i).b, 0)) else ([], d.ready i)
def write (d : Dk) (i : Int) (b : List UInt8) : Dk × Int :=
  if d.ready i = 0 then (if b.length = 64 then (step { d with wait := d.wait ++ [⟨i, b⟩] }, if (step { d with wait := d.wait ++ [⟨i, b⟩] }).dead then 15 else 0) else (d, 1)) else (d, d.ready i)
/-- What waits is done. -/
def done (sec : List Sc) (l : List Wt) : List Sc := l.foldl (fun s w => s.set w.place.toNat ⟨w.b, false⟩) sec
def sync (d : Dk) : Dk × Int :=
  if d.ready 0 = 0 then (if d.step.dead then (d.step, 15) else ({ d.step with sec := done d.sec d.wait, wait := [] }, 0)) else (d, d.ready 0)
/-- What becomes of the write number i. -/
def fate (keep : List Int) (i : Nat) : Int := if i < keep.length ∧ 0 ≤ keep.getD i 0 then keep.getD i 0 % 3 else 0
def fall1 (keep : List Int) (sec : List Sc) (i : Nat) (w : Wt) : List Sc :=
  if fate keep i = 1 then sec.set w.place.toNat ⟨w.b, false⟩ else if fate keep i = 2 then sec.modify w.place.toNat (fun s => { s with bad := true }) else sec
/-- What stays when the power goes: the writes from number i on. -/
def fall (keep : List Int) : Nat → List Sc → List Wt → List Sc
  | _, sec, [] => sec
  | i, sec, w :: l => fall keep (i + 1) (fall1 keep sec i w) l
def crash (d : Dk) (keep : List Int) : Dk := ⟨fall keep 0 d.sec d.wait, [], -1, false⟩
/-- A new disk. -/
def new (n : Nat) : Dk := ⟨List.replicate n ⟨List.replicate 64 0, false⟩, [], -1, false⟩

/-- What is true of every disk that comes about. -/
structure Ok (d : Dk) : Prop where
  pos : 0 < d.sec.length
  sec : ∀ s ∈ d.sec, s.b.length = 64
  wait : ∀ w ∈ d.wait, 0 ≤ w.place ∧ w.place < d.sec.length ∧ w.b.length = 64

@[simp] theorem step_sec (d : Dk) : d.step.sec = d.sec := by unfold step; split <;> (try split) <;> rfl
@[simp] theorem step_wait (d : Dk) : d.step.wait = d.wait := by unfold step; split <;> (try split) <;> rfl

theorem Ok.step {d : Dk} (h : d.Ok) : d.step.Ok := ⟨by simpa using h.pos, by simpa using h.sec, by simpa using h.wait⟩

theorem ready_zero {d : Dk} {i : Int} (h : d.ready i = 0) : d.dead = false ∧ 0 ≤ i ∧ i < d.sec.length := by
  unfold ready at h
  split at h
  · cases h
  · rename_i hd
    split at h
    · cases h
    · exact ⟨by simpa using hd, by omega, by omega⟩

theorem set_ok {sec : List Sc} {n : Nat} {s : Sc} (h : ∀ s ∈ sec, s.b.length = 64) (hs : s.b.length = 64) : ∀ x ∈ sec.set n s, x.b.length = 64 := by
  intro x hx
  rcases List.mem_or_eq_of_mem_set hx with hx | rfl
  · exact h x hx
  · exact hs

theorem done_length (sec : List Sc) (l : List Wt) : (done sec l).length = sec.length := by
  unfold done
  induction l generalizing sec with
  | nil => rfl
  | cons w l ih => rw [List.foldl_cons, ih, List.length_set]

theorem done_ok {sec : List Sc} {l : List Wt} (h : ∀ s ∈ sec, s.b.length = 64) (hl : ∀ w ∈ l, w.b.length = 64) : ∀ x ∈ done sec l, x.b.length = 64 := by
  unfold done
  induction l generalizing sec with
  | nil => exact h
  | cons w l ih =>
    rw [List.foldl_cons]
    exact ih (set_ok h (hl w (by simp))) (fun w' hw => hl w' (by simp [hw]))

theorem Ok.write {d : Dk} (h : d.Ok) (i : Int) (b : List UInt8) : (d.write i b).1.Ok := by
  unfold Dk.write
  split
  · rename_i hr
    obtain ⟨-, h1, h2⟩ := ready_zero hr
    split
    · rename_i hb
      refine Ok.step (d := { d with wait := d.wait ++ [⟨i, b⟩] }) ⟨h.pos, h.sec, ?_⟩
      intro w hw
      simp only [List.mem_append, List.mem_singleton] at hw
      rcases hw with hw | rfl
      · exact h.wait w hw
      · exact ⟨h1, h2, hb⟩
    · exact h
  · exact h

theorem Ok.sync {d : Dk} (h : d.Ok) : d.sync.1.Ok := by
  unfold Dk.sync
  split
  · split
    · exact h.step
    · exact ⟨by simpa [done_length] using h.pos, done_ok h.sec fun w hw => (h.wait w hw).2.2, by simp⟩
  · exact h

theorem fall_ok (keep : List Int) (l : List Wt) (i : Nat) (sec : List Sc) (h : ∀ s ∈ sec, s.b.length = 64) (hl : ∀ w ∈ l, w.b.length = 64) :
    (∀ x ∈ fall keep i sec l, x.b.length = 64) ∧ (fall keep i sec l).length = sec.length := by
  induction l generalizing i sec with
  | nil => exact ⟨h, rfl⟩
  | cons w l ih =>
    rw [fall]
    have h1 : (∀ x ∈ fall1 keep sec i w, x.b.length = 64) ∧ (fall1 keep sec i w).length = sec.length := by
      unfold fall1
      split
      · exact ⟨set_ok h (hl w (by simp)), List.length_set ..⟩
      · split
        · refine ⟨?_, List.length_modify ..⟩
          intro x hx
          obtain ⟨j, hj, rfl⟩ := List.getElem_of_mem hx
          rw [List.getElem_modify]
          have hm := h _ (List.getElem_mem (l := sec) (n := j) (by simpa using hj))
          split
          · exact hm
          · exact hm
        · exact ⟨h, rfl⟩
    obtain ⟨h2, h3⟩ := ih (i + 1) _ h1.1 fun w' hw => hl w' (by simp [hw])
    exact ⟨h2, h3.trans h1.2⟩

theorem Ok.crash {d : Dk} (h : d.Ok) (keep : List Int) : (d.crash keep).Ok := by
  have := fall_ok keep d.wait 0 d.sec h.sec fun w hw => (h.wait w hw).2.2
  exact ⟨by rw [Dk.crash, this.2]; exact h.pos, this.1, by simp [Dk.crash]⟩

theorem Ok.new (n : Nat) (hn : 0 < n) : (new n).Ok := ⟨by simpa [Dk.new] using hn, by intro s hs; rw [List.eq_of_mem_replicate hs]; simp, by simp [Dk.new]⟩
end Dk
end Go.Ofp
end

section
/- What the walks ask of a disk: plain law. -/
set_option linter.unusedSimpArgs false
set_option linter.unusedVariables false
namespace Go.Ofp
namespace Dk
/-- What the walks ask of a disk. -/
structure Fit (d : Dk) (n k : Nat) : Prop where
  ok : d.Ok
  sec : d.sec.length = n
  wait : d.wait.length ≤ k
  fuse : -9223372036854775808 ≤ d.fuse ∧ d.fuse ≤ 9223372036854775807
theorem Fit.step {d : Dk} {n k : Nat} (h : d.Fit n k) : d.step.Fit n k := by
  refine ⟨h.ok.step, by rw [step_sec]; exact h.sec, by rw [step_wait]; exact h.wait, ?_⟩
  have := h.fuse
  unfold Dk.step
  split
  · exact this
  · split
    · simp only; omega
    · exact this
theorem Fit.mono {d : Dk} {n k k' : Nat} (h : d.Fit n k) (hk : k ≤ k') : d.Fit n k' := ⟨h.ok, h.sec, Nat.le_trans h.wait hk, h.fuse⟩
theorem Fit.write {d : Dk} {n k : Nat} (h : d.Fit n k) (i : Int) (b : List UInt8) : (d.write i b).1.Fit n (k + 1) := by
  have hok := h.ok.write i b
  unfold Dk.write at hok ⊢
  split
  · rename_i hr
    rw [if_pos hr] at hok
    split
    · rename_i hb
      rw [if_pos hb] at hok
      have h1 : ({ d with wait := d.wait ++ [⟨i, b⟩] } : Dk).step.Fit n (k + 1) := by
        refine ⟨hok, by rw [step_sec]; exact h.sec, by rw [step_wait]; simpa using h.wait, ?_⟩
        have := h.fuse
        unfold Dk.step
        split
        · exact this
        · split
          · simp only at *; omega
          · exact this
      exact h1
    · exact h.mono (by omega)
  · exact h.mono (by omega)
theorem Fit.sync {d : Dk} {n k : Nat} (h : d.Fit n k) : d.sync.1.Fit n k := by
  have hok := h.ok.sync
  unfold Dk.sync at hok ⊢
  split
  · rename_i hr
    rw [if_pos hr] at hok
    split
    · exact h.step
    · rename_i hd
      rw [if_neg hd] at hok
      exact ⟨hok, by simp only [done_length]; exact h.sec, by simp, h.step.fuse⟩
  · exact h
theorem Fit.crash {d : Dk} {n k : Nat} (h : d.Fit n k) (keep : List Int) : (d.crash keep).Fit n k := by
  refine ⟨h.ok.crash keep, ?_, by simp [Dk.crash], by simp [Dk.crash]⟩
  have := fall_ok keep d.wait 0 d.sec h.ok.sec fun w hw => (h.ok.wait w hw).2.2
  rw [Dk.crash, this.2]
  exact h.sec
theorem Fit.fused {d : Dk} {n k : Nat} (h : d.Fit n k) (z : Int) (hz : -9223372036854775808 ≤ z ∧ z ≤ 9223372036854775807) : ({ d with fuse := z } : Dk).Fit n k := ⟨⟨h.ok.pos, h.ok.sec, h.ok.wait⟩, h.sec, h.wait, hz⟩
theorem Fit.new (n : Nat) (hn : 0 < n) : (new n).Fit n 0 := ⟨Ok.new n hn, by simp [Dk.new], by simp [Dk.new], by simp [Dk.new]⟩
end Dk
end Go.Ofp
end

section
/- Rings: records, round and round on sectors: plain law. -/
set_option linter.unusedSimpArgs false
set_option linter.unusedVariables false
namespace Go.Ofp

/-- Where a ring stands, and where its records begin and end. -/
structure Rg where
  src : Nat
  n : Nat
  head : Nat
  tail : Nat
  life : Nat

/-- May a ring stand there? -/
def ringOk (size : Nat) (f n h l : Int) : Bool :=
  decide (0 ≤ f) && (decide (1 ≤ n) && (decide (f < size) && (decide (n ≤ size - f) && (decide (0 ≤ h) && (decide (h < 1099511627776) && (decide (1 ≤ l) && decide (l < 4294967296)))))))
theorem ringOk_iff (size : Nat) (f n h l : Int) : ringOk size f n h l = true ↔ 0 ≤ f ∧ 1 ≤ n ∧ f < size ∧ n ≤ size - f ∧ 0 ≤ h ∧ h < 1099511627776 ∧ 1 ≤ l ∧ l < 4294967296 := by simp [ringOk]

/-- What the walks ask of a ring on so many sectors. -/
structure Rg.Ok (r : Rg) (size : Nat) : Prop where
  pos : 1 ≤ r.n
  fit : r.src + r.n ≤ size
  tail : r.head ≤ r.tail ∧ r.tail ≤ r.head + r.n
  top : r.tail ≤ 1099511627776
  life : 1 ≤ r.life ∧ r.life < 4294967296

theorem getB_ok {s : ByteArray} (h : (getB s).2 = true) : (getB s).1.ok = true := by
  unfold getB at h ⊢
  split
  · rename_i hc
    obtain ⟨h1, -, h3⟩ := hc
    by_cases hk : (readPc s).ok = true
    · exact hk
    · rw [putB, if_neg hk] at h3
      rw [← h3] at h1
      simp [str, ByteArray.size] at h1
  · rename_i hc
    rw [if_neg hc] at h
    cases h

namespace Dk
/-- The piece of a place, and whether there is one. -/
def pc (d : Dk) (src n : Nat) (place : Int) : Pc × Bool :=
  if (d.read (src + place % n)).2 = 0 then ((getB (str (d.read (src + place % n)).1)).1, (getB (str (d.read (src + place % n)).1)).2 && (getB (str (d.read (src + place % n)).1)).1.place == place) else (noPc, false)
theorem pc_ok {d : Dk} {src n : Nat} {place : Int} (h : (d.pc src n place).2 = true) : (d.pc src n place).1.ok = true ∧ (d.pc src n place).1.place = place := by
  unfold Dk.pc at h ⊢
  split
  · rename_i hc
    rw [if_pos hc] at h
    simp only [Bool.and_eq_true, beq_iff_eq] at h
    exact ⟨getB_ok h.1, h.2⟩
  · rename_i hc
    rw [if_neg hc] at h
    cases h
end Dk

/-- A piece whose life may be. -/
def fits (least life : Int) (g : Pc × Bool) : Option Pc := if g.2 = true ∧ least ≤ g.1.life ∧ g.1.life ≤ life then some g.1 else none

/-- Pieces from a place on, up to a last one. -/
def gather (f : Nat → Option Pc) : Nat → Nat → Option (List Pc)
  | 0, _ => none
  | k + 1, i => match f i with
    | none => none
    | some p => if p.last = true then some [p] else (gather f k (i + 1)).map (p :: ·)
theorem gather_none {f : Nat → Option Pc} {k i : Nat} (h : f i = none) : gather f k i = none := by
  cases k with
  | zero => rfl
  | succ k => rw [gather, h]
theorem gather_last {f : Nat → Option Pc} {k i : Nat} {p : Pc} (h : f i = some p) (hl : p.last = true) : gather f (k + 1) i = some [p] := by
  rw [gather, h]; simp [hl]
theorem gather_more {f : Nat → Option Pc} {k i : Nat} {p : Pc} (h : f i = some p) (hl : p.last = false) : gather f (k + 1) i = (gather f k (i + 1)).map (p :: ·) := by
  rw [gather, h]; simp [hl]
theorem gather_spec {f : Nat → Option Pc} {k i : Nat} {l : List Pc} (h : gather f k i = some l) : 0 < l.length ∧ l.length ≤ k ∧ ∀ j p, l[j]? = some p → f (i + j) = some p := by
  induction k generalizing i l with
  | zero => cases h
  | succ k ih =>
    rw [gather] at h
    split at h
    · cases h
    · rename_i p hp
      split at h
      · cases h
        refine ⟨by simp, by simp, fun j q hj => ?_⟩
        cases j with
        | zero => simp at hj; subst hj; exact hp
        | succ j => simp at hj
      · obtain ⟨m, hm, rfl⟩ := Option.map_eq_some_iff.1 h
        obtain ⟨h1, h2, h3⟩ := ih hm
        refine ⟨by simp, by simpa using h2, fun j q hj => ?_⟩
        cases j with
        | zero => simp at hj; subst hj; exact hp
        | succ j => rw [show i + (j + 1) = i + 1 + j by omega]; exact h3 j q (by simpa using hj)

/-- The record at a place, the place behind it, and its life. -/
def recOf (l : Option (List Pc)) (i : Nat) : Option (ByteArray × Nat × Int) :=
  match l with
  | none => none
  | some l => if joinOk l = true then some (str (catB l), i + l.length, (l.headD noPc).life) else none
namespace Dk
def recAt (d : Dk) (r : Rg) (least : Int) (i : Nat) : Option (ByteArray × Nat × Int) :=
  recOf (gather (fun j => fits least r.life (d.pc r.src r.n j)) (r.head + r.n - i) i) i
theorem recAt_to {d : Dk} {r : Rg} {least : Int} {i : Nat} {s : ByteArray} {t : Nat} {y : Int} (h : d.recAt r least i = some (s, t, y)) : i < t ∧ t ≤ r.head + r.n := by
  unfold Dk.recAt recOf at h
  split at h
  · cases h
  · rename_i l hl
    split at h
    · cases h
      have := gather_spec hl
      omega
    · cases h
/-- What stands on a disk from a place on, and the tail. -/
inductive Runs (d : Dk) (r : Rg) : Int → Nat → List ByteArray → Nat → Prop
  | stop {least : Int} {i : Nat} : d.recAt r least i = none → Runs d r least i [] i
  | more {least : Int} {i : Nat} {s : ByteArray} {t : Nat} {y : Int} {l : List ByteArray} {e : Nat} : d.recAt r least i = some (s, t, y) → Runs d r y t l e → Runs d r least i (s :: l) e
theorem Runs.det {d : Dk} {r : Rg} {least : Int} {i : Nat} {l l' : List ByteArray} {e e' : Nat} (h : Runs d r least i l e) (h' : Runs d r least i l' e') : l = l' ∧ e = e' := by
  induction h generalizing l' e' with
  | stop h1 =>
    cases h' with
    | stop h2 => exact ⟨rfl, rfl⟩
    | more h2 _ => rw [h1] at h2; cases h2
  | more h1 _ ih =>
    cases h' with
    | stop h2 => rw [h1] at h2; cases h2
    | more h2 h3 =>
      rw [h1] at h2
      cases h2
      obtain ⟨rfl, rfl⟩ := ih h3
      exact ⟨rfl, rfl⟩
theorem Runs.le {d : Dk} {r : Rg} {least : Int} {i : Nat} {l : List ByteArray} {e : Nat} (h : Runs d r least i l e) (hi : i ≤ r.head + r.n) : i + l.length ≤ e ∧ e ≤ r.head + r.n := by
  induction h with
  | stop _ => simpa using hi
  | more h1 _ ih =>
    have := recAt_to h1
    have := ih (by omega)
    simp only [List.length_cons]
    omega
theorem recAt_top {d : Dk} {r : Rg} {least : Int} {i : Nat} {s : ByteArray} {t : Nat} {y : Int} (h : d.recAt r least i = some (s, t, y)) : t ≤ 1099511627776 ∧ s.size ≤ r.n * 52 + i * 52 + 104 + r.head * 52 := by
  unfold Dk.recAt recOf at h
  split at h
  · cases h
  · rename_i l hl
    split at h
    · cases h
      obtain ⟨h1, h2, h3⟩ := gather_spec hl
      have hp : ∀ (j : Nat) (p : Pc), l[j]? = some p → p.ok = true ∧ p.place = (i : Int) + (j : Int) := by
        intro j p hj
        have := h3 j p hj
        simp only [fits] at this
        split at this
        · rename_i hc
          cases this
          have := pc_ok hc.1
          exact ⟨this.1, by simpa using this.2⟩
        · cases this
      constructor
      · obtain ⟨k1, k2⟩ := hp (l.length - 1) l[l.length - 1] (List.getElem?_eq_getElem (by omega))
        have := (Pc.ok_iff _).1 k1
        omega
      · have hb : ∀ m : List Pc, (∀ p ∈ m, p.body.size ≤ 52) → (catB m).length ≤ m.length * 52 := by
          intro m hm
          induction m with
          | nil => simp [catB]
          | cons p m ih =>
            have h4 := hm p (by simp)
            have h5 := ih fun q hq => hm q (by simp [hq])
            rw [ba_size] at h4
            simp only [catB, List.map_cons, List.flatten_cons, List.length_append, List.length_cons] at h5 ⊢
            omega
        have h6 := hb l fun p hp' => by
          obtain ⟨j, hj, rfl⟩ := List.getElem_of_mem hp'
          exact ((Pc.ok_iff _).1 (hp j _ (List.getElem?_eq_getElem hj)).1).2.2.2.2
        simp only [str, ByteArray.size, List.size_toArray]
        omega
    · cases h
theorem Runs.top {d : Dk} {r : Rg} {least : Int} {i : Nat} {l : List ByteArray} {e : Nat} (h : Runs d r least i l e) (hi : i ≤ 1099511627776) : e ≤ 1099511627776 := by
  induction h with
  | stop _ => exact hi
  | more h1 _ ih => exact ih (recAt_top h1).1

/-- Sectors are written, one behind the other, up to where it fails. -/
def writes (d : Dk) : List (Int × List UInt8) → Dk × Int
  | [] => (d, 0)
  | x :: l => if (d.write x.1 x.2).2 = 0 then (d.write x.1 x.2).1.writes l else d.write x.1 x.2
theorem Fit.writes {d : Dk} {n k : Nat} (h : d.Fit n k) (l : List (Int × List UInt8)) : (d.writes l).1.Fit n (k + l.length) := by
  induction l generalizing d k with
  | nil => exact h
  | cons x l ih =>
    rw [Dk.writes]
    split
    · have := ih (h.write x.1 x.2)
      rw [List.length_cons, show k + (l.length + 1) = k + 1 + l.length by omega]
      exact this
    · exact (h.write x.1 x.2).mono (by simp)
end Dk
namespace Rg
/-- The sectors of a record. -/
def lay (r : Rg) (l : List Pc) : List (Int × List UInt8) := l.map fun p => ((r.src : Int) + p.place % r.n, putB p)
def free (r : Rg) : Nat := r.head + r.n - r.tail
/-- A record is put behind all. -/
def add (r : Rg) (d : Dk) (s : ByteArray) : Rg × Dk × Int :=
  if r.free < manyB s.size ∨ cutB r.life r.tail s = [] then (r, d, 8)
  else if (d.writes (r.lay (cutB r.life r.tail s))).2 = 0 then ({ r with tail := r.tail + manyB s.size }, (d.writes (r.lay (cutB r.life r.tail s))).1, 0)
  else (r, (d.writes (r.lay (cutB r.life r.tail s))).1, (d.writes (r.lay (cutB r.life r.tail s))).2)
def move (r : Rg) (h : Int) : Rg × Bool := if h < r.head ∨ (r.tail : Int) < h then (r, false) else ({ r with head := h.toNat }, true)
def raise (r : Rg) (l : Int) : Rg × Bool := if l < r.life ∨ 4294967296 ≤ l then (r, false) else ({ r with life := l.toNat }, true)
theorem cut_len {life place : Int} {s : ByteArray} (h : cutB life place s ≠ []) : (cutB life place s).length = manyB s.size ∧ cutOk life place (manyB s.size) = true := by
  unfold cutB at h ⊢
  split
  · rename_i hc
    exact ⟨by simp, hc⟩
  · rename_i hc
    rw [if_neg hc] at h
    exact absurd rfl h
theorem Ok.add {r : Rg} {size : Nat} (h : r.Ok size) (d : Dk) (s : ByteArray) : (r.add d s).1.Ok size := by
  unfold Rg.add
  split
  · exact h
  · rename_i hc
    have hc1 : manyB s.size ≤ r.free := by omega
    have hc2 : cutB r.life r.tail s ≠ [] := fun e => hc (.inr e)
    split
    · obtain ⟨-, hk⟩ := cut_len hc2
      rw [cutOk_iff] at hk
      have := h.tail
      refine ⟨h.pos, h.fit, ?_, ?_, h.life⟩
      · simp only [Rg.free] at hc1 ⊢
        omega
      · simp only
        omega
    · exact h
theorem Ok.move {r : Rg} {size : Nat} (h : r.Ok size) (z : Int) : (r.move z).1.Ok size := by
  unfold Rg.move
  have := h.tail
  split
  · exact h
  · exact ⟨h.pos, h.fit, by simp only; omega, h.top, h.life⟩
theorem Ok.raise {r : Rg} {size : Nat} (h : r.Ok size) (z : Int) : (r.raise z).1.Ok size := by
  unfold Rg.raise
  have := h.life
  split
  · exact h
  · exact ⟨h.pos, h.fit, h.tail, h.top, by simp only; omega⟩
theorem lay_length (r : Rg) (l : List Pc) : (r.lay l).length = l.length := by simp [lay]
end Rg
theorem Dk.Fit.add {d : Dk} {n k : Nat} (h : d.Fit n k) (r : Rg) (s : ByteArray) : (r.add d s).2.1.Fit n (k + manyB s.size) := by
  have hw := h.writes (r.lay (cutB r.life r.tail s))
  rw [Rg.lay_length] at hw
  unfold Rg.add
  split
  · exact h.mono (by omega)
  · rename_i hc
    have hc2 : cutB r.life r.tail s ≠ [] := fun e => hc (.inr e)
    rw [(Rg.cut_len hc2).1] at hw
    split
    · exact hw
    · exact hw
end Go.Ofp
end

section
/- Plain mathematics of numbers as bytes. No program in sight. -/
namespace Go.Ofp

/-- The greatest number. -/
def maxNum : Nat := 1099511627776

/-- A number that may be put. -/
def clampN (n : Int) : Nat := min n.toNat maxNum

/-- A number's bytes. -/
def numB (n : Nat) : List UInt8 := if h : n < 128 then [UInt8.ofNat n] else UInt8.ofNat (n % 128 + 128) :: numB (n / 128)
termination_by n
decreasing_by omega

theorem numB_lt (n : Nat) (h : n < 128) : numB n = [UInt8.ofNat n] := by rw [numB]; simp [h]
theorem numB_ge (n : Nat) (h : ¬ n < 128) : numB n = UInt8.ofNat (n % 128 + 128) :: numB (n / 128) := by rw [numB]; simp [h]

theorem clampN_le (n : Int) : clampN n ≤ maxNum := Nat.min_le_right _ _

theorem numB_length (k n : Nat) (h : n < 128 ^ k) (hk : 0 < k) : (numB n).length ≤ k := by
  induction k generalizing n with
  | zero => omega
  | succ k ih =>
    by_cases h1 : n < 128
    · rw [numB_lt n h1]; simp
    · rw [numB_ge n h1]
      have hk0 : 0 < k := by
        rcases Nat.eq_zero_or_pos k with rfl | h0
        · simp at h; omega
        · exact h0
      have h2 : n / 128 < 128 ^ k := by rw [Nat.pow_succ] at h; omega
      have := ih _ h2 hk0
      simp; omega

theorem numB_six (n : Nat) (h : n ≤ maxNum) : (numB n).length ≤ 6 := numB_length 6 n (by unfold maxNum at h; omega) (by decide)

/-! ### Reading numbers -/
/-- The number of bytes, seven bits each, the lowest first. -/
def val7 : List UInt8 → Nat
  | [] => 0
  | c :: r => c.toNat % 128 + 128 * val7 r

/-- How many bytes ahead go on, up to k. -/
def lead : Nat → List UInt8 → Nat
  | 0, _ => 0
  | _ + 1, [] => 0
  | k + 1, c :: r => if 128 ≤ c.toNat then lead k r + 1 else 0

/-- The next number, and how many bytes it has; or an error (2 too short, 3 not in form, 4 too long). -/
def nextB (l : List UInt8) (most : Int) : Nat × Nat × Int :=
  let n := lead 6 l
  if n = 6 then (0, 0, 3) else if n = l.length then (0, 0, 2) else if 0 < n ∧ l.getD n 0 = 0 then (0, 0, 3)
  else if maxNum < val7 (l.take (n + 1)) ∨ most < (val7 (l.take (n + 1)) : Int) then (0, 0, 4) else (val7 (l.take (n + 1)), n + 1, 0)

theorem val7_snoc (l : List UInt8) (c : UInt8) : val7 (l ++ [c]) = val7 l + 128 ^ l.length * (c.toNat % 128) := by
  induction l with
  | nil => simp [val7]
  | cons d l ih =>
    simp only [List.cons_append, val7, ih, List.length_cons, Nat.pow_succ]
    rw [Nat.mul_add, Nat.add_assoc, Nat.mul_comm (128 ^ l.length) 128, Nat.mul_assoc]

theorem val7_lt (l : List UInt8) : val7 l < 128 ^ l.length := by
  induction l with
  | nil => simp [val7]
  | cons d l ih => simp only [val7, List.length_cons, Nat.pow_succ]; omega

theorem lead_le (k : Nat) (l : List UInt8) : lead k l ≤ k ∧ lead k l ≤ l.length := by
  induction k generalizing l with
  | zero => simp [lead]
  | succ k ih =>
    cases l with
    | nil => simp [lead]
    | cons c r =>
      simp only [lead]
      split
      · have := ih r; simp; omega
      · simp

/-- Bytes of which n go on, and the one behind doesn't (or there is none, or n is k). -/
theorem lead_of (k n : Nat) (l : List UInt8) (hn : n ≤ k) (hl : n ≤ l.length) (hall : ∀ i, i < n → 128 ≤ (l.getD i 0).toNat) (hend : n = k ∨ n = l.length ∨ (l.getD n 0).toNat < 128) : lead k l = n := by
  induction k generalizing n l with
  | zero => simp [lead]; omega
  | succ k ih =>
    cases l with
    | nil => simp only [List.length_nil] at hl; simp [lead]; omega
    | cons c r =>
      simp only [lead]
      rcases n with _ | n
      · rcases hend with h | h | h
        · omega
        · simp at h
        · simp at h; rw [if_neg (by omega)]
      · have h0 := hall 0 (by omega)
        simp at h0
        rw [if_pos h0, ih n r (by omega) (by simp at hl; omega) (fun i h => by have := hall (i + 1) (by omega); simpa using this) ?_]
        rcases hend with h | h | h
        · left; omega
        · right; left; simp at h; omega
        · right; right; simpa using h

theorem nextB_short (l : List UInt8) (most : Int) (j : Nat) (hj : j < 6) (hl : j = l.length) (hall : ∀ i, i < j → 128 ≤ (l.getD i 0).toNat) : nextB l most = (0, 0, 2) := by
  have h := lead_of 6 j l (by omega) (by omega) hall (.inr (.inl hl))
  simp only [nextB, h]
  rw [if_neg (by omega), if_pos hl]

theorem nextB_six (l : List UInt8) (most : Int) (hl : 6 ≤ l.length) (hall : ∀ i, i < 6 → 128 ≤ (l.getD i 0).toNat) : nextB l most = (0, 0, 3) := by
  have h := lead_of 6 6 l (by omega) hl hall (.inl rfl)
  simp only [nextB, h]
  rw [if_pos trivial]

theorem nextB_zero (l : List UInt8) (most : Int) (j : Nat) (hj : j < 6) (hl : j < l.length) (hall : ∀ i, i < j → 128 ≤ (l.getD i 0).toNat) (h0 : 0 < j) (hz : l.getD j 0 = 0) : nextB l most = (0, 0, 3) := by
  have h := lead_of 6 j l (by omega) (by omega) hall (.inr (.inr (by rw [hz]; decide)))
  simp only [nextB, h]
  rw [if_neg (by omega), if_neg (by omega), if_pos ⟨h0, hz⟩]

theorem nextB_val (l : List UInt8) (most : Int) (j : Nat) (hj : j < 6) (hl : j < l.length) (hall : ∀ i, i < j → 128 ≤ (l.getD i 0).toNat) (hc : (l.getD j 0).toNat < 128) (hz : ¬ (0 < j ∧ l.getD j 0 = 0)) :
    nextB l most = if maxNum < val7 (l.take (j + 1)) ∨ most < (val7 (l.take (j + 1)) : Int) then (0, 0, 4) else (val7 (l.take (j + 1)), j + 1, 0) := by
  have h := lead_of 6 j l (by omega) (by omega) hall (.inr (.inr hc))
  simp only [nextB, h]
  rw [if_neg (by omega), if_neg (by omega), if_neg hz]

theorem val7_take (l : List UInt8) (j : Nat) (h : j < l.length) : val7 (l.take (j + 1)) = val7 (l.take j) + 128 ^ j * (l[j].toNat % 128) := by
  rw [List.take_succ_eq_append_getElem h, val7_snoc, List.length_take, Nat.min_eq_left (by omega)]

/-! ### A reader: what is left, and the first error -/
def rdNum (r : List UInt8) (e : Int) (most : Int) : Nat × List UInt8 × Int :=
  if e ≠ 0 then (0, r, e) else ((nextB r most).1, r.drop (nextB r most).2.1, (nextB r most).2.2)

theorem nextB_cases (r : List UInt8) (most : Int) : ((nextB r most).2.2 ≠ 0 ∧ 2 ≤ (nextB r most).2.2 ∧ (nextB r most).2.2 ≤ 4 ∧ (nextB r most).1 = 0 ∧ (nextB r most).2.1 = 0) ∨
    ((nextB r most).2.2 = 0 ∧ (nextB r most).2.1 ≤ r.length ∧ 0 < (nextB r most).2.1 ∧ (nextB r most).2.1 ≤ 6 ∧ (nextB r most).1 ≤ maxNum ∧ ((nextB r most).1 : Int) ≤ most) := by
  have hl := lead_le 6 r
  unfold nextB
  simp only
  split
  · left; simp
  · split
    · left; simp
    · split
      · left; simp
      · split
        · left; simp
        · right
          rename_i h1 h2 h3 h4
          simp only [not_or] at h4
          refine ⟨rfl, ?_, ?_, ?_, ?_, ?_⟩ <;> first | (simp only; omega) | (simp only [Nat.not_lt] at h4; exact h4.1) | (simp only [Int.not_lt] at h4; exact h4.2)

end Go.Ofp
end
