/- More words that all texts of this seat share: appends onto slices that are full. -/
import Derived.Test.YtplgpbbghhlbjaaDoorBase
import Derived.StillTailTactics
set_option linter.unusedSimpArgs false
set_option linter.unusedVariables false
namespace Go.Ofp
open Go.RowKit

/-- A slice to which an append makes a row of its own: the call's own already, or full. -/
def Full (w : World) (base e size : Nat) (v : Value) (n : Nat) (xs : List Value) : Prop :=
  w.ownsRow base e size v n xs ∨ ∃ a, v = .slice a n n ∧ Sl w a xs ∧ xs.length = n * size

theorem Full.own {w : World} {base e size n : Nat} {v : Value} {xs : List Value} (h : w.ownsRow base e size v n xs) : Full w base e size v n xs := .inl h
theorem Full.full {w : World} {a : Option Addr} {base e size n : Nat} {xs : List Value} (h : Sl w a xs) (hl : xs.length = n * size) : Full w base e size (.slice a n n) n xs := .inr ⟨a, rfl, h, hl⟩

theorem Full.alloc {w : World} {base e size n : Nat} {v : Value} {xs : List Value} (h : Full w base e size v n xs) (o : Obj) : Full (w.alloc o) base e size v n xs := by
  rcases h with h | ⟨a, rfl, hs, hl⟩
  · exact .inl (h.alloc o)
  · exact .inr ⟨a, rfl, hs.below ((Below.refl _ _).alloc (Nat.le_refl _) _), hl⟩

section
variable {P : Program} {w : World} {ops : Array Oper} {rest : List Oper} {o : Oper} {a : Act} {Q : Exit → Act → World → Prop}

theorem run_app_full (w : World) (t tx ty e : TypeId) (ht : P.underlying t = some (.slice e)) {z : Value} {size bytes : Nat} (he : Elem P e z size bytes)
    {v : Value} {n base : Nat} {xs : List Value} (hf : Full w base e size v n xs) {x : Value} {m : Nat} {news : List Value} (hx : Src P w tx x size m news) (h1 : ∀ u ∈ news, u.oneCell' = true) (hm : 0 < m)
    (hb : (n + m) * bytes ≤ 140737488355328) (h63 : n + m ≤ maxLen) (hbase : base ≤ w.heap.size) :
    ∃ v' w', (Builtin.append_ #[t, tx] ty #[v, x]).run P w = .ok v' w' ∧ w'.ownsRow base e size v' (n + m) (xs ++ news) ∧ Below base w w' := by
  rcases hf with h | ⟨a, rfl, hs, hl⟩
  · obtain ⟨v', w', r, h2, h3, _⟩ := run_app w t tx ty e ht he h hx h1 hb h63 hbase
    exact ⟨v', w', r, h2, (Below.refl _ _).grown h3 hbase fun k hk => (h.lt k hk).1⟩
  · obtain ⟨v', w', r, h2, h3, h4⟩ := run_app_grow w t tx ty e ht he hs (n := n) (cap := n) hl hx (by omega) hb h63 base hbase
    exact ⟨v', w', r, h2, (Below.refl _ _).grown (h3 none) hbase (by simp)⟩

/-- The walk's law: append of at least one element. -/
theorem wpList_app_full (hgd : o.guard = none) {s x : Operand} {t tx : TypeId} (ho : o.op = .call { callee := .builtin .append, args := #[s, x], argTypes := #[t, tx] })
    {e : TypeId} (ht : P.underlying t = some (.slice e)) {z : Value} {size bytes : Nat} (he : Elem P e z size bytes) {v : Value} {n base : Nat} {xs : List Value} (hf : Full w base e size v n xs) (hs : a.eval s = v)
    {xv : Value} {m : Nat} {news : List Value} (hx : Src P w tx xv size m news) (hxv : a.eval x = xv) (h1 : ∀ u ∈ news, u.oneCell' = true) (hm : 0 < m)
    (hb : (n + m) * bytes ≤ 140737488355328) (h63 : n + m ≤ maxLen) (hbase : base ≤ w.heap.size)
    (h : ∀ v' w', w'.ownsRow base e size v' (n + m) (xs ++ news) → Below base w w' → wpList P ops Q rest (a.put o.dst v') w') : wpList P ops Q (o :: rest) a w := by
  refine wpList_plain hgd fun K hK => ?_
  obtain ⟨v', w', hr, h2, h3⟩ := run_app_full w t tx o.type e ht he hf hx h1 hm hb h63 hbase
  unfold Oper.wp execOp
  simp only [ho, resolve, invoke, builtin, Sem.run_bind, Sem.run_pure, Result.andThen_ok, List.map_toArray, List.map_cons, List.map_nil, hs, hxv, hr]
  exact hK _ _ (h v' w' h2 h3)
end

/-! ### A block that is known whole; what a call leaves that writes to one block alone -/
def Whole (w : World) (g : Nat) (t : TypeId) (cs : Array Value) : Prop := w.heap[g]? = some (.cells cs t (0, 0))

section
variable {w w' : World} {g : Nat} {t : TypeId} {cs : Array Value}
theorem Whole.lt (h : Whole w g t cs) : g < w.heap.size := (Array.getElem?_eq_some_iff.1 h).1
theorem Whole.cell (h : Whole w g t cs) (i : Nat) : w.cell? ⟨g, i, none⟩ = cs[i]? := cell_of_row w g i cs t (0, 0) h
theorem Whole.frozen (h : Whole w g t cs) (i : Nat) : w.frozen? ⟨g, i, none⟩ = false := by
  unfold Whole at h
  simp only [World.frozen?, h]
  simp
theorem Whole.new (w : World) (t : TypeId) (cs : Array Value) : Whole (w.alloc (.cells cs t)) w.heap.size t cs := heap_alloc_new w _
theorem Whole.set (h : Whole w g t cs) (i : Nat) (u : Value) : Whole (w.setCell ⟨g, i, none⟩ u) g t (cs.setIfInBounds i u) := by
  unfold Whole at h ⊢
  simp [World.setCell, Array.getElem?_modify, h]
theorem Whole.keep {row : Option Nat} (h : Whole w g t cs) (hb : w.grownBy w' row) (hg : some g ≠ row) : Whole w' g t cs := (hb.block g h.lt hg).trans h
theorem Whole.below {B : Nat} (h : Whole w g t cs) (hb : Below B w w') (hg : g < B) : Whole w' g t cs := (hb.block g hg).trans h
theorem Whole.drewN (h : Whole w g t cs) (n : Nat) : Whole (w.drewN n) g t cs := h
theorem Whole.drew (h : Whole w g t cs) : Whole w.drew g t cs := h
end

theorem grown_refl (w : World) (row : Option Nat) : w.grownBy w row := ⟨rfl, rfl, rfl, Nat.le_refl _, fun _ _ _ => rfl⟩
theorem grown_drewN (w : World) (n : Nat) (row : Option Nat) : w.grownBy (w.drewN n) row := ⟨rfl, rfl, rfl, Nat.le_refl _, fun _ _ _ => rfl⟩
theorem grown_drew (w : World) (row : Option Nat) : w.grownBy w.drew row := ⟨rfl, rfl, rfl, Nat.le_refl _, fun _ _ _ => rfl⟩
theorem grown_trans {a b c : World} {row : Option Nat} (h : a.grownBy b row) (k : b.grownBy c row) : a.grownBy c row :=
  ⟨k.os.trans h.os, k.tape.trans h.tape, k.output.trans h.output, Nat.le_trans h.size k.size, fun i hi hr => (k.block i (Nat.lt_of_lt_of_le hi h.size) hr).trans (h.block i hi hr)⟩
theorem grown_set (w : World) (g i : Nat) (u : Value) : w.grownBy (w.setCell ⟨g, i, none⟩ u) (some g) :=
  ⟨rfl, rfl, rfl, by simp [World.setCell], fun k _ hk => Below.heap_setCell w ⟨g, i, none⟩ u k (fun e => hk (by rw [e]))⟩
theorem grown_below {w w' : World} (h : Below w.heap.size w w') (row : Option Nat) : w.grownBy w' row := ⟨h.os, h.tape, h.output, h.size, fun k hk _ => h.block k hk⟩
theorem below_of_grown {w w' : World} {g B : Nat} (h : w.grownBy w' (some g)) (hB : B ≤ g) (hw : B ≤ w.heap.size) : Below B w w' :=
  (Below.refl _ _).grown h hw fun k hk => by cases hk; exact hB

/-- A slice that lies in another block than the one that is written. -/
def Off (a : Option Addr) (g : Nat) : Prop := ∀ b off, a = some ⟨b, off, none⟩ → b ≠ g

theorem Sl.grown {w w' : World} {a : Option Addr} {g : Nat} {xs : List Value} (h : Sl w a xs) (ho : Off a g) (hg : w.grownBy w' (some g)) : Sl w' a xs := by
  intro i hi
  obtain ⟨b, off, ha, hc⟩ := h i hi
  refine ⟨b, off, ha, ?_⟩
  rw [World.cell?_of_block (hg.block b (World.block_lt_of_cell? w _ hc) (by simpa using ho b off ha))]
  exact hc

theorem Sl.drop {w : World} {b off : Nat} {xs : List Value} (h : Sl w (some ⟨b, off, none⟩) xs) (k : Nat) : Sl w (some ⟨b, off + k, none⟩) (xs.drop k) := by
  intro i hi
  rw [List.length_drop] at hi
  obtain ⟨b', off', ha, hc⟩ := h (k + i) (by omega)
  cases ha
  exact ⟨b, off + k, rfl, by rw [List.getElem_drop, Nat.add_assoc]; exact hc⟩

theorem or_high (n : Nat) : bits .or .u8 ((n : Int) % 256) 128 = (((n % 128 + 128 : Nat)) : Int) := by
  have h := u8_or_nat (n % 256) 128 (by omega) (by decide)
  have e : ∀ x, x < 256 → x ||| 128 = x % 128 + 128 := by decide +kernel
  rw [e (n % 256) (by omega), show n % 256 % 128 = n % 128 by omega] at h
  rw [← h]
  rfl

theorem vb_small (n : Nat) (h : n < 256) : vb (UInt8.ofNat n) = .int .u8 (n : Int) := by
  rw [vb_ofNat]; congr 1; omega

/-- Seven bits more of a number. -/
theorem step7 (v c i : Nat) (hv : v < 2 ^ i) (hi : i ≤ 40) (hc : c < 256) :
    bits .or .i64 (v : Int) (wrap64 (wrap64 (bits .and .u8 (c : Int) 127) * ((2 ^ i : Nat) : Int))) = ((v + 2 ^ i * (c % 128) : Nat) : Int) := by
  rw [← IntWalk.i64_left, ← IntWalk.i64_left]
  have h1 : bits .and .u8 (c : Int) 127 = ((c % 128 : Nat) : Int) := by
    have := u8_and_nat c 127 hc (by decide)
    rw [nat_mask7] at this
    exact this
  have hp : 2 ^ i ≤ 2 ^ 40 := Nat.pow_le_pow_right (by decide) hi
  have hm : c % 128 < 128 := Nat.mod_lt _ (by decide)
  have hx : c % 128 * 2 ^ i ≤ 128 * 2 ^ 40 := Nat.mul_le_mul (by omega) hp
  rw [h1, wrap_i64_nat _ (by omega), ← Int.natCast_mul, wrap_i64_nat _ (by omega), i64_or_nat _ _ (by omega) (by omega), Nat.or_comm, nat_join i _ _ (Nat.mul_mod_left _ _) hv, Nat.mul_comm, Nat.add_comm]

end Go.Ofp
