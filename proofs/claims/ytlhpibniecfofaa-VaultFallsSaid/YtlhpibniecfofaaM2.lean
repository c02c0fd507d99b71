/- Texts laid together: RootMath Mix MixB St St2 St3 St4 Disk1 Disk2 St5. -/
import Derived.Deep.RegionHeld
import Derived.Test.YtlhpibniecfofaaM1
section
/- Roots: which may be, their sectors, the root of a sector; a disk's root: plain law. -/
set_option linter.unusedSimpArgs false
set_option linter.unusedVariables false
namespace Go.Ofp

/-- A root. -/
structure Rt where
  seq : Int
  life : Int
  head : Int

namespace Rt
def row (x : Rt) : List Value := [.int .i64 x.seq, .int .i64 x.life, .int .i64 x.head]
def ok (x : Rt) : Bool := decide (1 ≤ x.seq) && (decide (x.seq < 4294967296) && (decide (1 ≤ x.life) && (decide (x.life < 4294967296) && (decide (0 ≤ x.head) && decide (x.head < 1099511627776)))))
theorem ok_iff (x : Rt) : x.ok = true ↔ 1 ≤ x.seq ∧ x.seq < 4294967296 ∧ 1 ≤ x.life ∧ x.life < 4294967296 ∧ 0 ≤ x.head ∧ x.head < 1099511627776 := by simp [ok]
def none : Rt := ⟨0, 0, 0⟩
/-- What a root's sector begins with. -/
def front (x : Rt) : List UInt8 := [114, 111, 111, 116] ++ numB (clampN x.seq) ++ numB (clampN x.life) ++ numB (clampN x.head)
theorem front_length (x : Rt) : x.front.length ≤ 22 := by
  have h1 := numB_six (clampN x.seq) (clampN_le _)
  have h2 := numB_six (clampN x.life) (clampN_le _)
  have h3 := numB_six (clampN x.head) (clampN_le _)
  simp [front]
  omega
def body (x : Rt) : List UInt8 := x.front ++ List.replicate (60 - x.front.length) 0
theorem body_length (x : Rt) : x.body.length = 60 := by
  have := x.front_length
  simp [body]
  omega
/-- A root's sector. -/
def secB (x : Rt) : List UInt8 := sealed x.body
theorem secB_length (x : Rt) : x.secB.length = 64 := by simp [secB, sealed, body_length, le4]
def putB (x : Rt) : List UInt8 := if x.ok then x.secB else []
/-- The numbers behind a root's word. -/
def read (l : List UInt8) : Rt × Int :=
  let a := rdNum (l.drop 4) 0 4294967295
  let b := rdNum a.2.1 a.2.2 4294967295
  let c := rdNum b.2.1 b.2.2 1099511627775
  (⟨a.1, b.1, c.1⟩, c.2.2)
def isB (l : List UInt8) : Bool := decide (l.length = 64 ∧ l.take 4 = [114, 111, 111, 116] ∧ (read l).2 = 0 ∧ (read l).1.ok = true ∧ (read l).1.secB = l)
/-- The root of a sector. -/
def getB (l : List UInt8) : Rt × Bool := if isB l then ((read l).1, true) else (none, false)
end Rt
end Go.Ofp
end

section
/- A region that draws its order and holds calls (or allocations) that wait for one another, with reads between them: the condition on the world is turned behind each call. -/
set_option linter.unusedSimpArgs false
set_option linter.unusedVariables false
namespace Go.Ofp
open Go.RowKit

theorem wpAnyH_mono {P : Program} {md : Region.Mode} {ops : Array Oper} {Q : Exit → Act → World → Prop} {S S' : World → Prop} (h : ∀ w, S' w → S w) :
    ∀ (fuel : Nat) (listed : Array Bool) (a : Act) (w : World), wpAnyH P md ops Q S' fuel listed a w → wpAnyH P md ops Q S fuel listed a w
  | 0, _, _, _, k => k
  | fuel + 1, _, _, _, k => ⟨k.1, fun i hi => wpOp_mono (fun _ _ hh => ⟨h _ hh.1, wpAnyH_mono h fuel _ _ _ hh.2⟩) (k.2 i hi)⟩

section
variable {P : Program} {ops : Array Oper} {Q : Exit → Act → World → Prop} {w0 w : World} {fuel : Nat} {listed : Array Bool} {a : Act} {oi : Oper}

end

end Go.Ofp
end

section
/- As Mix, with a bound of one's own: what lies below it stands, what lies above may be written. -/
set_option linter.unusedSimpArgs false
set_option linter.unusedVariables false
namespace Go.Ofp
open Go.RowKit

/-- A world in which all blocks below B stand as they stood. -/
def PastB (B : Nat) (w : World) : Type := { x : World // Below B w x }

theorem PastB.cell {B : Nat} {w : World} (s : PastB B w) {p : Addr} {v : Value} (h : w.cell? p = some v) (hp : p.block < B) : s.1.cell? p = some v := by
  rw [s.2.cell hp]; exact h

section
variable {P : Program} {Q : Exit → Act → World → Prop} {B : Nat}

theorem mixb_begin {id : Nat} {l : List Oper} {a : Act} {w : World} (B : Nat) (hm : P.follows .mixedOrders = true)
    (h : wpAnyH P .any l.toArray Q (fun w' => Below B w.drew w') l.length (Array.replicate l.length false) a w.drew) : (Code.region id l.toArray true).wp P Q a w := by
  refine wp_region_held (S := fun w' => Below B w.drew w') hm ?_
  simpa using h

variable {ops : Array Oper} {w0 w : World} {fuel : Nat} {listed : Array Bool} {a : Act} {oi : Oper}

theorem mixb_take (i : Nat) {v : Value} (hi : ops[i]? = some oi) (hok : (Region.noSelect ops && (Region.free .any ops listed i && (Region.ready .any ops listed).contains i)) = true)
    (hQ : ∀ c a w, Q (.panic c) (a.put oi.dst v) w → Q (.panic c) a w) (hw : Region.wanted oi (yielded ops a.tmps) = true) (hS : Below B w0 w)
    (hy : ∀ s : PastB B w0, (execOp a.eval oi).run P s.1 = .ok (.value v) s.1)
    (h : wpAnyH P .any ops Q (fun w' => Below B w0 w') fuel (listed.setIfInBounds i true) (a.put oi.dst v) w) :
    wpAnyH P .any ops Q (fun w' => Below B w0 w') (fuel + 1) listed a w := by
  simp only [Bool.and_eq_true] at hok
  exact wpAnyH_take hi hok.1 hok.2.1 hok.2.2 hQ (Or.inl ⟨hw, fun w' h' => hy ⟨w', h'⟩⟩) hS h

/-- Number i comes up, which alone may; behind it the class is that of the world then, with whatever bound that holds. -/
theorem mixb_one (i : Nat) {o : Oper} (hr : Region.ready .any ops listed = [i]) (ho : ops[i]? = some o) (hS : Below B w0 w)
    (h : ∀ K' : Act → World → Prop, Shut (∀ B' a w1, B ≤ B' → Below B w w1 → (Below B' w1 w1 → wpAnyH P .any ops Q (fun w' => Below B' w1 w') fuel (listed.setIfInBounds i true) a w1) → K' a w1) →
      if Region.wanted o (yielded ops a.tmps) = true then Oper.wp P o a w K' Q else K' (a.put o.dst undef) w) :
    wpAnyH P .any ops Q (fun w' => Below B w0 w') (fuel + 1) listed a w := by
  refine wpAnyH_ready hr (by simp) (AllReadyH.cons ho (fun K hK => h K ?_) AllReadyH.nil)
  intro B' a1 w1 hB hb hc
  have hb' : Below B w0 w1 := hS.trans hb
  exact hK.out a1 w1 hb' fun _ => wpAnyH_mono (fun _ h => hb'.trans (h.mono hB)) _ _ _ _ (hc (Below.refl _ _))
end

end Go.Ofp
end

section
/- The state of a walk in one word: which blocks may be written, and what lies in the call's own. -/
set_option linter.unusedSimpArgs false
set_option linter.unusedVariables false
namespace Go.Ofp
open Go.RowKit

/-- All blocks but those of F stand. -/
structure Fr (F : List Nat) (w w' : World) : Prop where
  os : w'.os = w.os
  tape : w'.tape = w.tape
  output : w'.output = w.output
  size : w.heap.size ≤ w'.heap.size
  block : ∀ k, k < w.heap.size → k ∉ F → w'.heap[k]? = w.heap[k]?

namespace Fr
theorem refl (F : List Nat) (w : World) : Fr F w w := ⟨rfl, rfl, rfl, Nat.le_refl _, fun _ _ _ => rfl⟩
theorem mono {F G : List Nat} {w w' : World} (h : Fr F w w') (hs : ∀ g ∈ F, g ∈ G) : Fr G w w' := ⟨h.os, h.tape, h.output, h.size, fun k hk hn => h.block k hk fun hg => hn (hs k hg)⟩
theorem trans {F G : List Nat} {a b c : World} (h : Fr F a b) (k : Fr G b c) (hs : ∀ g ∈ G, g ∈ F ∨ a.heap.size ≤ g) : Fr F a c :=
  ⟨k.os.trans h.os, k.tape.trans h.tape, k.output.trans h.output, Nat.le_trans h.size k.size, fun i hi hn =>
    (k.block i (Nat.lt_of_lt_of_le hi h.size) fun hg => (hs i hg).elim hn fun h2 => by omega).trans (h.block i hi hn)⟩
theorem of_below {w w' : World} (h : Below w.heap.size w w') : Fr [] w w' := ⟨h.os, h.tape, h.output, h.size, fun k hk _ => h.block k hk⟩
theorem below {w w' : World} (h : Fr [] w w') : Below w.heap.size w w' := ⟨h.os, h.tape, h.output, h.size, fun k hk => h.block k hk (by simp)⟩
theorem of_grown {w w' : World} {g : Nat} (h : w.grownBy w' (some g)) : Fr [g] w w' := ⟨h.os, h.tape, h.output, h.size, fun k hk hn => h.block k hk (by simpa using hn)⟩
theorem of_row {w w' : World} {r : Option Nat} (h : w.grownBy w' r) : Fr r.toList w w' := ⟨h.os, h.tape, h.output, h.size, fun k hk hn => h.block k hk (by cases r <;> simp_all)⟩
theorem of_all {w w' : World} (h : ∀ row, w.grownBy w' row) : Fr [] w w' := of_row (h none)
theorem grown {w w' : World} {g : Nat} (h : Fr [g] w w') : w.grownBy w' (some g) := ⟨h.os, h.tape, h.output, h.size, fun k hk hn => h.block k hk (by simpa using hn)⟩
theorem drew (w : World) : Fr [] w w.drew := ⟨rfl, rfl, rfl, Nat.le_refl _, fun _ _ _ => rfl⟩
theorem drewN (w : World) (n : Nat) : Fr [] w (w.drewN n) := ⟨rfl, rfl, rfl, Nat.le_refl _, fun _ _ _ => rfl⟩
theorem alloc (w : World) (o : Obj) : Fr [] w (w.alloc o) := of_below ((Below.refl _ _).alloc (Nat.le_refl _) _)
theorem set (w : World) (g i : Nat) (u : Value) : Fr [g] w (w.setCell ⟨g, i, none⟩ u) := of_grown (grown_set w g i u)
theorem same {w w' : World} (h : w = w') : Fr [] w w' := h ▸ refl _ _
theorem cell {F : List Nat} {w w' : World} (h : Fr F w w') {p : Addr} {v : Value} (hc : w.cell? p = some v) (hp : p.block ∉ F) : w'.cell? p = some v := by
  rw [World.cell?_of_block (h.block p.block (World.block_lt_of_cell? w p hc) hp)]; exact hc
end Fr

/-- A piece of the call's own memory: the blocks that it is made of, and what is said of them. -/
structure Ch where
  foot : List Nat
  holds : World → Prop
  lt : ∀ {w}, holds w → ∀ g ∈ foot, g < w.heap.size
  keep : ∀ {w w'}, holds w → (∀ g ∈ foot, w'.heap[g]? = w.heap[g]?) → holds w'

/-- A block of cells. -/
def Ch.blk (g : Nat) (t : TypeId) (cs : Array Value) : Ch where
  foot := [g]
  holds w := Whole w g t cs
  lt h x hx := by simp at hx; subst hx; exact h.lt
  keep h k := (k g (by simp)).trans h

theorem ownsRow_zero {w : World} {base e size n : Nat} {v : Value} {xs : List Value} (h : w.ownsRow base e size v n xs) : w.ownsRow 0 e size v n xs := by
  refine ⟨h.1, h.2.imp id ?_⟩
  rintro ⟨g, cap, cur, h1, _, h2⟩
  exact ⟨g, cap, cur, h1, Nat.zero_le _, h2⟩
theorem ownsRow_foot {w : World} {base e size n : Nat} {v : Value} {xs : List Value} (h : w.ownsRow base e size v n xs) : ∀ g ∈ v.ownBlock.toList, base ≤ g := by
  rcases h.2 with ⟨rfl, _⟩ | ⟨g, cap, cur, rfl, hb, _⟩
  · simp [Value.ownBlock]
  · simpa [Value.ownBlock] using hb

/-- A slice of the call's own. -/
def Ch.row (e : TypeId) (size : Nat) (v : Value) (n : Nat) (xs : List Value) : Ch where
  foot := v.ownBlock.toList
  holds w := w.ownsRow 0 e size v n xs
  lt {w} h g hg := by
    rcases h.2 with ⟨rfl, _⟩ | ⟨g', cap, cur, rfl, _, hh, _⟩
    · simp [Value.ownBlock] at hg
    · simp [Value.ownBlock] at hg
      subst hg
      exact (Array.getElem?_eq_some_iff.1 hh).1
  keep {w w'} h k := by
    refine ⟨h.1, h.2.imp id ?_⟩
    rintro ⟨g, cap, cur, rfl, h0, hh, h2⟩
    exact ⟨g, cap, cur, rfl, h0, (k g (by simp [Value.ownBlock])).trans hh, h2⟩

/-- Of the blocks that were there when w0 was, those of F may be written; L lies in the call's own. -/
structure St (w0 : World) (F : List Nat) (L : List Ch) (w : World) : Prop where
  fr : Fr F w0 w
  own : ∀ (i : Nat) (c : Ch), L[i]? = some c → c.holds w ∧ ∀ g ∈ c.foot, g ∈ F ∨ w0.heap.size ≤ g
  apart : ∀ (i j : Nat) (c d : Ch), L[i]? = some c → L[j]? = some d → i ≠ j → ∀ g ∈ c.foot, g ∉ d.foot

namespace St
variable {w0 w w1 : World} {F G : List Nat} {L : List Ch} {c d : Ch}

theorem start (w : World) : St w [] [] w := ⟨Fr.refl _ _, by simp, by simp⟩
theorem get (h : St w0 F L w) (i : Nat) (hi : L[i]? = some c) : c.holds w := (h.own i c hi).1
theorem lt (h : St w0 F L w) (i : Nat) (hi : L[i]? = some c) : ∀ g ∈ c.foot, g < w.heap.size := c.lt (h.get i hi)

theorem upd (h : St w0 F L w) (i : Nat) (hi : L[i]? = some c) (hf : Fr G w w1) (hG : ∀ g ∈ G, g ∈ c.foot) (hd : d.holds w1) (hfoot : ∀ g ∈ d.foot, g ∈ c.foot ∨ w.heap.size ≤ g) : St w0 F (L.set i d) w1 := by
  have hc := h.own i c hi
  have hlt : i < L.length := (List.getElem?_eq_some_iff.1 hi).1
  refine ⟨h.fr.trans hf fun g hg => hc.2 g (hG g hg), fun j e he => ?_, fun j k e e' he he' hjk => ?_⟩
  · rw [List.getElem?_set] at he
    split at he
    · cases he
      refine ⟨hd, fun g hg => ?_⟩
      rcases hfoot g hg with h1 | h1
      · exact hc.2 g h1
      · exact .inr (Nat.le_trans h.fr.size h1)
    · rename_i hij
      obtain ⟨h1, h2⟩ := h.own j e he
      refine ⟨e.keep h1 fun g hg => hf.block g (e.lt h1 g hg) fun hgG => ?_, h2⟩
      exact h.apart j i e c he hi (Ne.symm hij) g hg (hG g hgG)
  · rw [List.getElem?_set] at he he'
    split at he
    · rename_i hij
      cases he
      rw [if_neg (by omega)] at he'
      intro g hg hg'
      rcases hfoot g hg with h1 | h1
      · exact h.apart i k c e' hi he' (by omega) g h1 hg'
      · have := e'.lt (h.own k e' he').1 g hg'
        omega
    · split at he'
      · rename_i hik
        cases he'
        intro g hg hg'
        rcases hfoot g hg' with h1 | h1
        · exact h.apart i j c e hi he (by omega) g h1 hg
        · have := e.lt (h.own j e he).1 g hg
          omega
      · exact h.apart j k e e' he he' hjk

theorem keep (h : St w0 F L w) (hf : Fr [] w w1) : St w0 F L w1 :=
  ⟨h.fr.trans hf (by simp), fun j e he => ⟨e.keep (h.own j e he).1 fun g hg => hf.block g (e.lt (h.own j e he).1 g hg) (by simp), (h.own j e he).2⟩, h.apart⟩

theorem push (h : St w0 F L w) (hf : Fr [] w w1) (hd : d.holds w1) (hfoot : ∀ g ∈ d.foot, w.heap.size ≤ g) : St w0 F (d :: L) w1 := by
  have hk := h.keep hf
  refine ⟨hk.fr, fun j e he => ?_, fun j k e e' he he' hjk => ?_⟩
  · cases j with
    | zero => simp at he; subst he; exact ⟨hd, fun g hg => .inr (Nat.le_trans h.fr.size (hfoot g hg))⟩
    | succ j => exact hk.own j e (by simpa using he)
  · cases j with
    | zero =>
      cases k with
      | zero => exact absurd rfl hjk
      | succ k =>
        simp at he he'
        subst he
        intro g hg hg'
        have := e'.lt (h.own k e' he').1 g hg'
        have := hfoot g hg
        omega
    | succ j =>
      cases k with
      | zero =>
        simp at he he'
        subst he'
        intro g hg hg'
        have := e.lt (h.own j e he).1 g hg
        have := hfoot g hg'
        omega
      | succ k => exact h.apart j k e e' (by simpa using he) (by simpa using he') (by omega)

theorem drop (h : St w0 F (d :: L) w) : St w0 F L w :=
  ⟨h.fr, fun i c hi => h.own (i + 1) c (by simpa using hi), fun i j c d hi hj hij => h.apart (i + 1) (j + 1) c d (by simpa using hi) (by simpa using hj) (by omega)⟩
theorem drop1 (h : St w0 F (c :: d :: L) w) : St w0 F (c :: L) w := by
  refine ⟨h.fr, fun i e hi => ?_, fun i j e e' hi hj hij => ?_⟩
  · cases i with
    | zero => exact h.own 0 e (by simpa using hi)
    | succ i => exact h.own (i + 2) e (by simpa using hi)
  · cases i with
    | zero => cases j with
      | zero => exact absurd rfl hij
      | succ j => exact h.apart 0 (j + 2) e e' (by simpa using hi) (by simpa using hj) (by omega)
    | succ i => cases j with
      | zero => exact h.apart (i + 2) 0 e e' (by simpa using hi) (by simpa using hj) (by omega)
      | succ j => exact h.apart (i + 2) (j + 2) e e' (by simpa using hi) (by simpa using hj) (by omega)
theorem empty (h : St w0 F L w) : St w0 F [] w := ⟨h.fr, by simp, by simp⟩
/-- Two pieces change places. -/
theorem swap (h : St w0 F (c :: d :: L) w) : St w0 F (d :: c :: L) w := by
  have key : ∀ i, (d :: c :: L)[i]? = (c :: d :: L)[if i = 0 then 1 else if i = 1 then 0 else i]? := by
    intro i
    match i with
    | 0 => rfl
    | 1 => rfl
    | i + 2 => simp
  refine ⟨h.fr, fun i e hi => h.own _ e (by rw [← key]; exact hi), fun i j e e' hi hj hij => h.apart _ _ e e' (by rw [← key]; exact hi) (by rw [← key]; exact hj) ?_⟩
  split <;> split <;> (repeat' split) <;> omega

theorem below (h : St w0 [] L w) : Below w0.heap.size w0 w := h.fr.below

/-! What is read. -/
theorem cell {g t : Nat} {cs : Array Value} (h : St w0 F L w) (i : Nat) (hi : L[i]? = some (Ch.blk g t cs)) (j : Nat) : w.cell? ⟨g, j, none⟩ = cs[j]? := Whole.cell (h.get i hi) j
theorem frozen {g t : Nat} {cs : Array Value} (h : St w0 F L w) (i : Nat) (hi : L[i]? = some (Ch.blk g t cs)) (j : Nat) : w.frozen? ⟨g, j, none⟩ = false := Whole.frozen (h.get i hi) j
theorem old (h : St w0 F L w) {p : Addr} {v : Value} (hc : w0.cell? p = some v) (hp : p.block ∉ F) : w.cell? p = some v := h.fr.cell hc hp
theorem sl (h : St w0 [] L w) {a : Option Addr} {xs : List Value} (hs : Sl w0 a xs) : Sl w a xs := hs.below h.below
theorem row {e size n : Nat} {v : Value} {xs : List Value} (h : St w0 F L w) (i : Nat) (hi : L[i]? = some (Ch.row e size v n xs)) : ∃ a cap, v = .slice a n cap ∧ Sl w a xs ∧ xs.length = n * size ∧ n ≤ cap ∧ cap ≤ maxLen := owns_sl (h.get i hi)

theorem rowsl {e size n c m : Nat} {a : Option Addr} {xs : List Value} (h : St w0 F L w) (i : Nat) (hi : L[i]? = some (Ch.row e size (.slice a n c) m xs)) : Sl w a xs := by
  obtain ⟨a', c', e', hs, -⟩ := h.row i hi
  cases e'
  exact hs

/-! What is done. -/
theorem drew (h : St w0 F L w) : St w0 F L w.drew := h.keep (Fr.drew _)
theorem alloc (h : St w0 F L w) (cs : Array Value) (t : TypeId) : St w0 F (Ch.blk w.heap.size t cs :: L) (w.alloc (.cells cs t)) :=
  h.push (Fr.alloc _ _) (Whole.new w t cs) (by simp [Ch.blk])
theorem new (h : St w0 F L w) (cs : Array Value) (t : TypeId) : ∃ g w1, w.heap.size = g ∧ w.alloc (.cells cs t) = w1 ∧ St w0 F (Ch.blk g t cs :: L) w1 := ⟨_, _, rfl, rfl, h.alloc cs t⟩
theorem set {g t : Nat} {cs : Array Value} (h : St w0 F L w) (i : Nat) (hi : L[i]? = some (Ch.blk g t cs)) (j : Nat) (u : Value) : St w0 F (L.set i (Ch.blk g t (cs.setIfInBounds j u))) (w.setCell ⟨g, j, none⟩ u) :=
  h.upd i hi (Fr.set w g j u) (by simp [Ch.blk]) (Whole.set (h.get i hi) j u) (by simp [Ch.blk])
theorem fresh {e size n : Nat} {v : Value} {xs : List Value} (h : St w0 F L w) (hf : Fr [] w w1) (ho : w1.ownsRow w.heap.size e size v n xs) : St w0 F (Ch.row e size v n xs :: L) w1 :=
  h.push hf (ownsRow_zero ho) (ownsRow_foot ho)
theorem freshB {e size n : Nat} {v : Value} {xs : List Value} (h : St w0 F L w) (ho : w1.ownsRow w.heap.size e size v n xs) (hb : Below w.heap.size w w1) : St w0 F (Ch.row e size v n xs :: L) w1 :=
  h.fresh (Fr.of_below hb) ho
theorem keepB (h : St w0 F L w) (hb : Below w.heap.size w w1) : St w0 F L w1 := h.keep (Fr.of_below hb)
end St

/-! ### The walk's laws in a region that keeps its order -/
section
variable {P : Program} {w0 w : World} {F : List Nat} {L : List Ch} {ops : Array Oper} {rest : List Oper} {o : Oper} {a : Act} {Q : Exit → Act → World → Prop}

/-- append to a slice of the call's own. -/
theorem wpList_app_st (i : Nat) {e size n : Nat} {v : Value} {xs : List Value} (hS : St w0 F L w) (hi : L[i]? = some (Ch.row e size v n xs)) (hgd : o.guard = none) {s x : Operand} {t tx : TypeId} (ho : o.op = .call { callee := .builtin .append, args := #[s, x], argTypes := #[t, tx] })
    (ht : P.underlying t = some (.slice e)) {z : Value} {bytes : Nat} (he : Elem P e z size bytes) (hs : a.eval s = v)
    {xv : Value} {m : Nat} {news : List Value} (hx : Src P w tx xv size m news) (hxv : a.eval x = xv) (h1 : ∀ u ∈ news, u.oneCell' = true)
    (hb : (n + m) * bytes ≤ 140737488355328) (h63 : n + m ≤ maxLen)
    (h : ∀ v' w', St w0 F (L.set i (Ch.row e size v' (n + m) (xs ++ news))) w' → wpList P ops Q rest (a.put o.dst v') w') : wpList P ops Q (o :: rest) a w := by
  refine wpList_app hgd ho ht he (hS.get i hi) hs hx hxv h1 hb h63 (Nat.zero_le _) fun v' w' h2 _ h3 h4 => h v' w' ?_
  refine hS.upd i hi (Fr.of_row h3) (by intro g hg; exact hg) h2 ?_
  intro g hg
  rcases h4 with h4 | h4
  · left; simpa [Ch.row, h4] using hg
  · right
    simp [Ch.row, h4] at hg
    omega

/-- make([]T, n). -/
theorem wpList_mkfull_st (hS : St w0 F L w) (hg : o.guard = none) {l c : Operand} {t : TypeId} (hop : o.op = Op.makeSlice t l c)
    {e : TypeId} (h1 : P.underlying t = some (.slice e)) {z : Value} {size bytes : Nat} (he : Elem P e z size bytes)
    {kl kc : IntKind} {N C : Int} (hl : a.eval l = .int kl N) (hc : a.eval c = .int kc C) (n : Nat) (hL : N = (n : Int)) (hC : C = (n : Int)) (hb : n * bytes ≤ 281474976710656) (hm : n ≤ maxLen)
    (hK : ∀ g w', St w0 F (Ch.row e size (.slice (some ⟨g, 0, none⟩) n n) n (madeCells z.cells (n * size)).toList :: L) w' → wpList P ops Q rest (a.put o.dst (.slice (some ⟨g, 0, none⟩) n n)) w') :
    wpList P ops Q (o :: rest) a w :=
  wpList_mkfull hg hop h1 he hl hc n hL hC hb hm fun _ h2 h3 => hK _ _ (hS.fresh (Fr.of_all h3) h2)
end

/-! ### Regions that draw their order -/
/-- The worlds in which L stands. -/
def Cl (w0 : World) (F : List Nat) (L : List Ch) : Type := { x : World // St w0 F L x }

section
variable {w0 w : World} {F : List Nat} {L : List Ch}
theorem St.kblk {g t : Nat} {cs : Array Value} (_ : St w0 F L w) (i : Nat) (hi : L[i]? = some (Ch.blk g t cs)) : ∀ (s : Cl w0 F L) (j : Nat), s.1.cell? ⟨g, j, none⟩ = cs[j]? := fun s j => s.2.cell i hi j
theorem St.kold0 (_ : St w0 [] L w) {p : Addr} {v : Value} (hc : w0.cell? p = some v) : ∀ s : Cl w0 [] L, s.1.cell? p = some v := fun s => s.2.old hc (by simp)

variable {P : Program} {Q : Exit → Act → World → Prop}

theorem mixs_begin {id : Nat} {l : List Oper} {a : Act} (hm : P.follows .mixedOrders = true) (hS : St w0 F L w)
    (h : ∀ w', St w0 F L w' → wpAnyH P .any l.toArray Q (fun w' => St w0 F L w') l.length (Array.replicate l.length false) a w') : (Code.region id l.toArray true).wp P Q a w := by
  refine wp_region_held (S := fun w' => St w0 F L w') hm ?_
  simpa using h w.drew hS.drew

variable {ops : Array Oper} {fuel : Nat} {listed : Array Bool} {a : Act} {oi : Oper}

theorem mixs_take (i : Nat) {v : Value} (hi : ops[i]? = some oi) (hok : (Region.noSelect ops && (Region.free .any ops listed i && (Region.ready .any ops listed).contains i)) = true)
    (hQ : ∀ c a w, Q (.panic c) (a.put oi.dst v) w → Q (.panic c) a w) (hw : Region.wanted oi (yielded ops a.tmps) = true) (hS : St w0 F L w)
    (hy : ∀ s : Cl w0 F L, (execOp a.eval oi).run P s.1 = .ok (.value v) s.1)
    (h : wpAnyH P .any ops Q (fun w' => St w0 F L w') fuel (listed.setIfInBounds i true) (a.put oi.dst v) w) :
    wpAnyH P .any ops Q (fun w' => St w0 F L w') (fuel + 1) listed a w := by
  simp only [Bool.and_eq_true] at hok
  exact wpAnyH_take hi hok.1 hok.2.1 hok.2.2 hQ (Or.inl ⟨hw, fun w' h' => hy ⟨w', h'⟩⟩) hS h

theorem mixs_skip (i : Nat) (hi : ops[i]? = some oi) (hok : (Region.noSelect ops && (Region.free .any ops listed i && (Region.ready .any ops listed).contains i)) = true)
    (hQ : ∀ c a w, Q (.panic c) (a.put oi.dst undef) w → Q (.panic c) a w) (hw : Region.wanted oi (yielded ops a.tmps) = false) (hS : St w0 F L w)
    (h : wpAnyH P .any ops Q (fun w' => St w0 F L w') fuel (listed.setIfInBounds i true) (a.put oi.dst undef) w) :
    wpAnyH P .any ops Q (fun w' => St w0 F L w') (fuel + 1) listed a w := by
  simp only [Bool.and_eq_true] at hok
  exact wpAnyH_take hi hok.1 hok.2.1 hok.2.2 hQ (Or.inr ⟨hw, rfl⟩) hS h

/-- Number i comes up, which alone may; behind it the class may be a narrower one. -/
theorem mixs_one (i : Nat) {o : Oper} (hr : Region.ready .any ops listed = [i]) (ho : ops[i]? = some o)
    (h : ∀ K' : Act → World → Prop, Shut (∀ (L' : List Ch) a w1, (∀ x, St w0 F L' x → St w0 F L x) → St w0 F L' w1 → (St w0 F L' w1 → wpAnyH P .any ops Q (fun w' => St w0 F L' w') fuel (listed.setIfInBounds i true) a w1) → K' a w1) →
      if Region.wanted o (yielded ops a.tmps) = true then Oper.wp P o a w K' Q else K' (a.put o.dst undef) w) :
    wpAnyH P .any ops Q (fun w' => St w0 F L w') (fuel + 1) listed a w := by
  refine wpAnyH_ready hr (by simp) (AllReadyH.cons ho (fun K hK => h K ?_) AllReadyH.nil)
  intro L' a1 w1 hL hb hc
  exact hK.out a1 w1 (hL _ hb) fun _ => wpAnyH_mono (fun _ h => hL _ h) _ _ _ _ (hc hb)

/-- Two may come up. -/
theorem mixs_two (i j : Nat) {oi oj : Oper} (hr : Region.ready .any ops listed = [i, j]) (hio : ops[i]? = some oi) (hjo : ops[j]? = some oj)
    (hi : ∀ K' : Act → World → Prop, Shut (∀ (L' : List Ch) a w1, (∀ x, St w0 F L' x → St w0 F L x) → St w0 F L' w1 → (St w0 F L' w1 → wpAnyH P .any ops Q (fun w' => St w0 F L' w') fuel (listed.setIfInBounds i true) a w1) → K' a w1) →
      if Region.wanted oi (yielded ops a.tmps) = true then Oper.wp P oi a w K' Q else K' (a.put oi.dst undef) w)
    (hj : ∀ K' : Act → World → Prop, Shut (∀ (L' : List Ch) a w1, (∀ x, St w0 F L' x → St w0 F L x) → St w0 F L' w1 → (St w0 F L' w1 → wpAnyH P .any ops Q (fun w' => St w0 F L' w') fuel (listed.setIfInBounds j true) a w1) → K' a w1) →
      if Region.wanted oj (yielded ops a.tmps) = true then Oper.wp P oj a w K' Q else K' (a.put oj.dst undef) w) :
    wpAnyH P .any ops Q (fun w' => St w0 F L w') (fuel + 1) listed a w := by
  refine wpAnyH_ready hr (by simp) (AllReadyH.cons hio (fun K hK => hi K ?_) (AllReadyH.cons hjo (fun K hK => hj K ?_) AllReadyH.nil))
  all_goals
    intro L' a1 w1 hL hb hc
    exact hK.out a1 w1 (hL _ hb) fun _ => wpAnyH_mono (fun _ h => hL _ h) _ _ _ _ (hc hb)

/-- Three may come up. -/
theorem mixs_three (i j k : Nat) {oi oj ok : Oper} (hr : Region.ready .any ops listed = [i, j, k]) (hio : ops[i]? = some oi) (hjo : ops[j]? = some oj) (hko : ops[k]? = some ok)
    (hi : ∀ K' : Act → World → Prop, Shut (∀ (L' : List Ch) a w1, (∀ x, St w0 F L' x → St w0 F L x) → St w0 F L' w1 → (St w0 F L' w1 → wpAnyH P .any ops Q (fun w' => St w0 F L' w') fuel (listed.setIfInBounds i true) a w1) → K' a w1) →
      if Region.wanted oi (yielded ops a.tmps) = true then Oper.wp P oi a w K' Q else K' (a.put oi.dst undef) w)
    (hj : ∀ K' : Act → World → Prop, Shut (∀ (L' : List Ch) a w1, (∀ x, St w0 F L' x → St w0 F L x) → St w0 F L' w1 → (St w0 F L' w1 → wpAnyH P .any ops Q (fun w' => St w0 F L' w') fuel (listed.setIfInBounds j true) a w1) → K' a w1) →
      if Region.wanted oj (yielded ops a.tmps) = true then Oper.wp P oj a w K' Q else K' (a.put oj.dst undef) w)
    (hk : ∀ K' : Act → World → Prop, Shut (∀ (L' : List Ch) a w1, (∀ x, St w0 F L' x → St w0 F L x) → St w0 F L' w1 → (St w0 F L' w1 → wpAnyH P .any ops Q (fun w' => St w0 F L' w') fuel (listed.setIfInBounds k true) a w1) → K' a w1) →
      if Region.wanted ok (yielded ops a.tmps) = true then Oper.wp P ok a w K' Q else K' (a.put ok.dst undef) w) :
    wpAnyH P .any ops Q (fun w' => St w0 F L w') (fuel + 1) listed a w := by
  refine wpAnyH_ready hr (by simp) (AllReadyH.cons hio (fun K hK => hi K ?_) (AllReadyH.cons hjo (fun K hK => hj K ?_) (AllReadyH.cons hko (fun K hK => hk K ?_) AllReadyH.nil)))
  all_goals
    intro L' a1 w1 hL hb hc
    exact hK.out a1 w1 (hL _ hb) fun _ => wpAnyH_mono (fun _ h => hL _ h) _ _ _ _ (hc hb)

end

end Go.Ofp
end

section
/- The walk's laws on a call's own blocks: made, read, written. -/
set_option linter.unusedSimpArgs false
set_option linter.unusedVariables false
namespace Go.Ofp
open Go.RowKit

/-- A variable of one cell. -/
def scalarB (P : Program) (t : TypeId) : Bool := match P.underlying t with
  | none | some (.struct _) | some (.array ..) => false
  | _ => true
/-- A struct or an array. -/
def rowB (P : Program) (t : TypeId) : Bool := match P.underlying t with
  | some (.struct _) | some (.array ..) => true
  | _ => false
def sizeB (P : Program) (t : TypeId) (n : Nat) : Bool := (P.info? t).map (·.size) == some n

section
variable {P : Program} {w : World}

theorem run_load1 {t : TypeId} (hu : scalarB P t = true) {p : Addr} {v : Value} (hc : w.cell? p = some v) : (Instr.loadAt t (.pointer (some p))).run P w = .ok v w := by
  unfold scalarB at hu
  cases hq : P.underlying t with
  | none => rw [hq] at hu; cases hu
  | some d =>
    rw [hq] at hu
    have hagg : (isAgg t).run P w = .ok false w := by
      unfold isAgg
      rw [Sem.run_bind, run_underlying hq w]
      cases d <;> simp_all
    simp [Instr.loadAt, Instr.sureAddr, loadVar, hagg, hc, go_sem]

theorem run_store1 {t : TypeId} (hu : sizeB P t 1 = true) {p : Addr} {v u : Value} (hv : v.oneCell' = true) (hc : w.cell? p = some u) (hf : w.frozen? p = false) : (Instr.storeAt t (.pointer (some p)) v).run P w = .ok () (w.setCell p v) := by
  have hs : (P.info? t).map (·.size) = some 1 := by simpa [sizeB] using hu
  have hcs : v.cells = #[v] := by cases v <;> simp_all [Value.cells, Value.oneCell']
  have hp : p.spot = none := World.cell?_spot hc
  have ha : p.add 0 = p := by obtain ⟨b, o, s⟩ := p; subst hp; rw [Addr.add_lit]; simp
  obtain ⟨i, hi, hi1⟩ := Option.map_eq_some_iff.1 hs
  have hst : (store p v).run P w = .ok () (w.setCell p v) := by
    cases v <;> simp_all [Value.oneCell', store, Sem.run]
  simp [Instr.storeAt, Instr.sureAddr, storeVar, sizeOf, typeInfo, hi, hi1, hcs, storeCells, ha, hst]

variable {w0 : World} {F : List Nat} {L : List Ch} {ops : Array Oper} {rest : List Oper} {o : Oper} {a : Act} {Q : Exit → Act → World → Prop}

/-- A value of one cell, looked at. -/
@[reducible] def Value.scal : Value → Option Value
  | .int k z => some (.int k z)
  | .bool b => some (.bool b)
  | .string s => some (.string s)
  | .slice a n c => some (.slice a n c)
  | .pointer p => some (.pointer p)
  | _ => none
theorem Value.scal_spec {v u : Value} (h : Value.scal v = some u) : v = u ∧ v.cells = #[u] ∧ u.oneCell' = true := by
  cases v <;> simp [Value.scal] at h <;> subst h <;> exact ⟨rfl, rfl, rfl⟩

theorem wpList_boxv_st (hS : St w0 F L w) (hgd : o.guard = none) {t : TypeId} {x : Operand} (ho : o.op = .box t x) {v : Value} (hx : a.eval x = v)
    (h : ∀ g w', St w0 F (Ch.blk g t v.cells :: L) w' → wpList P ops Q rest (a.put o.dst (.pointer (some ⟨g, 0, none⟩))) w') : wpList P ops Q (o :: rest) a w := by
  refine wpList_plain hgd fun K hK => ?_
  unfold Oper.wp execOp
  simp only [ho, hx, Instr.box, newVar, newRow, newObj, Sem.run_bind, Sem.run_pure]
  exact hK _ _ (h _ _ (hS.alloc v.cells t))

theorem wpList_box_st (hS : St w0 F L w) (hgd : o.guard = none) {t : TypeId} {x : Operand} (ho : o.op = .box t x) {cs : Array Value} (hx : a.eval x = .agg cs)
    (h : ∀ g w', St w0 F (Ch.blk g t cs :: L) w' → wpList P ops Q rest (a.put o.dst (.pointer (some ⟨g, 0, none⟩))) w') : wpList P ops Q (o :: rest) a w :=
  wpList_boxv_st hS hgd ho hx h

theorem wpList_box1_st (hS : St w0 F L w) (hgd : o.guard = none) {t : TypeId} {x : Operand} (ho : o.op = .box t x) {v : Value} (hx : Value.scal (a.eval x) = some v)
    (h : ∀ g w', St w0 F (Ch.blk g t #[v] :: L) w' → wpList P ops Q rest (a.put o.dst (.pointer (some ⟨g, 0, none⟩))) w') : wpList P ops Q (o :: rest) a w :=
  wpList_boxv_st hS hgd ho rfl (by rw [(Value.scal_spec hx).2.1]; exact h)

theorem wpList_allocv_st (hS : St w0 F L w) (hgd : o.guard = none) {t : TypeId} (ho : o.op = .alloc t) {z : Value} {size bytes : Nat} (he : Elem P t z size bytes)
    (h : ∀ g w', St w0 F (Ch.blk g t z.cells :: L) w' → wpList P ops Q rest (a.put o.dst (.pointer (some ⟨g, 0, none⟩))) w') : wpList P ops Q (o :: rest) a w := by
  refine wpList_plain hgd fun K hK => ?_
  obtain ⟨i, hi, hz', -⟩ := he
  have hr : (Instr.alloc t true (.tuple #[])).run P w = .ok (.pointer (some ⟨w.heap.size, 0, none⟩)) (w.alloc (.cells z.cells t)) := by
    simp [Instr.alloc, zeroValue, typeInfo, hi, hz', go_sem]
  unfold Oper.wp execOp
  simp only [ho, Sem.run_bind, hr, Result.andThen_ok, Sem.run_pure]
  exact hK _ _ (h _ _ (hS.alloc z.cells t))

theorem wpList_alloc_st (hS : St w0 F L w) (hgd : o.guard = none) {t : TypeId} (ho : o.op = .alloc t) {cs : Array Value} {size bytes : Nat} (he : Elem P t (.agg cs) size bytes)
    (h : ∀ g w', St w0 F (Ch.blk g t cs :: L) w' → wpList P ops Q rest (a.put o.dst (.pointer (some ⟨g, 0, none⟩))) w') : wpList P ops Q (o :: rest) a w := wpList_allocv_st hS hgd ho he h
theorem wpList_alloc1_st (hS : St w0 F L w) (hgd : o.guard = none) {t : TypeId} (ho : o.op = .alloc t) {z v : Value} {size bytes : Nat} (he : Elem P t z size bytes) (hz : Value.scal z = some v)
    (h : ∀ g w', St w0 F (Ch.blk g t #[v] :: L) w' → wpList P ops Q rest (a.put o.dst (.pointer (some ⟨g, 0, none⟩))) w') : wpList P ops Q (o :: rest) a w :=
  wpList_allocv_st hS hgd ho he (by rw [(Value.scal_spec hz).2.1]; exact h)

theorem wpList_load_st (i : Nat) {g j T : Nat} {cs : Array Value} (hS : St w0 F L w) (hi : L[i]? = some (Ch.blk g T cs)) (hgd : o.guard = none) {t : TypeId} {x : Operand} (ho : o.op = .load t x) (hx : a.eval x = .pointer (some ⟨g, j, none⟩))
    (hu : scalarB P t = true) {v : Value} (hv : cs[j]? = some v) (h : wpList P ops Q rest (a.put o.dst v) w) : wpList P ops Q (o :: rest) a w := by
  refine wpList_plain hgd fun K hK => ?_
  have hr := run_load1 hu ((hS.cell i hi j).trans hv)
  unfold Oper.wp execOp
  simp only [ho, hx, Sem.run_bind, hr, Result.andThen_ok, Sem.run_pure]
  exact hK _ _ h

theorem rowB_spec {t : TypeId} {n : Nat} (h : rowB P t = true) (hn : sizeB P t n = true) : ∃ d, P.underlying t = some d ∧ d.isRow = true ∧ (P.info? t).map (·.size) = some n := by
  unfold rowB at h
  have hs : (P.info? t).map (·.size) = some n := by simpa [sizeB] using hn
  cases hq : P.underlying t with
  | none => rw [hq] at h; cases h
  | some d => rw [hq] at h; exact ⟨d, rfl, by cases d <;> simp_all, hs⟩

theorem run_loadrow {t : TypeId} {n : Nat} (hu : rowB P t = true) (hsz : sizeB P t n = true) {g j : Nat} {vs : List Value} (hl : vs.length = n) (hc : w.rangeAt g j vs) : (Instr.loadAt t (.pointer (some ⟨g, j, none⟩))).run P w = .ok (.agg vs.toArray) w := by
  obtain ⟨d, h1, h2, h3⟩ := rowB_spec hu hsz
  exact run_loadAt_mid w g j t vs d hc h1 h2 (by rw [h3, hl])

theorem Whole.range {g T : Nat} {cs : Array Value} (h : Whole w g T cs) (j : Nat) {vs : List Value} (hv : ∀ k v, vs[k]? = some v → cs[j + k]? = some v) : w.rangeAt g j vs := fun k v hk => by
  rw [h.cell]; exact hv k v hk

theorem range_extract (cs : Array Value) (j n : Nat) : ∀ k v, (cs.toList.drop j |>.take n)[k]? = some v → cs[j + k]? = some v := by
  intro k v h
  rw [List.getElem?_take] at h
  split at h
  · rw [List.getElem?_drop] at h; simpa using h
  · cases h

/-- A struct or an array out of a block. -/
theorem wpList_loadrow_st (i : Nat) {g j T n : Nat} {cs : Array Value} {vs : List Value} (hS : St w0 F L w) (hi : L[i]? = some (Ch.blk g T cs)) (hgd : o.guard = none) {t : TypeId} {x : Operand} (ho : o.op = .load t x) (hx : a.eval x = .pointer (some ⟨g, j, none⟩))
    (hu : rowB P t = true) (hsz : sizeB P t n = true) (hv : (cs.toList.drop j).take n = vs) (hl : vs.length = n) (h : wpList P ops Q rest (a.put o.dst (.agg vs.toArray)) w) : wpList P ops Q (o :: rest) a w := by
  refine wpList_plain hgd fun K hK => ?_
  subst hv
  have hr := run_loadrow hu hsz hl (Whole.range (hS.get i hi) j (range_extract cs j n))
  unfold Oper.wp execOp
  simp only [ho, hx, Sem.run_bind, hr, Result.andThen_ok, Sem.run_pure]
  exact hK _ _ h

theorem wpList_loadall_st (i : Nat) {g T : Nat} {cs : Array Value} (hS : St w0 F L w) (hi : L[i]? = some (Ch.blk g T cs)) (hgd : o.guard = none) {t : TypeId} {x : Operand} (ho : o.op = .load t x) (hx : a.eval x = .pointer (some ⟨g, 0, none⟩))
    (hu : rowB P t = true) (hsz : sizeB P t cs.size = true) (h : wpList P ops Q rest (a.put o.dst (.agg cs)) w) : wpList P ops Q (o :: rest) a w := by
  refine wpList_loadrow_st (vs := cs.toList) i hS hi hgd ho hx hu hsz (by simp; exact List.take_of_length_le (by simp)) (by simp) ?_
  simpa using h

theorem wpList_store_st (i : Nat) {g j T : Nat} {cs : Array Value} (hS : St w0 F L w) (hi : L[i]? = some (Ch.blk g T cs)) (hgd : o.guard = none) {t : TypeId} {x y : Operand} (ho : o.op = .store t x y) (hx : a.eval x = .pointer (some ⟨g, j, none⟩))
    (hu : sizeB P t 1 = true) {v : Value} (hy : Value.scal (a.eval y) = some v) (hj : Nat.ble (j + 1) cs.size = true) (h : ∀ w', St w0 F (L.set i (Ch.blk g T (cs.setIfInBounds j v))) w' → wpList P ops Q rest (a.put o.dst undef) w') : wpList P ops Q (o :: rest) a w := by
  refine wpList_plain hgd fun K hK => ?_
  replace hj : j < cs.size := Nat.le_of_ble_eq_true hj
  obtain ⟨hy, -, hv⟩ := Value.scal_spec hy
  have hr := run_store1 (P := P) hu hv ((hS.cell i hi j).trans (Array.getElem?_eq_getElem hj)) (hS.frozen i hi j)
  unfold Oper.wp execOp
  simp only [ho, hx, hy, Sem.run_bind, hr, Result.andThen_ok, Sem.run_pure]
  exact hK _ _ (h _ (hS.set i hi j v))

theorem Whole.setCells {T : TypeId} {g j : Nat} {cs : Array Value} (h : Whole w g T cs) (vs : List Value) (hfit : j + vs.length ≤ cs.size) (h1 : ∀ v ∈ vs, v.oneCell' = true) :
    (storeCells ⟨g, j, none⟩ vs 0).run P w = .ok () (w.setRow g (cs.toList.take j ++ vs ++ cs.toList.drop (j + vs.length)).toArray) ∧ Whole (w.setRow g (cs.toList.take j ++ vs ++ cs.toList.drop (j + vs.length)).toArray) g T (cs.toList.take j ++ vs ++ cs.toList.drop (j + vs.length)).toArray ∧ Fr [g] w (w.setRow g (cs.toList.take j ++ vs ++ cs.toList.drop (j + vs.length)).toArray) := by
  have hst := run_storeCells_at P g j T vs 0 cs w h (by omega) h1
  simp only [Nat.add_zero] at hst
  exact ⟨hst, setRow_heap w g cs _ T _ h, Fr.of_grown ⟨rfl, rfl, rfl, by simp, fun k _ hk => setRow_other w g k _ (fun e => hk (by simp [e]))⟩⟩

/-- A struct or an array into a block. -/
theorem wpList_storerow_st (i : Nat) {g j T n : Nat} {cs : Array Value} (hS : St w0 F L w) (hi : L[i]? = some (Ch.blk g T cs)) (hgd : o.guard = none) {t : TypeId} {x y : Operand} (ho : o.op = .store t x y) (hx : a.eval x = .pointer (some ⟨g, j, none⟩))
    (hsz : sizeB P t n = true) {vs : List Value} (hy : a.eval y = .agg vs.toArray) (hl : vs.length = n) (hv : vs.all Value.oneCell' = true) (hj : Nat.ble (j + n) cs.size = true)
    (h : ∀ w', St w0 F (L.set i (Ch.blk g T (cs.toList.take j ++ vs ++ cs.toList.drop (j + n)).toArray)) w' → wpList P ops Q rest (a.put o.dst undef) w') : wpList P ops Q (o :: rest) a w := by
  refine wpList_plain hgd fun K hK => ?_
  subst hl
  have h3 : (P.info? t).map (·.size) = some vs.length := by simpa [sizeB] using hsz
  obtain ⟨k1, k2, k3⟩ := Whole.setCells (P := P) (hS.get i hi) vs (Nat.le_of_ble_eq_true hj) (fun v hv' => List.all_eq_true.1 hv v hv')
  obtain ⟨ii, hii, hi1⟩ := Option.map_eq_some_iff.1 h3
  generalize w.setRow g (cs.toList.take j ++ vs ++ cs.toList.drop (j + vs.length)).toArray = W at k1 k2 k3
  have hr : (Instr.storeAt t (.pointer (some ⟨g, j, none⟩)) (.agg vs.toArray)).run P w = .ok () W := by
    simp [Instr.storeAt, Instr.sureAddr, storeVar, sizeOf, typeInfo, hii, hi1, Value.cells, k1]
  unfold Oper.wp execOp
  simp only [ho, hx, hy, Sem.run_bind, hr, Result.andThen_ok, Sem.run_pure]
  exact hK _ _ (h _ (hS.upd i hi k3 (by simp [Ch.blk]) k2 (by simp [Ch.blk])))

/-! In a region that draws its order: one operation that comes up. -/
variable {K : Act → World → Prop}
theorem op_alloc_st (hw : Region.wanted o (yielded ops a.tmps) = true) {t : TypeId} (ho : o.op = .alloc t) {cs : Array Value} {size bytes : Nat} (he : Elem P t (.agg cs) size bytes) (hS : St w0 F L w)
    (h : ∀ g w', St w0 F (Ch.blk g t cs :: L) w' → K (a.put o.dst (.pointer (some ⟨g, 0, none⟩))) w') : if Region.wanted o (yielded ops a.tmps) = true then Oper.wp P o a w K Q else K (a.put o.dst undef) w := by
  rw [if_pos hw]
  obtain ⟨i, hi, hz', -⟩ := he
  have hr : (Instr.alloc t true (.tuple #[])).run P w = .ok (.pointer (some ⟨w.heap.size, 0, none⟩)) (w.alloc (.cells cs t)) := by
    simp [Instr.alloc, zeroValue, typeInfo, hi, hz', go_sem]
  unfold Oper.wp execOp
  simp only [ho, Sem.run_bind, hr, Result.andThen_ok, Sem.run_pure]
  exact h _ _ (hS.alloc cs t)
theorem op_load_st (hw : Region.wanted o (yielded ops a.tmps) = true) (i : Nat) {g j T : Nat} {cs : Array Value} (hS : St w0 F L w) (hi : L[i]? = some (Ch.blk g T cs)) {t : TypeId} {x : Operand} (ho : o.op = .load t x) (hx : a.eval x = .pointer (some ⟨g, j, none⟩))
    (hu : scalarB P t = true) {v : Value} (hv : cs[j]? = some v) (h : K (a.put o.dst v) w) : if Region.wanted o (yielded ops a.tmps) = true then Oper.wp P o a w K Q else K (a.put o.dst undef) w := by
  rw [if_pos hw]
  have hr := run_load1 hu ((hS.cell i hi j).trans hv)
  unfold Oper.wp execOp
  simp only [ho, hx, Sem.run_bind, hr, Result.andThen_ok, Sem.run_pure]
  exact h
theorem op_loadrow_st (hw : Region.wanted o (yielded ops a.tmps) = true) (i : Nat) {g j T n : Nat} {cs : Array Value} {vs : List Value} (hS : St w0 F L w) (hi : L[i]? = some (Ch.blk g T cs)) {t : TypeId} {x : Operand} (ho : o.op = .load t x) (hx : a.eval x = .pointer (some ⟨g, j, none⟩))
    (hu : rowB P t = true) (hsz : sizeB P t n = true) (hv : (cs.toList.drop j).take n = vs) (hl : vs.length = n) (h : K (a.put o.dst (.agg vs.toArray)) w) : if Region.wanted o (yielded ops a.tmps) = true then Oper.wp P o a w K Q else K (a.put o.dst undef) w := by
  rw [if_pos hw]
  subst hv
  have hr := run_loadrow hu hsz hl (Whole.range (hS.get i hi) j (range_extract cs j n))
  unfold Oper.wp execOp
  simp only [ho, hx, Sem.run_bind, hr, Result.andThen_ok, Sem.run_pure]
  exact h
theorem op_loadall_st (hw : Region.wanted o (yielded ops a.tmps) = true) (i : Nat) {g T : Nat} {cs : Array Value} (hS : St w0 F L w) (hi : L[i]? = some (Ch.blk g T cs)) {t : TypeId} {x : Operand} (ho : o.op = .load t x) (hx : a.eval x = .pointer (some ⟨g, 0, none⟩))
    (hu : rowB P t = true) (hsz : sizeB P t cs.size = true) (h : K (a.put o.dst (.agg cs)) w) : if Region.wanted o (yielded ops a.tmps) = true then Oper.wp P o a w K Q else K (a.put o.dst undef) w := by
  refine op_loadrow_st (vs := cs.toList) hw i hS hi ho hx hu hsz (by simp; exact List.take_of_length_le (by simp)) (by simp) ?_
  simpa using h

theorem op_store_st (hw : Region.wanted o (yielded ops a.tmps) = true) (i : Nat) {g j T : Nat} {cs : Array Value} (hS : St w0 F L w) (hi : L[i]? = some (Ch.blk g T cs)) {t : TypeId} {x y : Operand} (ho : o.op = .store t x y) (hx : a.eval x = .pointer (some ⟨g, j, none⟩))
    (hu : sizeB P t 1 = true) {v : Value} (hy : Value.scal (a.eval y) = some v) (hj : Nat.ble (j + 1) cs.size = true) (h : ∀ w', St w0 F (L.set i (Ch.blk g T (cs.setIfInBounds j v))) w' → K (a.put o.dst undef) w') : if Region.wanted o (yielded ops a.tmps) = true then Oper.wp P o a w K Q else K (a.put o.dst undef) w := by
  rw [if_pos hw]
  replace hj : j < cs.size := Nat.le_of_ble_eq_true hj
  obtain ⟨hy, -, hv⟩ := Value.scal_spec hy
  have hr := run_store1 (P := P) hu hv ((hS.cell i hi j).trans (Array.getElem?_eq_getElem hj)) (hS.frozen i hi j)
  unfold Oper.wp execOp
  simp only [ho, hx, hy, Sem.run_bind, hr, Result.andThen_ok, Sem.run_pure]
  exact h _ (hS.set i hi j v)
theorem op_storerow_st (hw : Region.wanted o (yielded ops a.tmps) = true) (i : Nat) {g j T n : Nat} {cs : Array Value} (hS : St w0 F L w) (hi : L[i]? = some (Ch.blk g T cs)) {t : TypeId} {x y : Operand} (ho : o.op = .store t x y) (hx : a.eval x = .pointer (some ⟨g, j, none⟩))
    (hsz : sizeB P t n = true) {vs : List Value} (hy : a.eval y = .agg vs.toArray) (hl : vs.length = n) (hv : vs.all Value.oneCell' = true) (hj : Nat.ble (j + n) cs.size = true)
    (h : ∀ w', St w0 F (L.set i (Ch.blk g T (cs.toList.take j ++ vs ++ cs.toList.drop (j + n)).toArray)) w' → K (a.put o.dst undef) w') : if Region.wanted o (yielded ops a.tmps) = true then Oper.wp P o a w K Q else K (a.put o.dst undef) w := by
  rw [if_pos hw]
  subst hl
  have h3 : (P.info? t).map (·.size) = some vs.length := by simpa [sizeB] using hsz
  obtain ⟨k1, k2, k3⟩ := Whole.setCells (P := P) (hS.get i hi) vs (Nat.le_of_ble_eq_true hj) (fun v hv' => List.all_eq_true.1 hv v hv')
  obtain ⟨ii, hii, hi1⟩ := Option.map_eq_some_iff.1 h3
  generalize w.setRow g (cs.toList.take j ++ vs ++ cs.toList.drop (j + vs.length)).toArray = W at k1 k2 k3
  have hr : (Instr.storeAt t (.pointer (some ⟨g, j, none⟩)) (.agg vs.toArray)).run P w = .ok () W := by
    simp [Instr.storeAt, Instr.sureAddr, storeVar, sizeOf, typeInfo, hii, hi1, Value.cells, k1]
  unfold Oper.wp execOp
  simp only [ho, hx, hy, Sem.run_bind, hr, Result.andThen_ok, Sem.run_pure]
  exact h _ (hS.upd i hi k3 (by simp [Ch.blk]) k2 (by simp [Ch.blk]))
end

section
variable {P : Program} {Q : Exit → Act → World → Prop} {S : World → Prop} {ops : Array Oper} {fuel : Nat} {listed : Array Bool} {a : Act} {w : World}
end
end Go.Ofp
end

section
/- More laws of the walk: slices of structs of the call's own. -/
set_option linter.unusedSimpArgs false
set_option linter.unusedVariables false
namespace Go.Ofp
open Go.RowKit

section
variable {P : Program} {w w0 : World} {F : List Nat} {L : List Ch} {ops : Array Oper} {rest : List Oper} {o : Oper} {a : Act} {Q : Exit → Act → World → Prop} {K : Act → World → Prop}

theorem ownsRow_set {e size n c g j : Nat} {xs vs : List Value} (h : w.ownsRow 0 e size (.slice (some ⟨g, 0, none⟩) n c) n xs) (hj : j < n) (hl : vs.length = size) (h1 : ∀ v ∈ vs, v.oneCell' = true) :
    ∃ w', (storeCells ⟨g, j * size, none⟩ vs 0).run P w = .ok () w' ∧ w'.ownsRow 0 e size (.slice (some ⟨g, 0, none⟩) n c) n (xs.take (j * size) ++ vs ++ xs.drop (j * size + size)) ∧ Fr [g] w w' := by
  rcases h.2 with ⟨h, _⟩ | ⟨g', cap, cur, hv, _, hgc, hnc, hcm, hcs, htake⟩
  · cases h
  cases hv
  have hmul : j * size + size ≤ n * size := by rw [← Nat.succ_mul]; exact Nat.mul_le_mul_right _ hj
  have hmul2 : n * size ≤ c * size := Nat.mul_le_mul_right _ hnc
  have hst := run_storeCells_at P g (j * size) e vs 0 cur w hgc (by omega) h1
  simp only [Nat.add_zero, hl] at hst
  refine ⟨_, hst, ⟨?_, .inr ⟨g, c, _, rfl, Nat.zero_le _, setRow_heap w g cur _ e _ hgc, hnc, hcm, ?_, ?_⟩⟩, Fr.of_grown ⟨rfl, rfl, rfl, by simp, fun k _ hk => setRow_other w g k _ (fun e => hk (by simp [e]))⟩⟩
  · have := h.1
    simp only [List.length_append, List.length_take, List.length_drop]
    omega
  · simp only [List.size_toArray, List.length_append, List.length_take, List.length_drop, Array.length_toList]
    omega
  · have hlc : cur.toList.length = c * size := by simpa using hcs
    rw [← htake]
    simp only [List.take_take, Nat.min_eq_left (show j * size ≤ n * size by omega)]
    rw [List.take_append, List.take_of_length_le (by simp only [List.length_append, List.length_take]; omega), List.drop_take]
    congr 1
    simp only [List.length_append, List.length_take, hl]
    congr 1
    omega

/-- An element of a slice of the call's own is read. -/
theorem wpList_loadelem_st (i j : Nat) {e size n c g k m : Nat} {xs : List Value} (hS : St w0 F L w) (hi : L[i]? = some (Ch.row e size (.slice (some ⟨g, 0, none⟩) n c) m xs)) (hgd : o.guard = none) {t : TypeId} {x : Operand} (ho : o.op = .load t x) (hx : a.eval x = .pointer (some ⟨g, k, none⟩)) (hk : k = j * size)
    (hu : rowB P t = true) (hsz : sizeB P t size = true) {vs : List Value} (hv : (xs.drop (j * size)).take size = vs) (hl : vs.length = size) (h : wpList P ops Q rest (a.put o.dst (.agg vs.toArray)) w) : wpList P ops Q (o :: rest) a w := by
  refine wpList_plain hgd fun K hK => ?_
  subst hk
  subst hv
  have hsl := hS.rowsl i hi
  have hr := run_loadrow (w := w) hu hsz (g := g) (j := j * size) hl (fun q v hq => by
    rw [List.getElem?_take] at hq
    split at hq
    · rw [List.getElem?_drop] at hq
      have := hsl.add (j * size + q) v hq
      rw [Addr.add_lit, Nat.zero_add] at this
      exact this
    · cases hq)
  unfold Oper.wp execOp
  simp only [ho, hx, Sem.run_bind, hr, Result.andThen_ok, Sem.run_pure]
  exact hK _ _ h

/-- append in a region that draws its order. -/
theorem op_app_st (hw : Region.wanted o (yielded ops a.tmps) = true) (i : Nat) {e size n : Nat} {v : Value} {xs : List Value} (hS : St w0 F L w) (hi : L[i]? = some (Ch.row e size v n xs)) {s x : Operand} {t tx : TypeId} (ho : o.op = .call { callee := .builtin .append, args := #[s, x], argTypes := #[t, tx] })
    (ht : P.underlying t = some (.slice e)) {z : Value} {bytes : Nat} (he : Elem P e z size bytes) (hs : a.eval s = v)
    {xv : Value} {m : Nat} {news : List Value} (hx : Src P w tx xv size m news) (hxv : a.eval x = xv) (h1 : ∀ u ∈ news, u.oneCell' = true)
    (hb : (n + m) * bytes ≤ 140737488355328) (h63 : n + m ≤ maxLen)
    (h : ∀ v' w', St w0 F (L.set i (Ch.row e size v' (n + m) (xs ++ news))) w' → K (a.put o.dst v') w') : if Region.wanted o (yielded ops a.tmps) = true then Oper.wp P o a w K Q else K (a.put o.dst undef) w := by
  rw [if_pos hw]
  obtain ⟨v', w', hr, h2, h3, h4⟩ := run_app w t tx o.type e ht he (hS.get i hi) hx h1 hb h63 (Nat.zero_le _)
  unfold Oper.wp execOp
  simp only [ho, resolve, invoke, builtin, Sem.run_bind, Sem.run_pure, Result.andThen_ok, List.map_toArray, List.map_cons, List.map_nil, hs, hxv, hr]
  refine h v' w' (hS.upd i hi (Fr.of_row h3) (by intro g hg; exact hg) h2 ?_)
  intro g hg
  rcases h4 with h4 | h4
  · left; simpa [Ch.row, h4] using hg
  · right
    simp [Ch.row, h4] at hg
    omega

/-- An empty slice of the call's own. -/
theorem St.nilrow (hS : St w0 F L w) (e size : Nat) : St w0 F (Ch.row e size (.slice none 0 0) 0 [] :: L) w :=
  hS.push (Fr.refl _ _) (World.ownsRow_nil w 0 e size) (by simp [Ch.row, Value.ownBlock])

/-- What an own slice of at least one element is. -/
theorem St.rowat {e size n : Nat} {v : Value} {xs : List Value} (hS : St w0 F L w) (i : Nat) (hi : L[i]? = some (Ch.row e size v n xs)) (hn : 0 < n) : ∃ g c, v = .slice (some ⟨g, 0, none⟩) n c ∧ n ≤ c ∧ c ≤ maxLen := by
  rcases (hS.get i hi).2 with ⟨_, h⟩ | ⟨g, c, cur, rfl, _, _, h1, h2, _⟩
  · omega
  · exact ⟨g, c, rfl, h1, h2⟩
end

/-- What 'make' has laid: so many zero elements. -/
theorem made_rows (z : List Value) (n : Nat) (hz : 0 < z.length) : (madeCells z.toArray (n * z.length)).toList = (List.replicate n z).flatten := by
  have key : ∀ n i, i < n * z.length → ((List.replicate n z).flatten)[i]? = z[i % z.length]? := by
    intro n
    induction n with
    | zero => intro i hi; omega
    | succ n ih =>
      intro i hi
      rw [List.replicate_succ, List.flatten_cons]
      by_cases h : i < z.length
      · rw [List.getElem?_append_left h, Nat.mod_eq_of_lt h]
      · rw [List.getElem?_append_right (by omega), ih _ (by rw [Nat.succ_mul] at hi; omega), ← Nat.mod_eq_sub_mod (by omega)]
  have hl : ((List.replicate n z).flatten).length = n * z.length := by simp
  refine List.ext_getElem? fun i => ?_
  by_cases h : i < n * z.length
  · rw [key n i h]
    have hm : i % z.length < z.length := Nat.mod_lt _ hz
    simp [madeCells, h, hm]
  · rw [List.getElem?_eq_none (by simp [madeCells]; omega), List.getElem?_eq_none (by omega)]

end Go.Ofp
end

section
/- The frame of a call that writes to some pieces of own memory. -/
set_option linter.unusedSimpArgs false
set_option linter.unusedVariables false
namespace Go.Ofp
open Go.RowKit

/-- The blocks of some pieces. -/
def feet (A : List Ch) : List Nat := A.flatMap Ch.foot

theorem mem_feet {A : List Ch} {g : Nat} : g ∈ feet A ↔ ∃ (i : Nat) (c : Ch), A[i]? = some c ∧ g ∈ c.foot := by
  simp only [feet, List.mem_flatMap]
  constructor
  · rintro ⟨c, hc, hg⟩
    obtain ⟨i, hi, rfl⟩ := List.getElem_of_mem hc
    exact ⟨i, _, List.getElem?_eq_getElem hi, hg⟩
  · rintro ⟨i, c, hc, hg⟩
    exact ⟨c, List.mem_of_getElem? hc, hg⟩

namespace St
variable {w0 w w' : World} {F : List Nat} {L A A' R : List Ch}

/-- What a callee that is handed the pieces A begins with. -/
theorem pre (h : St w0 F L w) (A R : List Ch) (hL : L = A ++ R) : St w (feet A) A w := by
  subst hL
  refine ⟨Fr.refl _ _, fun i c hc => ⟨(h.own i c ?_).1, fun g hg => .inl (mem_feet.2 ⟨i, c, hc, hg⟩)⟩, fun i j c d hc hd hij => h.apart i j c d ?_ ?_ hij⟩
  all_goals
    rw [List.getElem?_append_left]
    · assumption
    · exact (List.getElem?_eq_some_iff.1 (by assumption)).1

/-- What is known behind it. -/
theorem call (h : St w0 F L w) (A R : List Ch) (hL : L = A ++ R) (k : St w (feet A) A' w') : St w0 F (A' ++ R) w' := by
  subst hL
  have hA : ∀ (i : Nat) (c : Ch), A[i]? = some c → (A ++ R)[i]? = some c := fun i c hc => by
    rw [List.getElem?_append_left (List.getElem?_eq_some_iff.1 hc).1]; exact hc
  have hR : ∀ (i : Nat) (c : Ch), R[i]? = some c → (A ++ R)[A.length + i]? = some c := fun i c hc => by
    rw [List.getElem?_append_right (by omega), Nat.add_sub_cancel_left]; exact hc
  have hF : ∀ g ∈ feet A, g ∈ F ∨ w0.heap.size ≤ g := fun g hg => by
    obtain ⟨i, c, hc, hg⟩ := mem_feet.1 hg
    exact (h.own i c (hA i c hc)).2 g hg
  -- a block of R is none of A's, and was there
  have hsep : ∀ (i : Nat) (c : Ch), R[i]? = some c → ∀ g ∈ c.foot, g ∉ feet A ∧ g < w.heap.size := fun i c hc g hg => by
    refine ⟨fun hgA => ?_, c.lt (h.own _ c (hR i c hc)).1 g hg⟩
    obtain ⟨j, d, hd, hgd⟩ := mem_feet.1 hgA
    have hj := (List.getElem?_eq_some_iff.1 hd).1
    exact h.apart j (A.length + i) d c (hA j d hd) (hR i c hc) (by omega) g hgd hg
  have hsplit : ∀ (i : Nat) (c : Ch), (A' ++ R)[i]? = some c → (i < A'.length ∧ A'[i]? = some c) ∨ (A'.length ≤ i ∧ R[i - A'.length]? = some c) := fun i c hc => by
    by_cases hi : i < A'.length
    · rw [List.getElem?_append_left hi] at hc; exact .inl ⟨hi, hc⟩
    · rw [List.getElem?_append_right (by omega)] at hc; exact .inr ⟨by omega, hc⟩
  refine ⟨h.fr.trans k.fr hF, fun i c hc => ?_, fun i j c d hc hd hij => ?_⟩
  · rcases hsplit i c hc with ⟨_, hc⟩ | ⟨_, hc⟩
    · obtain ⟨h1, h2⟩ := k.own i c hc
      refine ⟨h1, fun g hg => ?_⟩
      rcases h2 g hg with h3 | h3
      · exact hF g h3
      · exact .inr (Nat.le_trans h.fr.size h3)
    · obtain ⟨h1, h2⟩ := h.own _ c (hR _ c hc)
      exact ⟨c.keep h1 fun g hg => k.fr.block g (hsep _ c hc g hg).2 (hsep _ c hc g hg).1, h2⟩
  · rcases hsplit i c hc with ⟨hi, hc⟩ | ⟨hi, hc⟩ <;> rcases hsplit j d hd with ⟨hj, hd⟩ | ⟨hj, hd⟩
    · exact k.apart i j c d hc hd hij
    · intro g hg hg'
      obtain ⟨h1, h2⟩ := hsep _ d hd g hg'
      rcases (k.own i c hc).2 g hg with h3 | h3
      · exact h1 h3
      · omega
    · intro g hg hg'
      obtain ⟨h1, h2⟩ := hsep _ c hc g hg
      rcases (k.own j d hd).2 g hg' with h3 | h3
      · exact h1 h3
      · omega
    · exact h.apart (A.length + (i - A'.length)) (A.length + (j - A'.length)) c d (hR _ c hc) (hR _ d hd) (by omega)

/-- Pieces picked out, in another order. -/
theorem pick (h : St w0 F L w) (f : Nat → Nat) (hf : ∀ (i : Nat) (c : Ch), R[i]? = some c → L[f i]? = some c) (inj : ∀ i j, i < R.length → j < R.length → i ≠ j → f i ≠ f j) : St w0 F R w :=
  ⟨h.fr, fun i c hc => h.own (f i) c (hf i c hc), fun i j c d hc hd hij => h.apart (f i) (f j) c d (hf i c hc) (hf j d hd) (inj i j (List.getElem?_eq_some_iff.1 hc).1 (List.getElem?_eq_some_iff.1 hd).1 hij)⟩

/-- The first of three goes to the end. -/
theorem rot3 {a b c : Ch} (h : St w0 F (a :: b :: c :: L) w) : St w0 F (b :: c :: a :: L) w := by
  refine h.pick (fun i => if i = 0 then 1 else if i = 1 then 2 else if i = 2 then 0 else i) ?_ ?_
  · intro i d hd
    match i with
    | 0 => exact hd
    | 1 => exact hd
    | 2 => exact hd
    | i + 3 => simpa using hd
  · intro i j _ _ hij
    split <;> split <;> (repeat' split) <;> omega
end St
end Go.Ofp
end

section
/- The walks of disks: what lies in memory; ready, step. -/
set_option linter.unusedSimpArgs false
set_option linter.unusedVariables false
namespace Go.Proofs.Ytlhpibniecfofaa
open Go.RowKit Go.Ofp
set_option linter.unusedVariables false
set_option maxRecDepth 100000
set_option maxHeartbeats 4000000

def scRow (s : Sc) : List Value := s.b.map vb ++ [.bool s.bad]
def wtRow (w : Wt) : List Value := .int .i64 w.place :: (w.b.map vb ++ [.bool false])
/-- A disk in memory. -/
def dks (bd : Nat) (sv wv : Value) (d : Dk) : List Ch :=
  [Ch.blk bd 117 #[sv, wv, .int .i64 d.fuse, .bool d.dead], Ch.row 122 65 sv d.sec.length (d.sec.map scRow).flatten, Ch.row 125 66 wv d.wait.length (d.wait.map wtRow).flatten]

theorem ready_any (bd : Nat) (sv wv : Value) (d : Dk) (i : Int) (w : World) (h : St w (feet (dks bd sv wv d)) (dks bd sv wv d) w) :
    Calls Try.prog 71 #[.pointer (some ⟨bd, 0, none⟩), .int .i64 i] w fun e w' => e = .returned (.int .i64 (d.ready i)) ∧ w = w' := by
  obtain ⟨a, cap, rfl, -⟩ := h.row 1 rfl
  have c := h.cell 0 rfl
  unfold Dk.ready
  clear h
  generalize d.sec.length = n at c ⊢
  generalize d.dead = dead at c ⊢
  cases dead with
  | true =>
    go_enter Try.func71, Try.ntmps71
    go_wp2_with fail
    go_ret
    exact ⟨rfl, rfl⟩
  | false =>
    rw [if_neg (by simp)]
    by_cases h1 : i < 0
    · rw [if_pos (.inl h1)]
      go_enter Try.func71, Try.ntmps71
      go_wp2_with fail
      go_ret
      exact ⟨rfl, rfl⟩
    · by_cases h2 : (n : Int) ≤ i
      · rw [if_pos (.inr h2)]
        go_enter Try.func71, Try.ntmps71
        go_wp2_with fail
        go_ret
        exact ⟨rfl, rfl⟩
      · rw [if_neg (by omega)]
        go_enter Try.func71, Try.ntmps71
        go_wp2_with fail
        go_ret
        exact ⟨rfl, rfl⟩

theorem step_any (bd : Nat) (sv wv : Value) (d : Dk) (w : World) (h : St w (feet (dks bd sv wv d)) (dks bd sv wv d) w) (hf : -9223372036854775808 ≤ d.fuse ∧ d.fuse ≤ 9223372036854775807) :
    Calls Try.prog 72 #[.pointer (some ⟨bd, 0, none⟩)] w fun e w' => e = .returned (.bool (!d.step.dead)) ∧ St w (feet (dks bd sv wv d)) (dks bd sv wv d.step) w' := by
  generalize feet (dks bd sv wv d) = F at h ⊢
  have hS := h
  clear h
  unfold dks at hS ⊢
  rw [Dk.step_sec, Dk.step_wait]
  unfold Dk.step
  obtain ⟨sec, wait, fuse, dead⟩ := d
  simp only at hS hf ⊢
  generalize (List.map scRow sec).flatten = R1 at hS ⊢
  generalize (List.map wtRow wait).flatten = R2 at hS ⊢
  by_cases h0 : fuse = 0
  · subst h0
    go_enter Try.func72, Try.ntmps72
    go_wp2_with (first | (with_reducible refine wpList_box_st hS rfl rfl rfl ?_; intro g1 w1 hS1; clear hS; replace hS := hS1; clear hS1) | (with_reducible refine wpList_box1_st hS rfl rfl rfl ?_; intro g1 w1 hS1; clear hS; replace hS := hS1; clear hS1) | (with_reducible refine wpList_alloc_st hS rfl rfl (by assumption) ?_; intro g1 w1 hS1; clear hS; replace hS := hS1; clear hS1) | (with_reducible refine wpList_alloc1_st hS rfl rfl (by assumption) rfl ?_; intro g1 w1 hS1; clear hS; replace hS := hS1; clear hS1) | ((with_reducible refine wpList_load_st 0 hS rfl rfl rfl rfl ?_ rfl ?_); focus (simp [scalarB, go_sem]; done)) | ((with_reducible refine wpList_loadall_st 0 hS rfl rfl rfl rfl ?_ (by kernel_rfl) ?_); focus (simp [rowB, go_sem]; done)) | ((with_reducible refine wpList_store_st 0 hS rfl rfl rfl rfl (by kernel_rfl) rfl rfl ?_); intro w1 hS1; clear hS; replace hS := hS1; clear hS1; try simp only [List.set_cons_zero, List.set_cons_succ, List.setIfInBounds_toArray, List.take_succ_cons, List.take_zero, List.drop_succ_cons, List.drop_zero, List.nil_append, List.cons_append, List.append_nil, List.drop_nil, List.take_nil, List.length_cons, List.length_nil, Nat.zero_add, Nat.add_zero, Nat.reduceAdd] at hS) | ((with_reducible refine wpList_storerow_st 0 hS rfl rfl rfl rfl (by kernel_rfl) rfl rfl rfl rfl ?_); intro w1 hS1; clear hS; replace hS := hS1; clear hS1; try simp only [List.set_cons_zero, List.set_cons_succ, List.setIfInBounds_toArray, List.take_succ_cons, List.take_zero, List.drop_succ_cons, List.drop_zero, List.nil_append, List.cons_append, List.append_nil, List.drop_nil, List.take_nil, List.length_cons, List.length_nil, Nat.zero_add, Nat.add_zero, Nat.reduceAdd] at hS))
    go_ret
    exact ⟨rfl, hS⟩
  · rw [if_neg h0]
    have b0 : (fuse == 0) = false := by rw [beq_eq_false_iff_ne]; exact h0
    by_cases h1 : 0 < fuse
    · rw [if_pos h1]
      have hw : IntKind.i64.wrap (fuse - 1) = fuse - 1 := IntWalk.i64_in _ (by omega)
      clear h0
      go_enter Try.func72, Try.ntmps72
      go_wp2_with (first | (with_reducible refine wpList_box_st hS rfl rfl rfl ?_; intro g1 w1 hS1; clear hS; replace hS := hS1; clear hS1) | (with_reducible refine wpList_box1_st hS rfl rfl rfl ?_; intro g1 w1 hS1; clear hS; replace hS := hS1; clear hS1) | (with_reducible refine wpList_alloc_st hS rfl rfl (by assumption) ?_; intro g1 w1 hS1; clear hS; replace hS := hS1; clear hS1) | (with_reducible refine wpList_alloc1_st hS rfl rfl (by assumption) rfl ?_; intro g1 w1 hS1; clear hS; replace hS := hS1; clear hS1) | ((with_reducible refine wpList_load_st 0 hS rfl rfl rfl rfl ?_ rfl ?_); focus (simp [scalarB, go_sem]; done)) | ((with_reducible refine wpList_loadall_st 0 hS rfl rfl rfl rfl ?_ (by kernel_rfl) ?_); focus (simp [rowB, go_sem]; done)) | ((with_reducible refine wpList_store_st 0 hS rfl rfl rfl rfl (by kernel_rfl) rfl rfl ?_); intro w1 hS1; clear hS; replace hS := hS1; clear hS1; try simp only [List.set_cons_zero, List.set_cons_succ, List.setIfInBounds_toArray, List.take_succ_cons, List.take_zero, List.drop_succ_cons, List.drop_zero, List.nil_append, List.cons_append, List.append_nil, List.drop_nil, List.take_nil, List.length_cons, List.length_nil, Nat.zero_add, Nat.add_zero, Nat.reduceAdd] at hS) | ((with_reducible refine wpList_storerow_st 0 hS rfl rfl rfl rfl (by kernel_rfl) rfl rfl rfl rfl ?_); intro w1 hS1; clear hS; replace hS := hS1; clear hS1; try simp only [List.set_cons_zero, List.set_cons_succ, List.setIfInBounds_toArray, List.take_succ_cons, List.take_zero, List.drop_succ_cons, List.drop_zero, List.nil_append, List.cons_append, List.append_nil, List.drop_nil, List.take_nil, List.length_cons, List.length_nil, Nat.zero_add, Nat.add_zero, Nat.reduceAdd] at hS))
      go_ret
      exact ⟨rfl, hS⟩
    · rw [if_neg h1]
      clear h0
      have h2 : fuse ≤ 0 := by omega
      clear h1
      go_enter Try.func72, Try.ntmps72
      go_wp2_with (first | (with_reducible refine wpList_box_st hS rfl rfl rfl ?_; intro g1 w1 hS1; clear hS; replace hS := hS1; clear hS1) | (with_reducible refine wpList_box1_st hS rfl rfl rfl ?_; intro g1 w1 hS1; clear hS; replace hS := hS1; clear hS1) | (with_reducible refine wpList_alloc_st hS rfl rfl (by assumption) ?_; intro g1 w1 hS1; clear hS; replace hS := hS1; clear hS1) | (with_reducible refine wpList_alloc1_st hS rfl rfl (by assumption) rfl ?_; intro g1 w1 hS1; clear hS; replace hS := hS1; clear hS1) | ((with_reducible refine wpList_load_st 0 hS rfl rfl rfl rfl ?_ rfl ?_); focus (simp [scalarB, go_sem]; done)) | ((with_reducible refine wpList_loadall_st 0 hS rfl rfl rfl rfl ?_ (by kernel_rfl) ?_); focus (simp [rowB, go_sem]; done)) | ((with_reducible refine wpList_store_st 0 hS rfl rfl rfl rfl (by kernel_rfl) rfl rfl ?_); intro w1 hS1; clear hS; replace hS := hS1; clear hS1; try simp only [List.set_cons_zero, List.set_cons_succ, List.setIfInBounds_toArray, List.take_succ_cons, List.take_zero, List.drop_succ_cons, List.drop_zero, List.nil_append, List.cons_append, List.append_nil, List.drop_nil, List.take_nil, List.length_cons, List.length_nil, Nat.zero_add, Nat.add_zero, Nat.reduceAdd] at hS) | ((with_reducible refine wpList_storerow_st 0 hS rfl rfl rfl rfl (by kernel_rfl) rfl rfl rfl rfl ?_); intro w1 hS1; clear hS; replace hS := hS1; clear hS1; try simp only [List.set_cons_zero, List.set_cons_succ, List.setIfInBounds_toArray, List.take_succ_cons, List.take_zero, List.drop_succ_cons, List.drop_zero, List.nil_append, List.cons_append, List.append_nil, List.drop_nil, List.take_nil, List.length_cons, List.length_nil, Nat.zero_add, Nat.add_zero, Nat.reduceAdd] at hS))
      go_ret
      exact ⟨rfl, hS⟩

end Go.Proofs.Ytlhpibniecfofaa
end

section
/- The walks of disks: made, asked, fused. -/
set_option linter.unusedSimpArgs false
set_option linter.unusedVariables false
namespace Go.Proofs.Ytlhpibniecfofaa
open Go.RowKit Go.Ofp
set_option linter.unusedVariables false
set_option maxRecDepth 100000
set_option maxHeartbeats 4000000

def scZero : List Value := List.replicate 64 (Value.int .u8 0) ++ [.bool false]
theorem elem_sc : Elem Try.prog 122 (.agg scZero.toArray) 65 65 := Elem.mk (by kernel_rfl) (by rfl) (by decide)
theorem elem_wt : Elem Try.prog 125 (.agg (Value.int .i64 0 :: scZero).toArray) 66 80 := Elem.mk (by kernel_rfl) (by rfl) (by decide)

theorem scRow_zero : scRow ⟨List.replicate 64 0, false⟩ = scZero := by simp [scRow, scZero, vb]
theorem scRow_length (s : Sc) (h : s.b.length = 64) : (scRow s).length = 65 := by simp [scRow, h]
theorem wtRow_length (s : Wt) (h : s.b.length = 64) : (wtRow s).length = 66 := by simp [wtRow, h]

theorem new_any (n : Nat) (w : World) (h1 : 1 ≤ n) (h2 : n ≤ 2048) : Calls Try.prog 11 #[.int .i64 n] w fun e w' => ∃ bd sv wv, e = .returned (.pointer (some ⟨bd, 0, none⟩)) ∧ St w [] (dks bd sv wv (Dk.new n)) w' := by
  have hS := St.start w
  go_enter Try.func11, Try.ntmps11
  go_wp2_with (first
    | (with_reducible refine wpList_box_st hS rfl rfl rfl ?_; intro g1 w1 hS1; clear hS; replace hS := hS1; clear hS1) | (with_reducible refine wpList_box1_st hS rfl rfl rfl ?_; intro g1 w1 hS1; clear hS; replace hS := hS1; clear hS1) | (with_reducible refine wpList_alloc_st hS rfl rfl (by assumption) ?_; intro g1 w1 hS1; clear hS; replace hS := hS1; clear hS1) | (with_reducible refine wpList_alloc1_st hS rfl rfl (by assumption) rfl ?_; intro g1 w1 hS1; clear hS; replace hS := hS1; clear hS1)
    | (at_make; refine wpList_mkfull_st hS rfl rfl Try.underlying114 elem_sc rfl rfl n rfl rfl (by omega) (by unfold maxLen; omega) ?_; intro g2 w3 hS1; clear hS; have hS := hS1; clear hS1))
  go_ret
  refine ⟨g1, .slice (some ⟨g2, 0, none⟩) n n, .slice none 0 0, rfl, ?_⟩
  have hk := ((hS.nilrow 125 66).rot3)
  have e : (madeCells (Value.agg scZero.toArray).cells (n * 65)).toList = ((Dk.new n).sec.map scRow).flatten := by
    have := made_rows scZero n (by decide)
    rw [show (Dk.new n).sec.map scRow = List.replicate n scZero by simp only [Dk.new, List.map_replicate, scRow_zero]]
    exact this
  rw [e] at hk
  unfold dks
  rw [show (Dk.new n).sec.length = n by simp [Dk.new]]
  exact hk

theorem size_any (bd : Nat) (sv wv : Value) (d : Dk) (w : World) (h : St w (feet (dks bd sv wv d)) (dks bd sv wv d) w) :
    Calls Try.prog 23 #[.pointer (some ⟨bd, 0, none⟩)] w fun e w' => e = .returned (.int .i64 d.sec.length) ∧ w = w' := by
  obtain ⟨a, cap, rfl, -⟩ := h.row 1 rfl
  have c := h.cell 0 rfl
  clear h
  go_enter Try.func23, Try.ntmps23
  go_wp2_with fail
  go_ret
  exact ⟨rfl, rfl⟩

theorem dead_any (bd : Nat) (sv wv : Value) (d : Dk) (w : World) (h : St w (feet (dks bd sv wv d)) (dks bd sv wv d) w) :
    Calls Try.prog 24 #[.pointer (some ⟨bd, 0, none⟩)] w fun e w' => e = .returned (.bool d.dead) ∧ w = w' := by
  have c := h.cell 0 rfl
  clear h
  go_enter Try.func24, Try.ntmps24
  go_wp2_with fail
  go_ret
  exact ⟨rfl, rfl⟩

theorem fuse_any (bd : Nat) (sv wv : Value) (d : Dk) (n : Int) (w : World) (h : St w (feet (dks bd sv wv d)) (dks bd sv wv d) w) :
    Calls Try.prog 20 #[.pointer (some ⟨bd, 0, none⟩), .int .i64 n] w fun e w' => e = .returned (.tuple #[]) ∧ St w (feet (dks bd sv wv d)) (dks bd sv wv { d with fuse := n }) w' := by
  generalize feet (dks bd sv wv d) = F at h ⊢
  have hS := h
  clear h
  unfold dks at hS ⊢
  obtain ⟨sec, wait, fuse, dead⟩ := d
  simp only at hS ⊢
  go_enter Try.func20, Try.ntmps20
  go_wp2_with (first | (with_reducible refine wpList_box_st hS rfl rfl rfl ?_; intro g1 w1 hS1; clear hS; replace hS := hS1; clear hS1) | (with_reducible refine wpList_box1_st hS rfl rfl rfl ?_; intro g1 w1 hS1; clear hS; replace hS := hS1; clear hS1) | (with_reducible refine wpList_alloc_st hS rfl rfl (by assumption) ?_; intro g1 w1 hS1; clear hS; replace hS := hS1; clear hS1) | (with_reducible refine wpList_alloc1_st hS rfl rfl (by assumption) rfl ?_; intro g1 w1 hS1; clear hS; replace hS := hS1; clear hS1) | ((with_reducible refine wpList_load_st 0 hS rfl rfl rfl rfl ?_ rfl ?_); focus (simp [scalarB, go_sem]; done)) | ((with_reducible refine wpList_loadall_st 0 hS rfl rfl rfl rfl ?_ (by kernel_rfl) ?_); focus (simp [rowB, go_sem]; done)) | ((with_reducible refine wpList_store_st 0 hS rfl rfl rfl rfl (by kernel_rfl) rfl rfl ?_); intro w1 hS1; clear hS; replace hS := hS1; clear hS1; try simp only [List.set_cons_zero, List.set_cons_succ, List.setIfInBounds_toArray, List.take_succ_cons, List.take_zero, List.drop_succ_cons, List.drop_zero, List.nil_append, List.cons_append, List.append_nil, List.drop_nil, List.take_nil, List.length_cons, List.length_nil, Nat.zero_add, Nat.add_zero, Nat.reduceAdd] at hS) | ((with_reducible refine wpList_storerow_st 0 hS rfl rfl rfl rfl (by kernel_rfl) rfl rfl rfl rfl ?_); intro w1 hS1; clear hS; replace hS := hS1; clear hS1; try simp only [List.set_cons_zero, List.set_cons_succ, List.setIfInBounds_toArray, List.take_succ_cons, List.take_zero, List.drop_succ_cons, List.drop_zero, List.nil_append, List.cons_append, List.append_nil, List.drop_nil, List.take_nil, List.length_cons, List.length_nil, Nat.zero_add, Nat.add_zero, Nat.reduceAdd] at hS))
  exact bodyPost_end (results_none rfl _ _ _) rfl ⟨rfl, hS⟩

end Go.Proofs.Ytlhpibniecfofaa
end

section
/- Laws on elements that are handed on folded: a slice of one element built, a text copied into a block. -/
set_option linter.unusedSimpArgs false
set_option linter.unusedVariables false
namespace Go.Ofp
open Go.RowKit

theorem foldl_set (l : List Value) (k : Nat) (A : List Value) (B : List Value) (hB : B.length = l.length) (hk : A.length = k) :
    (l.zipIdx k).foldl (fun (cs : Array Value) (x : Value × Nat) => cs.setIfInBounds (0 + x.2) x.1) (A ++ B).toArray = (A ++ l).toArray := by
  induction l generalizing k A B with
  | nil => simp at hB; subst hB; simp
  | cons v l ih =>
    cases B with
    | nil => simp at hB
    | cons u B =>
      rw [List.zipIdx_cons, List.foldl_cons]
      have e : (A ++ u :: B).toArray.setIfInBounds (0 + k) v = ((A ++ [v]) ++ B).toArray := by
        simp only [Nat.zero_add, List.setIfInBounds_toArray]
        rw [← hk, List.set_append_right _ _ (Nat.le_refl _), Nat.sub_self, List.set_cons_zero]
        simp
      rw [e, ih (k + 1) (A ++ [v]) B (by simpa using hB) (by simp [hk])]
      simp

section
variable {P : Program} {w : World}
/-- A slice of one element. -/
theorem run_build1 (w : World) (t e : TypeId) (ht : P.underlying t = some (.slice e)) {z : Value} {size bytes : Nat} (he : Elem P e z size bytes) {v : Value} (hv : v.cells.size = size) (hs : size ≤ 16777216) :
    (Instr.buildSlice t 1 #[(0, v)]).run P w = .ok (.slice (some ⟨w.heap.size, 0, none⟩) 1 1) (w.alloc (.cells v.cells e)) := by
  obtain ⟨i, hi, hz, hsz, hby, hzs, hpos⟩ := he
  have h0 : ¬ (16777216 < i.size) := by omega
  have h1 : ¬ (i.size = 0) := by omega
  have hf : Instr.fill (fun j => some (j * i.size, i.size)) ((Array.range (1 * i.size)).map (z.cells[· % z.cells.size]!)) [(0, v)] = some v.cells := by
    have hsz2 : v.cells.size = i.size := by omega
    simp only [Instr.fill, Nat.zero_mul, Nat.zero_add, Array.size_map, Array.size_range, Nat.one_mul, hsz2]
    rw [if_neg (by simp)]
    have := foldl_set v.cells.toList 0 [] ((Array.range i.size).map (z.cells[· % z.cells.size]!)).toList (by simp [hsz2]) rfl
    simp only [List.nil_append, Array.toArray_toList] at this
    refine congrArg some ?_
    rw [← Array.foldl_toList]
    simpa using this
  rw [Nat.one_mul] at hf
  simp [Instr.buildSlice, run_underlying ht, sizeOf, typeInfo, zeroValue, hi, hz, h0, h1]
  rw [hf]
  rfl

/-- A text copied into a place of a block that is known whole. -/
theorem run_copy_text (w : World) (t tx ty e : TypeId) (ht : P.underlying t = some (.slice e)) {z : Value} {bytes : Nat} (he : Elem P e z 1 bytes) (htx : P.underlying tx = some .string)
    {g off n c : Nat} {T : TypeId} {cs : Array Value} (hw : Whole w g T cs) (s : ByteArray) (hs : s.size ≤ n) (hfit : off + s.size ≤ cs.size) :
    ∃ w', (Builtin.copy_ #[t, tx] ty #[.slice (some ⟨g, off, none⟩) n c, .string s]).run P w = .ok (.int .i64 s.size) w' ∧ Whole w' g T (cs.toList.take off ++ s.data.toList.map vb ++ cs.toList.drop (off + s.size)).toArray ∧ Fr [g] w w' := by
  obtain ⟨i, hi, hz, h1, rfl, hzs, hpos⟩ := he
  have hx := Src.string (P := P) w htx s
  have hcells := hx.cells w (fun _ => rfl)
  have hl : (s.data.toList.map vb).length = s.size := by simp
  obtain ⟨k1, k2, k3⟩ := Whole.setCells (P := P) hw (s.data.toList.map vb) (by rw [hl]; omega) (vb_one _)
  rw [hl] at k1 k2 k3
  have hm : s.size.min n = s.size := Nat.min_eq_left hs
  refine ⟨_, ?_, k2, k3⟩
  simp [Builtin.copy_, run_underlying ht, sizeOf, typeInfo, hi, h1, hx.len, hcells, k1, goInt, hm]

variable {w0 : World} {F : List Nat} {L : List Ch} {ops : Array Oper} {rest : List Oper} {o : Oper} {a : Act} {Q : Exit → Act → World → Prop} {K : Act → World → Prop}

theorem wpList_copytext_st (i : Nat) {g off n c T : Nat} {cs : Array Value} (hS : St w0 F L w) (hi : L[i]? = some (Ch.blk g T cs)) (hgd : o.guard = none) {s x : Operand} {t tx : TypeId} (ho : o.op = .call { callee := .builtin .copy, args := #[s, x], argTypes := #[t, tx] })
    {e : TypeId} (ht : P.underlying t = some (.slice e)) {z : Value} {bytes : Nat} (he : Elem P e z 1 bytes) (htx : P.underlying tx = some .string) (hs : a.eval s = .slice (some ⟨g, off, none⟩) n c) {b : ByteArray} (hx : a.eval x = .string b) (hb : b.size ≤ n) (hfit : off + b.size ≤ cs.size)
    (h : ∀ w', St w0 F (L.set i (Ch.blk g T (cs.toList.take off ++ b.data.toList.map vb ++ cs.toList.drop (off + b.size)).toArray)) w' → wpList P ops Q rest (a.put o.dst (.int .i64 b.size)) w') : wpList P ops Q (o :: rest) a w := by
  refine wpList_plain hgd fun K hK => ?_
  obtain ⟨w', hr, h2, h3⟩ := run_copy_text (c := c) w t tx o.type e ht he htx (hS.get i hi) b hb hfit
  unfold Oper.wp execOp
  simp only [ho, resolve, invoke, builtin, Sem.run_bind, Sem.run_pure, Result.andThen_ok, List.map_toArray, List.map_cons, List.map_nil, hs, hx, hr]
  exact hK _ _ (h w' (hS.upd i hi h3 (by simp [Ch.blk]) h2 (by simp [Ch.blk])))

/-- A slice of one element, built. -/
theorem op_build1_st (hw : Region.wanted o (yielded ops a.tmps) = true) (hS : St w0 F L w) {t : TypeId} {x : Operand} (ho : o.op = .buildSlice t 1 #[(0, x)]) {e : TypeId} (ht : P.underlying t = some (.slice e)) {z : Value} {size bytes : Nat} (he : Elem P e z size bytes)
    {cs : Array Value} (hx : a.eval x = .agg cs) (hv : cs.size = size) (hs : size ≤ 16777216)
    (h : ∀ g w', St w0 F (Ch.blk g e cs :: L) w' → K (a.put o.dst (.slice (some ⟨g, 0, none⟩) 1 1)) w') : if Region.wanted o (yielded ops a.tmps) = true then Oper.wp P o a w K Q else K (a.put o.dst undef) w := by
  rw [if_pos hw]
  have hr := run_build1 w t e ht he (v := .agg cs) hv hs
  unfold Oper.wp execOp
  simp only [ho, List.map_toArray, List.map_cons, List.map_nil, hx, Sem.run_bind, hr, Result.andThen_ok, Sem.run_pure]
  exact h _ _ (hS.alloc cs e)

theorem St.blksl {g t : Nat} {cs : Array Value} (h : St w0 F L w) (i : Nat) (hi : L[i]? = some (Ch.blk g t cs)) : Sl w (some ⟨g, 0, none⟩) cs.toList := by
  intro j hj
  refine ⟨g, 0, rfl, ?_⟩
  rw [h.cell i hi, Nat.zero_add]
  simp

/-- One field of a struct, built. -/
theorem wpList_build1 (hgd : o.guard = none) {t k : Nat} {x : Operand} (ho : o.op = .build t #[(k, x)]) (v : Value) (hx : a.eval x = v) {u : Value} (hr : ∀ w : World, (Instr.build t #[(k, v)]).run P w = .ok u w)
    (h : wpList P ops Q rest (a.put o.dst u) w) : wpList P ops Q (o :: rest) a w := by
  refine wpList_plain hgd fun K hK => ?_
  unfold Oper.wp execOp
  simp only [ho, List.map_toArray, List.map_cons, List.map_nil, hx, Sem.run_bind, hr, Result.andThen_ok, Sem.run_pure]
  exact hK _ _ h

/-- A region in which own memory is read and written: no piece belongs to the class. -/
theorem mixs_beginE {id : Nat} {l : List Oper} (hm : P.follows .mixedOrders = true) (hS : St w0 F L w)
    (h : ∀ w', St w0 F L w' → St w0 F [] w' → wpAnyH P .any l.toArray Q (fun w' => St w0 F [] w') l.length (Array.replicate l.length false) a w') : (Code.region id l.toArray true).wp P Q a w := by
  refine wp_region_held (S := fun w' => St w0 F [] w') hm ?_
  simpa using h w.drew hS.drew hS.drew.empty

end
end Go.Ofp
end
