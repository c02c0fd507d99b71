import Derived.Test.YtkbekagmfbgefaaM1
set_option linter.unusedVariables false
set_option linter.unusedSimpArgs false
set_option maxRecDepth 100000
section
namespace Go.Ofp
open Go.RowKit
structure Fr (F : List Nat) (w w' : World) : Prop where
  os : w'.os = w.os
  tape : w'.tape = w.tape
  output : w'.output = w.output
  size : w.heap.size ≤ w'.heap.size
  block : ∀ k, k < w.heap.size → k ∉ F → w'.heap[k]? = w.heap[k]?
namespace Fr
theorem refl (F : List Nat) (w : World) : Fr F w w := ⟨rfl, rfl, rfl, Nat.le_refl _, fun _ _ _ => rfl⟩
theorem mono {F G : List Nat} {w w' : World} (h : Fr F w w') (hs : ∀ g ∈ F, g ∈ G) : Fr G w w' := ⟨h.os, h.tape, h.output, h.size, fun k hk hn => h.block k hk fun hg => hn (hs k hg)⟩
theorem trans {F G : List Nat} {a b c : World} (h : Fr F a b) (k : Fr G b c) (hs : ∀ g ∈ G, g ∈ F ∨ a.heap.size ≤ g) : Fr F a c :=
  ⟨k.os.trans h.os, k.tape.trans h.tape, k.output.trans h.output, Nat.le_trans h.size k.size, fun i hi hn =>
    (k.block i (Nat.lt_of_lt_of_le hi h.size) fun hg => (hs i hg).elim hn fun h2 => by omega).trans (h.block i hi hn)⟩
theorem of_below {w w' : World} (h : Below w.heap.size w w') : Fr [] w w' := ⟨h.os, h.tape, h.output, h.size, fun k hk _ => h.block k hk⟩
theorem below {w w' : World} (h : Fr [] w w') : Below w.heap.size w w' := ⟨h.os, h.tape, h.output, h.size, fun k hk => h.block k hk (by simp)⟩
theorem of_grown {w w' : World} {g : Nat} (h : w.grownBy w' (some g)) : Fr [g] w w' := ⟨h.os, h.tape, h.output, h.size, fun k hk hn => h.block k hk (by simpa using hn)⟩
theorem of_row {w w' : World} {r : Option Nat} (h : w.grownBy w' r) : Fr r.toList w w' := ⟨h.os, h.tape, h.output, h.size, fun k hk hn => h.block k hk (by cases r <;> simp_all)⟩
theorem grown {w w' : World} {g : Nat} (h : Fr [g] w w') : w.grownBy w' (some g) := ⟨h.os, h.tape, h.output, h.size, fun k hk hn => h.block k hk (by simpa using hn)⟩
theorem drew (w : World) : Fr [] w w.drew := ⟨rfl, rfl, rfl, Nat.le_refl _, fun _ _ _ => rfl⟩
theorem alloc (w : World) (o : Obj) : Fr [] w (w.alloc o) := of_below ((Below.refl _ _).alloc (Nat.le_refl _) _)
theorem set (w : World) (g i : Nat) (u : Value) : Fr [g] w (w.setCell ⟨g, i, none⟩ u) := of_grown (grown_set w g i u)
theorem same {w w' : World} (h : w = w') : Fr [] w w' := h ▸ refl _ _
theorem cell {F : List Nat} {w w' : World} (h : Fr F w w') {p : Addr} {v : Value} (hc : w.cell? p = some v) (hp : p.block ∉ F) : w'.cell? p = some v := by
  rw [World.cell?_of_block (h.block p.block (World.block_lt_of_cell? w p hc) hp)]; exact hc
end Fr
structure Ch where
  foot : List Nat
  holds : World → Prop
  lt : ∀ {w}, holds w → ∀ g ∈ foot, g < w.heap.size
  keep : ∀ {w w'}, holds w → (∀ g ∈ foot, w'.heap[g]? = w.heap[g]?) → holds w'
def Ch.blk (g : Nat) (t : TypeId) (cs : Array Value) : Ch where
  foot := [g]
  holds w := Whole w g t cs
  lt h x hx := by simp at hx; subst hx; exact h.lt
  keep h k := (k g (by simp)).trans h
theorem ownsRow_zero {w : World} {base e size n : Nat} {v : Value} {xs : List Value} (h : w.ownsRow base e size v n xs) : w.ownsRow 0 e size v n xs := by
  refine ⟨h.1, h.2.imp id ?_⟩
  rintro ⟨g, cap, cur, h1, _, h2⟩
  exact ⟨g, cap, cur, h1, Nat.zero_le _, h2⟩
theorem ownsRow_foot {w : World} {base e size n : Nat} {v : Value} {xs : List Value} (h : w.ownsRow base e size v n xs) : ∀ g ∈ v.ownBlock.toList, base ≤ g := by
  rcases h.2 with ⟨rfl, _⟩ | ⟨g, cap, cur, rfl, hb, _⟩
  · simp [Value.ownBlock]
  · simpa [Value.ownBlock] using hb
def Ch.row (e : TypeId) (size : Nat) (v : Value) (n : Nat) (xs : List Value) : Ch where
  foot := v.ownBlock.toList
  holds w := w.ownsRow 0 e size v n xs
  lt {w} h g hg := by
    rcases h.2 with ⟨rfl, _⟩ | ⟨g', cap, cur, rfl, _, hh, _⟩
    · simp [Value.ownBlock] at hg
    · simp [Value.ownBlock] at hg
      subst hg
      exact (Array.getElem?_eq_some_iff.1 hh).1
  keep {w w'} h k := by
    refine ⟨h.1, h.2.imp id ?_⟩
    rintro ⟨g, cap, cur, rfl, h0, hh, h2⟩
    exact ⟨g, cap, cur, rfl, h0, (k g (by simp [Value.ownBlock])).trans hh, h2⟩
structure St (w0 : World) (F : List Nat) (L : List Ch) (w : World) : Prop where
  fr : Fr F w0 w
  own : ∀ (i : Nat) (c : Ch), L[i]? = some c → c.holds w ∧ ∀ g ∈ c.foot, g ∈ F ∨ w0.heap.size ≤ g
  apart : ∀ (i j : Nat) (c d : Ch), L[i]? = some c → L[j]? = some d → i ≠ j → ∀ g ∈ c.foot, g ∉ d.foot
namespace St
variable {w0 w w1 : World} {F G : List Nat} {L : List Ch} {c d : Ch}
theorem start (w : World) : St w [] [] w := ⟨Fr.refl _ _, by simp, by simp⟩
theorem get (h : St w0 F L w) (i : Nat) (hi : L[i]? = some c) : c.holds w := (h.own i c hi).1
theorem lt (h : St w0 F L w) (i : Nat) (hi : L[i]? = some c) : ∀ g ∈ c.foot, g < w.heap.size := c.lt (h.get i hi)
theorem upd (h : St w0 F L w) (i : Nat) (hi : L[i]? = some c) (hf : Fr G w w1) (hG : ∀ g ∈ G, g ∈ c.foot) (hd : d.holds w1) (hfoot : ∀ g ∈ d.foot, g ∈ c.foot ∨ w.heap.size ≤ g) : St w0 F (L.set i d) w1 := by
  have hc := h.own i c hi
  have hlt : i < L.length := (List.getElem?_eq_some_iff.1 hi).1
  refine ⟨h.fr.trans hf fun g hg => hc.2 g (hG g hg), fun j e he => ?_, fun j k e e' he he' hjk => ?_⟩
  · rw [List.getElem?_set] at he
    split at he
    · cases he
      refine ⟨hd, fun g hg => ?_⟩
      rcases hfoot g hg with h1 | h1
      · exact hc.2 g h1
      · exact .inr (Nat.le_trans h.fr.size h1)
    · rename_i hij
      obtain ⟨h1, h2⟩ := h.own j e he
      refine ⟨e.keep h1 fun g hg => hf.block g (e.lt h1 g hg) fun hgG => ?_, h2⟩
      exact h.apart j i e c he hi (Ne.symm hij) g hg (hG g hgG)
  · rw [List.getElem?_set] at he he'
    split at he
    · rename_i hij
      cases he
      rw [if_neg (by omega)] at he'
      intro g hg hg'
      rcases hfoot g hg with h1 | h1
      · exact h.apart i k c e' hi he' (by omega) g h1 hg'
      · have := e'.lt (h.own k e' he').1 g hg'
        omega
    · split at he'
      · rename_i hik
        cases he'
        intro g hg hg'
        rcases hfoot g hg' with h1 | h1
        · exact h.apart i j c e hi he (by omega) g h1 hg
        · have := e.lt (h.own j e he).1 g hg
          omega
      · exact h.apart j k e e' he he' hjk
theorem keep (h : St w0 F L w) (hf : Fr [] w w1) : St w0 F L w1 :=
  ⟨h.fr.trans hf (by simp), fun j e he => ⟨e.keep (h.own j e he).1 fun g hg => hf.block g (e.lt (h.own j e he).1 g hg) (by simp), (h.own j e he).2⟩, h.apart⟩
theorem push (h : St w0 F L w) (hf : Fr [] w w1) (hd : d.holds w1) (hfoot : ∀ g ∈ d.foot, w.heap.size ≤ g) : St w0 F (d :: L) w1 := by
  have hk := h.keep hf
  refine ⟨hk.fr, fun j e he => ?_, fun j k e e' he he' hjk => ?_⟩
  · cases j with
    | zero => simp at he; subst he; exact ⟨hd, fun g hg => .inr (Nat.le_trans h.fr.size (hfoot g hg))⟩
    | succ j => exact hk.own j e (by simpa using he)
  · cases j with
    | zero =>
      cases k with
      | zero => exact absurd rfl hjk
      | succ k =>
        simp at he he'
        subst he
        intro g hg hg'
        have := e'.lt (h.own k e' he').1 g hg'
        have := hfoot g hg
        omega
    | succ j =>
      cases k with
      | zero =>
        simp at he he'
        subst he'
        intro g hg hg'
        have := e.lt (h.own j e he).1 g hg
        have := hfoot g hg'
        omega
      | succ k => exact h.apart j k e e' (by simpa using he) (by simpa using he') (by omega)
theorem drop (h : St w0 F (d :: L) w) : St w0 F L w :=
  ⟨h.fr, fun i c hi => h.own (i + 1) c (by simpa using hi), fun i j c d hi hj hij => h.apart (i + 1) (j + 1) c d (by simpa using hi) (by simpa using hj) (by omega)⟩
theorem drop1 (h : St w0 F (c :: d :: L) w) : St w0 F (c :: L) w := by
  refine ⟨h.fr, fun i e hi => ?_, fun i j e e' hi hj hij => ?_⟩
  · cases i with
    | zero => exact h.own 0 e (by simpa using hi)
    | succ i => exact h.own (i + 2) e (by simpa using hi)
  · cases i with
    | zero => cases j with
      | zero => exact absurd rfl hij
      | succ j => exact h.apart 0 (j + 2) e e' (by simpa using hi) (by simpa using hj) (by omega)
    | succ i => cases j with
      | zero => exact h.apart (i + 2) 0 e e' (by simpa using hi) (by simpa using hj) (by omega)
      | succ j => exact h.apart (i + 2) (j + 2) e e' (by simpa using hi) (by simpa using hj) (by omega)
theorem empty (h : St w0 F L w) : St w0 F [] w := ⟨h.fr, by simp, by simp⟩
theorem swap (h : St w0 F (c :: d :: L) w) : St w0 F (d :: c :: L) w := by
  have key : ∀ i, (d :: c :: L)[i]? = (c :: d :: L)[if i = 0 then 1 else if i = 1 then 0 else i]? := by
    intro i
    match i with
    | 0 => rfl
    | 1 => rfl
    | i + 2 => simp
  refine ⟨h.fr, fun i e hi => h.own _ e (by rw [← key]; exact hi), fun i j e e' hi hj hij => h.apart _ _ e e' (by rw [← key]; exact hi) (by rw [← key]; exact hj) ?_⟩
  split <;> split <;> (repeat' split) <;> omega
theorem below (h : St w0 [] L w) : Below w0.heap.size w0 w := h.fr.below
/-! What is read. -/
theorem cell {g t : Nat} {cs : Array Value} (h : St w0 F L w) (i : Nat) (hi : L[i]? = some (Ch.blk g t cs)) (j : Nat) : w.cell? ⟨g, j, none⟩ = cs[j]? := Whole.cell (h.get i hi) j
theorem frozen {g t : Nat} {cs : Array Value} (h : St w0 F L w) (i : Nat) (hi : L[i]? = some (Ch.blk g t cs)) (j : Nat) : w.frozen? ⟨g, j, none⟩ = false := Whole.frozen (h.get i hi) j
theorem old (h : St w0 F L w) {p : Addr} {v : Value} (hc : w0.cell? p = some v) (hp : p.block ∉ F) : w.cell? p = some v := h.fr.cell hc hp
theorem sl (h : St w0 [] L w) {a : Option Addr} {xs : List Value} (hs : Sl w0 a xs) : Sl w a xs := hs.below h.below
theorem row {e size n : Nat} {v : Value} {xs : List Value} (h : St w0 F L w) (i : Nat) (hi : L[i]? = some (Ch.row e size v n xs)) : ∃ a cap, v = .slice a n cap ∧ Sl w a xs ∧ xs.length = n * size ∧ n ≤ cap ∧ cap ≤ maxLen := owns_sl (h.get i hi)
theorem rowsl {e size n c m : Nat} {a : Option Addr} {xs : List Value} (h : St w0 F L w) (i : Nat) (hi : L[i]? = some (Ch.row e size (.slice a n c) m xs)) : Sl w a xs := by
  obtain ⟨a', c', e', hs, -⟩ := h.row i hi
  cases e'
  exact hs
/-! What is done. -/
theorem drew (h : St w0 F L w) : St w0 F L w.drew := h.keep (Fr.drew _)
theorem alloc (h : St w0 F L w) (cs : Array Value) (t : TypeId) : St w0 F (Ch.blk w.heap.size t cs :: L) (w.alloc (.cells cs t)) :=
  h.push (Fr.alloc _ _) (Whole.new w t cs) (by simp [Ch.blk])
theorem new (h : St w0 F L w) (cs : Array Value) (t : TypeId) : ∃ g w1, w.heap.size = g ∧ w.alloc (.cells cs t) = w1 ∧ St w0 F (Ch.blk g t cs :: L) w1 := ⟨_, _, rfl, rfl, h.alloc cs t⟩
theorem set {g t : Nat} {cs : Array Value} (h : St w0 F L w) (i : Nat) (hi : L[i]? = some (Ch.blk g t cs)) (j : Nat) (u : Value) : St w0 F (L.set i (Ch.blk g t (cs.setIfInBounds j u))) (w.setCell ⟨g, j, none⟩ u) :=
  h.upd i hi (Fr.set w g j u) (by simp [Ch.blk]) (Whole.set (h.get i hi) j u) (by simp [Ch.blk])
theorem fresh {e size n : Nat} {v : Value} {xs : List Value} (h : St w0 F L w) (hf : Fr [] w w1) (ho : w1.ownsRow w.heap.size e size v n xs) : St w0 F (Ch.row e size v n xs :: L) w1 :=
  h.push hf (ownsRow_zero ho) (ownsRow_foot ho)
theorem keepB (h : St w0 F L w) (hb : Below w.heap.size w w1) : St w0 F L w1 := h.keep (Fr.of_below hb)
end St
/-! ### The walk's laws in a region that keeps its order -/
section
variable {P : Program} {w0 w : World} {F : List Nat} {L : List Ch} {ops : Array Oper} {rest : List Oper} {o : Oper} {a : Act} {Q : Exit → Act → World → Prop}
theorem wpList_app_st (i : Nat) {e size n : Nat} {v : Value} {xs : List Value} (hS : St w0 F L w) (hi : L[i]? = some (Ch.row e size v n xs)) (hgd : o.guard = none) {s x : Operand} {t tx : TypeId} (ho : o.op = .call { callee := .builtin .append, args := #[s, x], argTypes := #[t, tx] })
    (ht : P.underlying t = some (.slice e)) {z : Value} {bytes : Nat} (he : Elem P e z size bytes) (hs : a.eval s = v)
    {xv : Value} {m : Nat} {news : List Value} (hx : Src P w tx xv size m news) (hxv : a.eval x = xv) (h1 : ∀ u ∈ news, u.oneCell' = true)
    (hb : (n + m) * bytes ≤ 140737488355328) (h63 : n + m ≤ maxLen)
    (h : ∀ v' w', St w0 F (L.set i (Ch.row e size v' (n + m) (xs ++ news))) w' → wpList P ops Q rest (a.put o.dst v') w') : wpList P ops Q (o :: rest) a w := by
  refine wpList_app hgd ho ht he (hS.get i hi) hs hx hxv h1 hb h63 (Nat.zero_le _) fun v' w' h2 _ h3 h4 => h v' w' ?_
  refine hS.upd i hi (Fr.of_row h3) (by intro g hg; exact hg) h2 ?_
  intro g hg
  rcases h4 with h4 | h4
  · left; simpa [Ch.row, h4] using hg
  · right
    simp [Ch.row, h4] at hg
    omega
end
/-! ### Regions that draw their order -/
def Cl (w0 : World) (F : List Nat) (L : List Ch) : Type := { x : World // St w0 F L x }
section
variable {w0 w : World} {F : List Nat} {L : List Ch}
theorem St.kblk {g t : Nat} {cs : Array Value} (_ : St w0 F L w) (i : Nat) (hi : L[i]? = some (Ch.blk g t cs)) : ∀ (s : Cl w0 F L) (j : Nat), s.1.cell? ⟨g, j, none⟩ = cs[j]? := fun s j => s.2.cell i hi j
theorem St.kold0 (_ : St w0 [] L w) {p : Addr} {v : Value} (hc : w0.cell? p = some v) : ∀ s : Cl w0 [] L, s.1.cell? p = some v := fun s => s.2.old hc (by simp)
variable {P : Program} {Q : Exit → Act → World → Prop}
theorem mixs_begin {id : Nat} {l : List Oper} {a : Act} (hm : P.follows .mixedOrders = true) (hS : St w0 F L w)
    (h : ∀ w', St w0 F L w' → wpAnyH P .any l.toArray Q (fun w' => St w0 F L w') l.length (Array.replicate l.length false) a w') : (Code.region id l.toArray true).wp P Q a w := by
  refine wp_region_held (S := fun w' => St w0 F L w') hm ?_
  simpa using h w.drew hS.drew
variable {ops : Array Oper} {fuel : Nat} {listed : Array Bool} {a : Act} {oi : Oper}
theorem mixs_take (i : Nat) {v : Value} (hi : ops[i]? = some oi) (hok : (Region.noSelect ops && (Region.free .any ops listed i && (Region.ready .any ops listed).contains i)) = true)
    (hQ : ∀ c a w, Q (.panic c) (a.put oi.dst v) w → Q (.panic c) a w) (hw : Region.wanted oi (yielded ops a.tmps) = true) (hS : St w0 F L w)
    (hy : ∀ s : Cl w0 F L, (execOp a.eval oi).run P s.1 = .ok (.value v) s.1)
    (h : wpAnyH P .any ops Q (fun w' => St w0 F L w') fuel (listed.setIfInBounds i true) (a.put oi.dst v) w) :
    wpAnyH P .any ops Q (fun w' => St w0 F L w') (fuel + 1) listed a w := by
  simp only [Bool.and_eq_true] at hok
  exact wpAnyH_take hi hok.1 hok.2.1 hok.2.2 hQ (Or.inl ⟨hw, fun w' h' => hy ⟨w', h'⟩⟩) hS h
theorem mixs_skip (i : Nat) (hi : ops[i]? = some oi) (hok : (Region.noSelect ops && (Region.free .any ops listed i && (Region.ready .any ops listed).contains i)) = true)
    (hQ : ∀ c a w, Q (.panic c) (a.put oi.dst undef) w → Q (.panic c) a w) (hw : Region.wanted oi (yielded ops a.tmps) = false) (hS : St w0 F L w)
    (h : wpAnyH P .any ops Q (fun w' => St w0 F L w') fuel (listed.setIfInBounds i true) (a.put oi.dst undef) w) :
    wpAnyH P .any ops Q (fun w' => St w0 F L w') (fuel + 1) listed a w := by
  simp only [Bool.and_eq_true] at hok
  exact wpAnyH_take hi hok.1 hok.2.1 hok.2.2 hQ (Or.inr ⟨hw, rfl⟩) hS h
theorem mixs_one (i : Nat) {o : Oper} (hr : Region.ready .any ops listed = [i]) (ho : ops[i]? = some o)
    (h : ∀ K' : Act → World → Prop, Shut (∀ (L' : List Ch) a w1, (∀ x, St w0 F L' x → St w0 F L x) → St w0 F L' w1 → (St w0 F L' w1 → wpAnyH P .any ops Q (fun w' => St w0 F L' w') fuel (listed.setIfInBounds i true) a w1) → K' a w1) →
      if Region.wanted o (yielded ops a.tmps) = true then Oper.wp P o a w K' Q else K' (a.put o.dst undef) w) :
    wpAnyH P .any ops Q (fun w' => St w0 F L w') (fuel + 1) listed a w := by
  refine wpAnyH_ready hr (by simp) (AllReadyH.cons ho (fun K hK => h K ?_) AllReadyH.nil)
  intro L' a1 w1 hL hb hc
  exact hK.out a1 w1 (hL _ hb) fun _ => wpAnyH_mono (fun _ h => hL _ h) _ _ _ _ (hc hb)
end
end Go.Ofp
end
section
namespace Go.Ofp
open Go.RowKit
def scalarB (P : Program) (t : TypeId) : Bool := match P.underlying t with
  | none | some (.struct _) | some (.array ..) => false
  | _ => true
def rowB (P : Program) (t : TypeId) : Bool := match P.underlying t with
  | some (.struct _) | some (.array ..) => true
  | _ => false
def sizeB (P : Program) (t : TypeId) (n : Nat) : Bool := (P.info? t).map (·.size) == some n
section
variable {P : Program} {w : World}
theorem run_load1 {t : TypeId} (hu : scalarB P t = true) {p : Addr} {v : Value} (hc : w.cell? p = some v) : (Instr.loadAt t (.pointer (some p))).run P w = .ok v w := by
  unfold scalarB at hu
  cases hq : P.underlying t with
  | none => rw [hq] at hu; cases hu
  | some d =>
    rw [hq] at hu
    have hagg : (isAgg t).run P w = .ok false w := by
      unfold isAgg
      rw [Sem.run_bind, run_underlying hq w]
      cases d <;> simp_all
    simp [Instr.loadAt, Instr.sureAddr, loadVar, hagg, hc, go_sem]
theorem run_store1 {t : TypeId} (hu : sizeB P t 1 = true) {p : Addr} {v u : Value} (hv : v.oneCell' = true) (hc : w.cell? p = some u) (hf : w.frozen? p = false) : (Instr.storeAt t (.pointer (some p)) v).run P w = .ok () (w.setCell p v) := by
  have hs : (P.info? t).map (·.size) = some 1 := by simpa [sizeB] using hu
  have hcs : v.cells = #[v] := by cases v <;> simp_all [Value.cells, Value.oneCell']
  have hp : p.spot = none := World.cell?_spot hc
  have ha : p.add 0 = p := by obtain ⟨b, o, s⟩ := p; subst hp; rw [Addr.add_lit]; simp
  obtain ⟨i, hi, hi1⟩ := Option.map_eq_some_iff.1 hs
  have hst : (store p v).run P w = .ok () (w.setCell p v) := by
    cases v <;> simp_all [Value.oneCell', store, Sem.run]
  simp [Instr.storeAt, Instr.sureAddr, storeVar, sizeOf, typeInfo, hi, hi1, hcs, storeCells, ha, hst]
variable {w0 : World} {F : List Nat} {L : List Ch} {ops : Array Oper} {rest : List Oper} {o : Oper} {a : Act} {Q : Exit → Act → World → Prop}
@[reducible] def Value.scal : Value → Option Value
  | .int k z => some (.int k z)
  | .bool b => some (.bool b)
  | .string s => some (.string s)
  | .slice a n c => some (.slice a n c)
  | .pointer p => some (.pointer p)
  | _ => none
theorem Value.scal_spec {v u : Value} (h : Value.scal v = some u) : v = u ∧ v.cells = #[u] ∧ u.oneCell' = true := by
  cases v <;> simp [Value.scal] at h <;> subst h <;> exact ⟨rfl, rfl, rfl⟩
theorem wpList_boxv_st (hS : St w0 F L w) (hgd : o.guard = none) {t : TypeId} {x : Operand} (ho : o.op = .box t x) {v : Value} (hx : a.eval x = v)
    (h : ∀ g w', St w0 F (Ch.blk g t v.cells :: L) w' → wpList P ops Q rest (a.put o.dst (.pointer (some ⟨g, 0, none⟩))) w') : wpList P ops Q (o :: rest) a w := by
  refine wpList_plain hgd fun K hK => ?_
  unfold Oper.wp execOp
  simp only [ho, hx, Instr.box, newVar, newRow, newObj, Sem.run_bind, Sem.run_pure]
  exact hK _ _ (h _ _ (hS.alloc v.cells t))
theorem wpList_box_st (hS : St w0 F L w) (hgd : o.guard = none) {t : TypeId} {x : Operand} (ho : o.op = .box t x) {cs : Array Value} (hx : a.eval x = .agg cs)
    (h : ∀ g w', St w0 F (Ch.blk g t cs :: L) w' → wpList P ops Q rest (a.put o.dst (.pointer (some ⟨g, 0, none⟩))) w') : wpList P ops Q (o :: rest) a w :=
  wpList_boxv_st hS hgd ho hx h
theorem wpList_box1_st (hS : St w0 F L w) (hgd : o.guard = none) {t : TypeId} {x : Operand} (ho : o.op = .box t x) {v : Value} (hx : Value.scal (a.eval x) = some v)
    (h : ∀ g w', St w0 F (Ch.blk g t #[v] :: L) w' → wpList P ops Q rest (a.put o.dst (.pointer (some ⟨g, 0, none⟩))) w') : wpList P ops Q (o :: rest) a w :=
  wpList_boxv_st hS hgd ho rfl (by rw [(Value.scal_spec hx).2.1]; exact h)
theorem wpList_allocv_st (hS : St w0 F L w) (hgd : o.guard = none) {t : TypeId} (ho : o.op = .alloc t) {z : Value} {size bytes : Nat} (he : Elem P t z size bytes)
    (h : ∀ g w', St w0 F (Ch.blk g t z.cells :: L) w' → wpList P ops Q rest (a.put o.dst (.pointer (some ⟨g, 0, none⟩))) w') : wpList P ops Q (o :: rest) a w := by
  refine wpList_plain hgd fun K hK => ?_
  obtain ⟨i, hi, hz', -⟩ := he
  have hr : (Instr.alloc t true (.tuple #[])).run P w = .ok (.pointer (some ⟨w.heap.size, 0, none⟩)) (w.alloc (.cells z.cells t)) := by
    simp [Instr.alloc, zeroValue, typeInfo, hi, hz', go_sem]
  unfold Oper.wp execOp
  simp only [ho, Sem.run_bind, hr, Result.andThen_ok, Sem.run_pure]
  exact hK _ _ (h _ _ (hS.alloc z.cells t))
theorem wpList_alloc_st (hS : St w0 F L w) (hgd : o.guard = none) {t : TypeId} (ho : o.op = .alloc t) {cs : Array Value} {size bytes : Nat} (he : Elem P t (.agg cs) size bytes)
    (h : ∀ g w', St w0 F (Ch.blk g t cs :: L) w' → wpList P ops Q rest (a.put o.dst (.pointer (some ⟨g, 0, none⟩))) w') : wpList P ops Q (o :: rest) a w := wpList_allocv_st hS hgd ho he h
theorem wpList_alloc1_st (hS : St w0 F L w) (hgd : o.guard = none) {t : TypeId} (ho : o.op = .alloc t) {z v : Value} {size bytes : Nat} (he : Elem P t z size bytes) (hz : Value.scal z = some v)
    (h : ∀ g w', St w0 F (Ch.blk g t #[v] :: L) w' → wpList P ops Q rest (a.put o.dst (.pointer (some ⟨g, 0, none⟩))) w') : wpList P ops Q (o :: rest) a w :=
  wpList_allocv_st hS hgd ho he (by rw [(Value.scal_spec hz).2.1]; exact h)
theorem wpList_load_st (i : Nat) {g j T : Nat} {cs : Array Value} (hS : St w0 F L w) (hi : L[i]? = some (Ch.blk g T cs)) (hgd : o.guard = none) {t : TypeId} {x : Operand} (ho : o.op = .load t x) (hx : a.eval x = .pointer (some ⟨g, j, none⟩))
    (hu : scalarB P t = true) {v : Value} (hv : cs[j]? = some v) (h : wpList P ops Q rest (a.put o.dst v) w) : wpList P ops Q (o :: rest) a w := by
  refine wpList_plain hgd fun K hK => ?_
  have hr := run_load1 hu ((hS.cell i hi j).trans hv)
  unfold Oper.wp execOp
  simp only [ho, hx, Sem.run_bind, hr, Result.andThen_ok, Sem.run_pure]
  exact hK _ _ h
theorem rowB_spec {t : TypeId} {n : Nat} (h : rowB P t = true) (hn : sizeB P t n = true) : ∃ d, P.underlying t = some d ∧ d.isRow = true ∧ (P.info? t).map (·.size) = some n := by
  unfold rowB at h
  have hs : (P.info? t).map (·.size) = some n := by simpa [sizeB] using hn
  cases hq : P.underlying t with
  | none => rw [hq] at h; cases h
  | some d => rw [hq] at h; exact ⟨d, rfl, by cases d <;> simp_all, hs⟩
theorem run_loadrow {t : TypeId} {n : Nat} (hu : rowB P t = true) (hsz : sizeB P t n = true) {g j : Nat} {vs : List Value} (hl : vs.length = n) (hc : w.rangeAt g j vs) : (Instr.loadAt t (.pointer (some ⟨g, j, none⟩))).run P w = .ok (.agg vs.toArray) w := by
  obtain ⟨d, h1, h2, h3⟩ := rowB_spec hu hsz
  exact run_loadAt_mid w g j t vs d hc h1 h2 (by rw [h3, hl])
theorem Whole.range {g T : Nat} {cs : Array Value} (h : Whole w g T cs) (j : Nat) {vs : List Value} (hv : ∀ k v, vs[k]? = some v → cs[j + k]? = some v) : w.rangeAt g j vs := fun k v hk => by
  rw [h.cell]; exact hv k v hk
theorem range_extract (cs : Array Value) (j n : Nat) : ∀ k v, (cs.toList.drop j |>.take n)[k]? = some v → cs[j + k]? = some v := by
  intro k v h
  rw [List.getElem?_take] at h
  split at h
  · rw [List.getElem?_drop] at h; simpa using h
  · cases h
theorem wpList_loadrow_st (i : Nat) {g j T n : Nat} {cs : Array Value} {vs : List Value} (hS : St w0 F L w) (hi : L[i]? = some (Ch.blk g T cs)) (hgd : o.guard = none) {t : TypeId} {x : Operand} (ho : o.op = .load t x) (hx : a.eval x = .pointer (some ⟨g, j, none⟩))
    (hu : rowB P t = true) (hsz : sizeB P t n = true) (hv : (cs.toList.drop j).take n = vs) (hl : vs.length = n) (h : wpList P ops Q rest (a.put o.dst (.agg vs.toArray)) w) : wpList P ops Q (o :: rest) a w := by
  refine wpList_plain hgd fun K hK => ?_
  subst hv
  have hr := run_loadrow hu hsz hl (Whole.range (hS.get i hi) j (range_extract cs j n))
  unfold Oper.wp execOp
  simp only [ho, hx, Sem.run_bind, hr, Result.andThen_ok, Sem.run_pure]
  exact hK _ _ h
theorem wpList_loadall_st (i : Nat) {g T : Nat} {cs : Array Value} (hS : St w0 F L w) (hi : L[i]? = some (Ch.blk g T cs)) (hgd : o.guard = none) {t : TypeId} {x : Operand} (ho : o.op = .load t x) (hx : a.eval x = .pointer (some ⟨g, 0, none⟩))
    (hu : rowB P t = true) (hsz : sizeB P t cs.size = true) (h : wpList P ops Q rest (a.put o.dst (.agg cs)) w) : wpList P ops Q (o :: rest) a w := by
  refine wpList_loadrow_st (vs := cs.toList) i hS hi hgd ho hx hu hsz (by simp; exact List.take_of_length_le (by simp)) (by simp) ?_
  simpa using h
theorem wpList_store_st (i : Nat) {g j T : Nat} {cs : Array Value} (hS : St w0 F L w) (hi : L[i]? = some (Ch.blk g T cs)) (hgd : o.guard = none) {t : TypeId} {x y : Operand} (ho : o.op = .store t x y) (hx : a.eval x = .pointer (some ⟨g, j, none⟩))
    (hu : sizeB P t 1 = true) {v : Value} (hy : Value.scal (a.eval y) = some v) (hj : Nat.ble (j + 1) cs.size = true) (h : ∀ w', St w0 F (L.set i (Ch.blk g T (cs.setIfInBounds j v))) w' → wpList P ops Q rest (a.put o.dst undef) w') : wpList P ops Q (o :: rest) a w := by
  refine wpList_plain hgd fun K hK => ?_
  replace hj : j < cs.size := Nat.le_of_ble_eq_true hj
  obtain ⟨hy, -, hv⟩ := Value.scal_spec hy
  have hr := run_store1 (P := P) hu hv ((hS.cell i hi j).trans (Array.getElem?_eq_getElem hj)) (hS.frozen i hi j)
  unfold Oper.wp execOp
  simp only [ho, hx, hy, Sem.run_bind, hr, Result.andThen_ok, Sem.run_pure]
  exact hK _ _ (h _ (hS.set i hi j v))
theorem Whole.setCells {T : TypeId} {g j : Nat} {cs : Array Value} (h : Whole w g T cs) (vs : List Value) (hfit : j + vs.length ≤ cs.size) (h1 : ∀ v ∈ vs, v.oneCell' = true) :
    (storeCells ⟨g, j, none⟩ vs 0).run P w = .ok () (w.setRow g (cs.toList.take j ++ vs ++ cs.toList.drop (j + vs.length)).toArray) ∧ Whole (w.setRow g (cs.toList.take j ++ vs ++ cs.toList.drop (j + vs.length)).toArray) g T (cs.toList.take j ++ vs ++ cs.toList.drop (j + vs.length)).toArray ∧ Fr [g] w (w.setRow g (cs.toList.take j ++ vs ++ cs.toList.drop (j + vs.length)).toArray) := by
  have hst := run_storeCells_at P g j T vs 0 cs w h (by omega) h1
  simp only [Nat.add_zero] at hst
  exact ⟨hst, setRow_heap w g cs _ T _ h, Fr.of_grown ⟨rfl, rfl, rfl, by simp, fun k _ hk => setRow_other w g k _ (fun e => hk (by simp [e]))⟩⟩
theorem wpList_storerow_st (i : Nat) {g j T n : Nat} {cs : Array Value} (hS : St w0 F L w) (hi : L[i]? = some (Ch.blk g T cs)) (hgd : o.guard = none) {t : TypeId} {x y : Operand} (ho : o.op = .store t x y) (hx : a.eval x = .pointer (some ⟨g, j, none⟩))
    (hsz : sizeB P t n = true) {vs : List Value} (hy : a.eval y = .agg vs.toArray) (hl : vs.length = n) (hv : vs.all Value.oneCell' = true) (hj : Nat.ble (j + n) cs.size = true)
    (h : ∀ w', St w0 F (L.set i (Ch.blk g T (cs.toList.take j ++ vs ++ cs.toList.drop (j + n)).toArray)) w' → wpList P ops Q rest (a.put o.dst undef) w') : wpList P ops Q (o :: rest) a w := by
  refine wpList_plain hgd fun K hK => ?_
  subst hl
  have h3 : (P.info? t).map (·.size) = some vs.length := by simpa [sizeB] using hsz
  obtain ⟨k1, k2, k3⟩ := Whole.setCells (P := P) (hS.get i hi) vs (Nat.le_of_ble_eq_true hj) (fun v hv' => List.all_eq_true.1 hv v hv')
  obtain ⟨ii, hii, hi1⟩ := Option.map_eq_some_iff.1 h3
  generalize w.setRow g (cs.toList.take j ++ vs ++ cs.toList.drop (j + vs.length)).toArray = W at k1 k2 k3
  have hr : (Instr.storeAt t (.pointer (some ⟨g, j, none⟩)) (.agg vs.toArray)).run P w = .ok () W := by
    simp [Instr.storeAt, Instr.sureAddr, storeVar, sizeOf, typeInfo, hii, hi1, Value.cells, k1]
  unfold Oper.wp execOp
  simp only [ho, hx, hy, Sem.run_bind, hr, Result.andThen_ok, Sem.run_pure]
  exact hK _ _ (h _ (hS.upd i hi k3 (by simp [Ch.blk]) k2 (by simp [Ch.blk])))
/-! In a region that draws its order: one operation that comes up. -/
variable {K : Act → World → Prop}
end
section
variable {P : Program} {Q : Exit → Act → World → Prop} {S : World → Prop} {ops : Array Oper} {fuel : Nat} {listed : Array Bool} {a : Act} {w : World}
end
end Go.Ofp
end
section
namespace Go.Ofp
open Go.RowKit
section
variable {P : Program} {w w0 : World} {F : List Nat} {L : List Ch} {ops : Array Oper} {rest : List Oper} {o : Oper} {a : Act} {Q : Exit → Act → World → Prop} {K : Act → World → Prop}
theorem ownsRow_set {e size n c g j : Nat} {xs vs : List Value} (h : w.ownsRow 0 e size (.slice (some ⟨g, 0, none⟩) n c) n xs) (hj : j < n) (hl : vs.length = size) (h1 : ∀ v ∈ vs, v.oneCell' = true) :
    ∃ w', (storeCells ⟨g, j * size, none⟩ vs 0).run P w = .ok () w' ∧ w'.ownsRow 0 e size (.slice (some ⟨g, 0, none⟩) n c) n (xs.take (j * size) ++ vs ++ xs.drop (j * size + size)) ∧ Fr [g] w w' := by
  rcases h.2 with ⟨h, _⟩ | ⟨g', cap, cur, hv, _, hgc, hnc, hcm, hcs, htake⟩
  · cases h
  cases hv
  have hmul : j * size + size ≤ n * size := by rw [← Nat.succ_mul]; exact Nat.mul_le_mul_right _ hj
  have hmul2 : n * size ≤ c * size := Nat.mul_le_mul_right _ hnc
  have hst := run_storeCells_at P g (j * size) e vs 0 cur w hgc (by omega) h1
  simp only [Nat.add_zero, hl] at hst
  refine ⟨_, hst, ⟨?_, .inr ⟨g, c, _, rfl, Nat.zero_le _, setRow_heap w g cur _ e _ hgc, hnc, hcm, ?_, ?_⟩⟩, Fr.of_grown ⟨rfl, rfl, rfl, by simp, fun k _ hk => setRow_other w g k _ (fun e => hk (by simp [e]))⟩⟩
  · have := h.1
    simp only [List.length_append, List.length_take, List.length_drop]
    omega
  · simp only [List.size_toArray, List.length_append, List.length_take, List.length_drop, Array.length_toList]
    omega
  · have hlc : cur.toList.length = c * size := by simpa using hcs
    rw [← htake]
    simp only [List.take_take, Nat.min_eq_left (show j * size ≤ n * size by omega)]
    rw [List.take_append, List.take_of_length_le (by simp only [List.length_append, List.length_take]; omega), List.drop_take]
    congr 1
    simp only [List.length_append, List.length_take, hl]
    congr 1
    omega
theorem wpList_storeelem_st (i j : Nat) {e size n c g k : Nat} {xs : List Value} (hS : St w0 F L w) (hi : L[i]? = some (Ch.row e size (.slice (some ⟨g, 0, none⟩) n c) n xs)) (hgd : o.guard = none) {t : TypeId} {x y : Operand} (ho : o.op = .store t x y) (hx : a.eval x = .pointer (some ⟨g, k, none⟩)) (hk : k = j * size)
    (hsz : sizeB P t size = true) {vs : List Value} (hy : a.eval y = .agg vs.toArray) (hl : vs.length = size) (hv : vs.all Value.oneCell' = true) (hj : j < n)
    (h : ∀ w', St w0 F (L.set i (Ch.row e size (.slice (some ⟨g, 0, none⟩) n c) n (xs.take (j * size) ++ vs ++ xs.drop (j * size + size)))) w' → wpList P ops Q rest (a.put o.dst undef) w') : wpList P ops Q (o :: rest) a w := by
  refine wpList_plain hgd fun K hK => ?_
  subst hk
  have h3 : (P.info? t).map (·.size) = some size := by simpa [sizeB] using hsz
  obtain ⟨ii, hii, hi1⟩ := Option.map_eq_some_iff.1 h3
  obtain ⟨w', k1, k2, k3⟩ := ownsRow_set (P := P) (hS.get i hi) hj hl (fun v hv' => List.all_eq_true.1 hv v hv')
  have hr : (Instr.storeAt t (.pointer (some ⟨g, j * size, none⟩)) (.agg vs.toArray)).run P w = .ok () w' := by
    simp [Instr.storeAt, Instr.sureAddr, storeVar, sizeOf, typeInfo, hii, hi1, Value.cells, hl, k1]
  unfold Oper.wp execOp
  simp only [ho, hx, hy, Sem.run_bind, hr, Result.andThen_ok, Sem.run_pure]
  refine hK _ _ (h _ (hS.upd i hi k3 (by simp [Ch.row, Value.ownBlock]) k2 (by simp [Ch.row, Value.ownBlock])))
theorem op_app_st (hw : Region.wanted o (yielded ops a.tmps) = true) (i : Nat) {e size n : Nat} {v : Value} {xs : List Value} (hS : St w0 F L w) (hi : L[i]? = some (Ch.row e size v n xs)) {s x : Operand} {t tx : TypeId} (ho : o.op = .call { callee := .builtin .append, args := #[s, x], argTypes := #[t, tx] })
    (ht : P.underlying t = some (.slice e)) {z : Value} {bytes : Nat} (he : Elem P e z size bytes) (hs : a.eval s = v)
    {xv : Value} {m : Nat} {news : List Value} (hx : Src P w tx xv size m news) (hxv : a.eval x = xv) (h1 : ∀ u ∈ news, u.oneCell' = true)
    (hb : (n + m) * bytes ≤ 140737488355328) (h63 : n + m ≤ maxLen)
    (h : ∀ v' w', St w0 F (L.set i (Ch.row e size v' (n + m) (xs ++ news))) w' → K (a.put o.dst v') w') : if Region.wanted o (yielded ops a.tmps) = true then Oper.wp P o a w K Q else K (a.put o.dst undef) w := by
  rw [if_pos hw]
  obtain ⟨v', w', hr, h2, h3, h4⟩ := run_app w t tx o.type e ht he (hS.get i hi) hx h1 hb h63 (Nat.zero_le _)
  unfold Oper.wp execOp
  simp only [ho, resolve, invoke, builtin, Sem.run_bind, Sem.run_pure, Result.andThen_ok, List.map_toArray, List.map_cons, List.map_nil, hs, hxv, hr]
  refine h v' w' (hS.upd i hi (Fr.of_row h3) (by intro g hg; exact hg) h2 ?_)
  intro g hg
  rcases h4 with h4 | h4
  · left; simpa [Ch.row, h4] using hg
  · right
    simp [Ch.row, h4] at hg
    omega
theorem St.nilrow (hS : St w0 F L w) (e size : Nat) : St w0 F (Ch.row e size (.slice none 0 0) 0 [] :: L) w :=
  hS.push (Fr.refl _ _) (World.ownsRow_nil w 0 e size) (by simp [Ch.row, Value.ownBlock])
theorem St.rowat {e size n : Nat} {v : Value} {xs : List Value} (hS : St w0 F L w) (i : Nat) (hi : L[i]? = some (Ch.row e size v n xs)) (hn : 0 < n) : ∃ g c, v = .slice (some ⟨g, 0, none⟩) n c ∧ n ≤ c ∧ c ≤ maxLen := by
  rcases (hS.get i hi).2 with ⟨_, h⟩ | ⟨g, c, cur, rfl, _, _, h1, h2, _⟩
  · omega
  · exact ⟨g, c, rfl, h1, h2⟩
end
end Go.Ofp
end
section
namespace Go.Ofp
open Go.RowKit
def feet (A : List Ch) : List Nat := A.flatMap Ch.foot
theorem mem_feet {A : List Ch} {g : Nat} : g ∈ feet A ↔ ∃ (i : Nat) (c : Ch), A[i]? = some c ∧ g ∈ c.foot := by
  simp only [feet, List.mem_flatMap]
  constructor
  · rintro ⟨c, hc, hg⟩
    obtain ⟨i, hi, rfl⟩ := List.getElem_of_mem hc
    exact ⟨i, _, List.getElem?_eq_getElem hi, hg⟩
  · rintro ⟨i, c, hc, hg⟩
    exact ⟨c, List.mem_of_getElem? hc, hg⟩
namespace St
variable {w0 w w' : World} {F : List Nat} {L A A' R : List Ch}
theorem pre (h : St w0 F L w) (A R : List Ch) (hL : L = A ++ R) : St w (feet A) A w := by
  subst hL
  refine ⟨Fr.refl _ _, fun i c hc => ⟨(h.own i c ?_).1, fun g hg => .inl (mem_feet.2 ⟨i, c, hc, hg⟩)⟩, fun i j c d hc hd hij => h.apart i j c d ?_ ?_ hij⟩
  all_goals
    rw [List.getElem?_append_left]
    · assumption
    · exact (List.getElem?_eq_some_iff.1 (by assumption)).1
theorem call (h : St w0 F L w) (A R : List Ch) (hL : L = A ++ R) (k : St w (feet A) A' w') : St w0 F (A' ++ R) w' := by
  subst hL
  have hA : ∀ (i : Nat) (c : Ch), A[i]? = some c → (A ++ R)[i]? = some c := fun i c hc => by
    rw [List.getElem?_append_left (List.getElem?_eq_some_iff.1 hc).1]; exact hc
  have hR : ∀ (i : Nat) (c : Ch), R[i]? = some c → (A ++ R)[A.length + i]? = some c := fun i c hc => by
    rw [List.getElem?_append_right (by omega), Nat.add_sub_cancel_left]; exact hc
  have hF : ∀ g ∈ feet A, g ∈ F ∨ w0.heap.size ≤ g := fun g hg => by
    obtain ⟨i, c, hc, hg⟩ := mem_feet.1 hg
    exact (h.own i c (hA i c hc)).2 g hg
  -- a block of R is none of A's, and was there
  have hsep : ∀ (i : Nat) (c : Ch), R[i]? = some c → ∀ g ∈ c.foot, g ∉ feet A ∧ g < w.heap.size := fun i c hc g hg => by
    refine ⟨fun hgA => ?_, c.lt (h.own _ c (hR i c hc)).1 g hg⟩
    obtain ⟨j, d, hd, hgd⟩ := mem_feet.1 hgA
    have hj := (List.getElem?_eq_some_iff.1 hd).1
    exact h.apart j (A.length + i) d c (hA j d hd) (hR i c hc) (by omega) g hgd hg
  have hsplit : ∀ (i : Nat) (c : Ch), (A' ++ R)[i]? = some c → (i < A'.length ∧ A'[i]? = some c) ∨ (A'.length ≤ i ∧ R[i - A'.length]? = some c) := fun i c hc => by
    by_cases hi : i < A'.length
    · rw [List.getElem?_append_left hi] at hc; exact .inl ⟨hi, hc⟩
    · rw [List.getElem?_append_right (by omega)] at hc; exact .inr ⟨by omega, hc⟩
  refine ⟨h.fr.trans k.fr hF, fun i c hc => ?_, fun i j c d hc hd hij => ?_⟩
  · rcases hsplit i c hc with ⟨_, hc⟩ | ⟨_, hc⟩
    · obtain ⟨h1, h2⟩ := k.own i c hc
      refine ⟨h1, fun g hg => ?_⟩
      rcases h2 g hg with h3 | h3
      · exact hF g h3
      · exact .inr (Nat.le_trans h.fr.size h3)
    · obtain ⟨h1, h2⟩ := h.own _ c (hR _ c hc)
      exact ⟨c.keep h1 fun g hg => k.fr.block g (hsep _ c hc g hg).2 (hsep _ c hc g hg).1, h2⟩
  · rcases hsplit i c hc with ⟨hi, hc⟩ | ⟨hi, hc⟩ <;> rcases hsplit j d hd with ⟨hj, hd⟩ | ⟨hj, hd⟩
    · exact k.apart i j c d hc hd hij
    · intro g hg hg'
      obtain ⟨h1, h2⟩ := hsep _ d hd g hg'
      rcases (k.own i c hc).2 g hg with h3 | h3
      · exact h1 h3
      · omega
    · intro g hg hg'
      obtain ⟨h1, h2⟩ := hsep _ c hc g hg
      rcases (k.own j d hd).2 g hg' with h3 | h3
      · exact h1 h3
      · omega
    · exact h.apart (A.length + (i - A'.length)) (A.length + (j - A'.length)) c d (hR _ c hc) (hR _ d hd) (by omega)
end St
end Go.Ofp
end
