/- Texts laid together: Disk8 Disk9 St8 Cut St9. -/
import Derived.Test.YtlhpibniecfofaaM4
section
/- The walk of Crash. -/
set_option linter.unusedSimpArgs false
set_option linter.unusedVariables false
namespace Go.Proofs.Ytlhpibniecfofaa
open Go.RowKit Go.Ofp
set_option linter.unusedVariables false
set_option maxRecDepth 100000
set_option maxHeartbeats 4000000

def vi (x : Int) : Value := .int .i64 x
end Go.Proofs.Ytlhpibniecfofaa
end

section
/- Disks: the chapter's example, walked. -/
set_option linter.unusedSimpArgs false
set_option linter.unusedVariables false
namespace Go.Ofp
open Go.RowKit
section
variable {w0 w w' : World} {F : List Nat} {A A' : List Ch}
end
end Go.Ofp
namespace Go.Proofs.Ytlhpibniecfofaa
open Go.RowKit Go.Ofp
set_option linter.unusedVariables false
set_option maxRecDepth 100000
set_option maxHeartbeats 4000000

theorem str_size (l : List UInt8) : (str l).size = l.length := by simp [str, ByteArray.size]
theorem str_data (l : List UInt8) : (str l).data.toList = l := by simp [str]

end Go.Proofs.Ytlhpibniecfofaa
end

section
/- Pieces in the midst: a call that writes to some of them, and what is left behind. -/
set_option linter.unusedSimpArgs false
set_option linter.unusedVariables false
namespace Go.Ofp
open Go.RowKit
theorem Sl.old {w0 w : World} {F : List Nat} {L : List Ch} {a : Option Addr} {xs : List Value} (hs : Sl w0 a xs) (h : St w0 F L w) (hap : 0 < xs.length → ∀ b o, a = some ⟨b, o, none⟩ → b ∉ F) : Sl w a xs := by
  intro i hi
  obtain ⟨b, off, e, hc⟩ := hs i hi
  exact ⟨b, off, e, h.old hc (hap (by omega) b off e)⟩
namespace St
variable {w0 w w' : World} {F : List Nat} {A B B' R L : List Ch} {c : Ch}
/-- The first pieces go to the end. -/
theorem rot (h : St w0 F (A ++ B) w) : St w0 F (B ++ A) w := by
  refine h.pick (fun i => if i < B.length then A.length + i else i - B.length) ?_ ?_
  · intro i d hd
    by_cases hi : i < B.length
    · rw [List.getElem?_append_left hi] at hd
      simp only [hi, if_true]
      rw [List.getElem?_append_right (by omega), Nat.add_sub_cancel_left]
      exact hd
    · rw [List.getElem?_append_right (by omega)] at hd
      simp only [hi, if_false]
      rw [List.getElem?_append_left (List.getElem?_eq_some_iff.1 hd).1]
      exact hd
  · intro i j hi hj hij
    simp only [List.length_append] at hi hj
    split <;> split <;> omega
theorem preM (h : St w0 F (A ++ (B ++ R)) w) : St w (feet B) B w := by
  have := h.rot
  rw [List.append_assoc] at this
  exact this.pre B (R ++ A) rfl
theorem callM (h : St w0 F (A ++ (B ++ R)) w) (k : St w (feet B) B' w') : St w0 F (A ++ (B' ++ R)) w' := by
  have h1 := h.rot
  rw [List.append_assoc] at h1
  have h2 := h1.call B (R ++ A) rfl k
  rw [← List.append_assoc] at h2
  exact h2.rot
theorem dropM (h : St w0 F (A ++ (B ++ R)) w) : St w0 F (A ++ R) w := by
  refine h.pick (fun i => if i < A.length then i else B.length + i) ?_ ?_
  · intro i d hd
    by_cases hi : i < A.length
    · rw [List.getElem?_append_left hi] at hd
      simp only [hi, if_true]
      rw [List.getElem?_append_left hi]
      exact hd
    · rw [List.getElem?_append_right (by omega)] at hd
      simp only [hi, if_false]
      rw [List.getElem?_append_right (by omega), List.getElem?_append_right (by omega), show B.length + i - A.length - B.length = i - A.length by omega]
      exact hd
  · intro i j hi hj hij
    split <;> split <;> omega
theorem back (h : St w0 F (A ++ R) w) : St w0 F R w := by
  have := dropM (A := []) (B := A) (R := R) h
  exact this
theorem fore (h : St w0 F (A ++ R) w) : St w0 F A w := by
  have := dropM (A := A) (B := R) (R := []) (by simpa using h)
  simpa using this
theorem pre1 (h : St w0 F (c :: (B ++ R)) w) : St w (feet B) B w := preM (A := [c]) h
theorem call1 (h : St w0 F (c :: (B ++ R)) w) (k : St w (feet B) B' w') : St w0 F (c :: (B' ++ R)) w' := callM (A := [c]) h k
end St
end Go.Ofp
end

section
/- A region that draws its order ends in one form: its tail is walked once. -/
set_option linter.unusedSimpArgs false
set_option linter.unusedVariables false
namespace Go.Ofp
open Go.RowKit
/-- Behind a region nothing but its common end. -/
@[reducible] def CutQ (S : Act → World → Prop) : Exit → Act → World → Prop
  | .normal, a, w => S a w
  | _, _, _ => False
section
variable {P : Program} {c : Code} {Q : Exit → Act → World → Prop} {a : Act} {w w0 : World} {F : List Nat}
theorem wp_cutQ {S : Act → World → Prop} (h : c.wp P (CutQ S) a w) (k : ∀ a w, S a w → Q .normal a w) : c.wp P Q a w := by
  refine Code.wp_mono (fun e a w q => ?_) h
  cases e with
  | normal => exact k a w q
  | _ => exact q.elim
/-- No new block. -/
theorem wp_cut0 {L0 : List Ch} {T : Act} {L : List Ch} (h : St w0 F L0 w → c.wp P (CutQ fun a w => a = T ∧ St w0 F L w) a w) (k : ∀ w, St w0 F L w → Q .normal T w) : St w0 F L0 w → c.wp P Q a w := fun h0 =>
  wp_cutQ (h h0) fun _ w h => h.1 ▸ k w h.2
/-- One new value. -/
theorem wp_cutv {L0 : List Ch} {T : Value → Act} {L : Value → List Ch} (h : St w0 F L0 w → c.wp P (CutQ fun a w => ∃ g, a = T g ∧ St w0 F (L g) w) a w) (k : ∀ g w, St w0 F (L g) w → Q .normal (T g) w) : St w0 F L0 w → c.wp P Q a w := fun h0 =>
  wp_cutQ (h h0) fun _ w ⟨g, h, hS⟩ => h ▸ k g w hS
end
end Go.Ofp
end

section
/- A slice copied into a block of the call's own. -/
set_option linter.unusedSimpArgs false
set_option linter.unusedVariables false
namespace Go.Ofp
open Go.RowKit
/-- One piece alone. -/
theorem St.one {w0 w : World} {F : List Nat} {L : List Ch} {c : Ch} (h : St w0 F L w) (i : Nat) (hi : L[i]? = some c) : St w0 F [c] w := by
  refine h.pick (fun _ => i) ?_ ?_
  · intro q d hd
    match q with
    | 0 => simp at hd; subst hd; exact hi
    | q + 1 => simp at hd
  · intro p q hp hq hpq
    simp at hp hq
    omega
/-- A region in which one block of the call's own is read, and is not written: it is the class. -/
theorem mixs_beginC {P : Program} {Q : Exit → Act → World → Prop} {a : Act} {w w0 : World} {F : List Nat} {L : List Ch} {c : Ch} (i : Nat) {id : Nat} {l : List Oper} (hm : P.follows .mixedOrders = true) (hS : St w0 F L w) (hi : L[i]? = some c)
    (h : ∀ w', St w0 F L w' → St w0 F [c] w' → wpAnyH P .any l.toArray Q (fun w' => St w0 F [c] w') l.length (Array.replicate l.length false) a w') : (Code.region id l.toArray true).wp P Q a w := by
  refine wp_region_held (S := fun w' => St w0 F [c] w') hm ?_
  simpa using h w.drew hS.drew (hS.drew.one i hi)
section
variable {P : Program} {w : World}
theorem run_copy_sl (w : World) (t tx ty e : TypeId) (ht : P.underlying t = some (.slice e)) {z : Value} {bytes : Nat} (he : Elem P e z 1 bytes) (htx : P.underlying tx = some (.slice e))
    {g off n c : Nat} {T : TypeId} {cs : Array Value} (hw : Whole w g T cs) {a : Option Addr} {m c2 : Nat} {xs : List Value} (hs : Sl w a xs) (hm : xs.length = m) (h1 : ∀ v ∈ xs, v.oneCell' = true) (hmn : m ≤ n) (hfit : off + m ≤ cs.size) :
    ∃ w', (Builtin.copy_ #[t, tx] ty #[.slice (some ⟨g, off, none⟩) n c, .slice a m c2]).run P w = .ok (.int .i64 m) w' ∧ Whole w' g T (cs.toList.take off ++ xs ++ cs.toList.drop (off + m)).toArray ∧ Fr [g] w w' := by
  obtain ⟨i, hi, hz, h1', rfl, hzs, hpos⟩ := he
  subst hm
  have hx := Src.slice (P := P) (c := c2) (m := xs.length) (size := 1) htx hs (by simp)
  have hcells := hx.cells w (fun _ => rfl)
  obtain ⟨k1, k2, k3⟩ := Whole.setCells (P := P) hw xs hfit h1
  have hmm : xs.length.min n = xs.length := Nat.min_eq_left hmn
  refine ⟨_, ?_, k2, k3⟩
  simp [Builtin.copy_, run_underlying ht, sizeOf, typeInfo, hi, h1', hx.len, hcells, k1, goInt, hmm]

variable {w0 : World} {F : List Nat} {L : List Ch} {ops : Array Oper} {rest : List Oper} {o : Oper} {a : Act} {Q : Exit → Act → World → Prop} {K : Act → World → Prop}
theorem wpList_copysl_st (i : Nat) {g off n c T : Nat} {cs : Array Value} (hS : St w0 F L w) (hi : L[i]? = some (Ch.blk g T cs)) (hgd : o.guard = none) {s x : Operand} {t tx : TypeId} (ho : o.op = .call { callee := .builtin .copy, args := #[s, x], argTypes := #[t, tx] })
    {e : TypeId} (ht : P.underlying t = some (.slice e)) {z : Value} {bytes : Nat} (he : Elem P e z 1 bytes) (htx : P.underlying tx = some (.slice e)) (hs : a.eval s = .slice (some ⟨g, off, none⟩) n c) {b : Option Addr} {m c2 : Nat} (hx : a.eval x = .slice b m c2)
    {xs : List Value} (hsl : Sl w b xs) (hm : xs.length = m) (h1 : ∀ v ∈ xs, v.oneCell' = true) (hmn : m ≤ n) (hfit : off + m ≤ cs.size)
    (h : ∀ w', St w0 F (L.set i (Ch.blk g T (cs.toList.take off ++ xs ++ cs.toList.drop (off + m)).toArray)) w' → wpList P ops Q rest (a.put o.dst (.int .i64 m)) w') : wpList P ops Q (o :: rest) a w := by
  refine wpList_plain hgd fun K hK => ?_
  obtain ⟨w', hr, h2, h3⟩ := run_copy_sl (c := c) (c2 := c2) w t tx o.type e ht he htx (hS.get i hi) hsl hm h1 hmn hfit
  unfold Oper.wp execOp
  simp only [ho, resolve, invoke, builtin, Sem.run_bind, Sem.run_pure, Result.andThen_ok, List.map_toArray, List.map_cons, List.map_nil, hs, hx, hr]
  exact hK _ _ (h w' (hS.upd i hi h3 (by simp [Ch.blk]) h2 (by simp [Ch.blk])))
theorem op_copysl_st (hw : Region.wanted o (yielded ops a.tmps) = true) (i : Nat) {g off n c T : Nat} {cs : Array Value} (hS : St w0 F L w) (hi : L[i]? = some (Ch.blk g T cs)) {s x : Operand} {t tx : TypeId} (ho : o.op = .call { callee := .builtin .copy, args := #[s, x], argTypes := #[t, tx] })
    {e : TypeId} (ht : P.underlying t = some (.slice e)) {z : Value} {bytes : Nat} (he : Elem P e z 1 bytes) (htx : P.underlying tx = some (.slice e)) (hs : a.eval s = .slice (some ⟨g, off, none⟩) n c) {b : Option Addr} {m c2 : Nat} (hx : a.eval x = .slice b m c2)
    {xs : List Value} (hsl : Sl w b xs) (hm : xs.length = m) (h1 : ∀ v ∈ xs, v.oneCell' = true) (hmn : m ≤ n) (hfit : off + m ≤ cs.size)
    (h : ∀ w', St w0 F (L.set i (Ch.blk g T (cs.toList.take off ++ xs ++ cs.toList.drop (off + m)).toArray)) w' → K (a.put o.dst (.int .i64 m)) w') : if Region.wanted o (yielded ops a.tmps) = true then Oper.wp P o a w K Q else K (a.put o.dst undef) w := by
  rw [if_pos hw]
  obtain ⟨w', hr, h2, h3⟩ := run_copy_sl (c := c) (c2 := c2) w t tx o.type e ht he htx (hS.get i hi) hsl hm h1 hmn hfit
  unfold Oper.wp execOp
  simp only [ho, resolve, invoke, builtin, Sem.run_bind, Sem.run_pure, Result.andThen_ok, List.map_toArray, List.map_cons, List.map_nil, hs, hx, hr]
  exact h w' (hS.upd i hi h3 (by simp [Ch.blk]) h2 (by simp [Ch.blk]))
theorem run_same_bytes' (w : World) (t e : TypeId) (ht : P.underlying t = some (.slice e)) (he : P.underlying e = some (.int .u8)) (ad : Addr) (n cap : Nat) :
    ∃ w', (convert t t (.slice (some ad) n cap)).run P w = .ok (.slice (some ad) n cap) w' ∧ (∀ p, w'.cell? p = w.cell? p) ∧ Fr [ad.block] w w' := by
  cases hs : w.shape? ad.block with
  | none =>
    refine ⟨w, ?_, fun _ => rfl, Fr.refl _ _⟩
    simp [convert, run_underlying ht, run_underlying he, markStringish, hs]
  | some q =>
    obtain ⟨e', m⟩ := q
    refine ⟨w.freeze ⟨ad.block, m, none⟩ 1, ?_, cell_freeze _ _ _, ?_⟩
    · simp [convert, run_underlying ht, run_underlying he, markStringish, hs]
    · refine ⟨rfl, rfl, rfl, by simp [World.freeze], fun k hk hn => ?_⟩
      rw [World.freeze, if_neg (by decide), Array.getElem?_modify, if_neg (show ad.block ≠ k by simpa [eq_comm] using hn)]
/-- Cells that are read alone. -/
def Ch.read (g : Nat) (xs : List Value) : Ch where
  foot := [g]
  holds w := g < w.heap.size ∧ Sl w (some ⟨g, 0, none⟩) xs
  lt h x hx := by simp at hx; subst hx; exact h.1
  keep {w w'} h k := by
    have kg := k g (by simp)
    refine ⟨?_, fun i hi => ?_⟩
    · have h1 := Array.getElem?_eq_getElem h.1
      rw [← kg] at h1
      exact (Array.getElem?_eq_some_iff.1 h1).1
    · obtain ⟨b, off, e, hc⟩ := h.2 i hi
      cases e
      exact ⟨g, 0, rfl, by rw [World.cell?_of_block kg]; exact hc⟩
theorem St.readsl {g : Nat} {xs : List Value} (h : St w0 F L w) (i : Nat) (hi : L[i]? = some (Ch.read g xs)) : Sl w (some ⟨g, 0, none⟩) xs := (h.get i hi).2
/-- Bytes that are converted to bytes. -/
theorem op_same_st (hw : Region.wanted o (yielded ops a.tmps) = true) (i : Nat) {g T : Nat} {cs : Array Value} (hS : St w0 F L w) (hi : L[i]? = some (Ch.blk g T cs)) {t e : TypeId} {x : Operand} (ho : o.op = .convert t t x) (ht : P.underlying t = some (.slice e)) (he : P.underlying e = some (.int .u8))
    {n cap : Nat} (hx : a.eval x = .slice (some ⟨g, 0, none⟩) n cap) (h : ∀ w', St w0 F (L.set i (Ch.read g cs.toList)) w' → K (a.put o.dst (.slice (some ⟨g, 0, none⟩) n cap)) w') : if Region.wanted o (yielded ops a.tmps) = true then Oper.wp P o a w K Q else K (a.put o.dst undef) w := by
  rw [if_pos hw]
  obtain ⟨w', hr, h1, h2⟩ := run_same_bytes' (P := P) w t e ht he ⟨g, 0, none⟩ n cap
  unfold Oper.wp execOp
  simp only [ho, hx, Sem.run_bind, hr, Result.andThen_ok, Sem.run_pure]
  refine h w' (hS.upd i hi h2 (by simp [Ch.blk]) ?_ (by simp [Ch.blk, Ch.read]))
  refine ⟨Nat.lt_of_lt_of_le (hS.lt i hi g (by simp [Ch.blk])) h2.size, fun j hj => ?_⟩
  obtain ⟨b, off, e, hc⟩ := hS.blksl i hi j hj
  exact ⟨b, off, e, by rw [h1]; exact hc⟩
end
end Go.Ofp
end
