/- Texts laid together: CardCheck2 CardCheck3 CardDiff CardDiffR CardSame QueueMath. -/
import Derived.Test.YtplgpbbghhlbjaaDoorM2
import Derived.Test.YtplgpbbghhlbjaaDoorM4
section
/- Which cards may be. -/
set_option linter.unusedSimpArgs false
set_option linter.unusedVariables false
namespace Go.Proofs.YtplgpbbghhlbjaaDoor
open Go.RowKit Go.Ofp
set_option linter.unusedVariables false
set_option maxRecDepth 100000
set_option maxHeartbeats 4000000

end Go.Proofs.YtplgpbbghhlbjaaDoor
end

section
/- Which cards may be: the document's answer. -/
set_option linter.unusedSimpArgs false
set_option linter.unusedVariables false
namespace Go.Proofs.YtplgpbbghhlbjaaDoor
open Go.RowKit Go.Ofp
set_option linter.unusedVariables false
set_option maxRecDepth 100000
set_option maxHeartbeats 4000000

end Go.Proofs.YtplgpbbghhlbjaaDoor
end

section
/- What is unlike in cards. -/
set_option linter.unusedSimpArgs false
set_option linter.unusedVariables false
namespace Go.Ofp
end Go.Ofp
namespace Go.Proofs.YtplgpbbghhlbjaaDoor
open Go.RowKit Go.Ofp
set_option linter.unusedVariables false
set_option maxRecDepth 100000
set_option maxHeartbeats 4000000

end Go.Proofs.YtplgpbbghhlbjaaDoor
end

section
/- What is unlike in cards: the reference. -/
set_option linter.unusedSimpArgs false
set_option linter.unusedVariables false
namespace Go.Ofp
end Go.Ofp
namespace Go.Proofs.YtplgpbbghhlbjaaDoor
open Go.RowKit Go.Ofp
set_option linter.unusedVariables false
set_option maxRecDepth 100000
set_option maxHeartbeats 4000000

end Go.Proofs.YtplgpbbghhlbjaaDoor
end

section
/- Lists of cards that are the same. -/
set_option linter.unusedSimpArgs false
set_option linter.unusedVariables false
namespace Go.Ofp
open Go.RowKit
theorem sl_range {w : World} {g off j n : Nat} {l vs : List Value} (h : Sl w (some ⟨g, off, none⟩) l) (hv : (l.drop j).take n = vs) : w.rangeAt g (off + j) vs := by
  intro k v hk
  rw [← hv, List.getElem?_take] at hk
  split at hk
  · rw [List.getElem?_drop] at hk
    have := h.add (j + k) v hk
    rwa [Addr.add_lit, ← Nat.add_assoc] at this
  · cases hk
/-- A struct or an array out of old memory. -/
theorem wpList_rangerow {P : Program} {w : World} {ops : Array Oper} {rest : List Oper} {o : Oper} {a : Act} {Q : Exit → Act → World → Prop} {g j n : Nat} {vs : List Value} (hc : w.rangeAt g j vs) (hgd : o.guard = none) {t : TypeId} {x : Operand} (ho : o.op = .load t x) (hx : a.eval x = .pointer (some ⟨g, j, none⟩))
    (hu : rowB P t = true) (hsz : sizeB P t n = true) (hl : vs.length = n) (h : wpList P ops Q rest (a.put o.dst (.agg vs.toArray)) w) : wpList P ops Q (o :: rest) a w := by
  refine wpList_plain hgd fun K hK => ?_
  have hr := run_loadrow (P := P) hu hsz hl hc
  unfold Oper.wp execOp
  simp only [ho, hx, Sem.run_bind, hr, Result.andThen_ok, Sem.run_pure]
  exact hK _ _ h
end Go.Ofp
namespace Go.Proofs.YtplgpbbghhlbjaaDoor
open Go.RowKit Go.Ofp
set_option linter.unusedVariables false
set_option maxRecDepth 100000
set_option maxHeartbeats 4000000

end Go.Proofs.YtplgpbbghhlbjaaDoor
end

section
/- Writes that wait: plain law. -/
set_option linter.unusedSimpArgs false
set_option linter.unusedVariables false
namespace Go.Ofp
/-- A write that waits. -/
structure Wr where
  id : Int
  base : Int
  p : Pt
deriving DecidableEq
def Wr.isOf (id : Int) (w : Wr) : Bool := decide (w.id = id)
def ofId (l : List Wr) (id : Int) : List Wr := l.filter (Wr.isOf id)
def notId (l : List Wr) (id : Int) : List Wr := l.filter fun w => !w.isOf id
/-- The next version. -/
def nextBase (b : Int) (l : List Wr) : Int := l.foldl (fun _ w => w.base + 1) b
def waitsQ (l : List Wr) (id : Int) : Nat := (ofId l id).length
def Cd.atVer (c : Cd) (v : Int) : Cd := ⟨c.id, v, c.lab, c.f⟩
def mergeAll (c : Cd) (l : List Wr) : Cd := l.foldl (fun o w => o.merge w.p) c
def showQ (c : Cd) (l : List Wr) : Cd := (mergeAll c (ofId l c.id)).atVer c.ver
def doneQ (l : List Wr) (ok : Bool) : List Wr × List Wr :=
  match l with
  | [] => ([], [])
  | h :: t => if ok then (t, []) else (notId (h :: t) h.id, ofId (h :: t) h.id)
theorem nextBase_snoc (b : Int) (l : List Wr) (w : Wr) : nextBase b (l ++ [w]) = w.base + 1 := by simp [nextBase]
theorem ofId_snoc (l : List Wr) (w : Wr) (id : Int) : ofId (l ++ [w]) id = ofId l id ++ (if w.id = id then [w] else []) := by
  unfold ofId
  rw [List.filter_append]
  by_cases h : w.id = id
  · rw [if_pos h, List.filter_cons, if_pos (by simp [Wr.isOf, h]), List.filter_nil]
  · rw [if_neg h, List.filter_cons, if_neg (by simp [Wr.isOf, h]), List.filter_nil]
theorem notId_snoc (l : List Wr) (w : Wr) (id : Int) : notId (l ++ [w]) id = notId l id ++ (if w.id = id then [] else [w]) := by
  unfold notId
  rw [List.filter_append]
  by_cases h : w.id = id
  · rw [if_pos h, List.filter_cons, if_neg (by simp [Wr.isOf, h]), List.filter_nil]
  · rw [if_neg h, List.filter_cons, if_pos (by simp [Wr.isOf, h]), List.filter_nil]
end Go.Ofp
namespace Go.Proofs.YtplgpbbghhlbjaaDoor
open Go.RowKit Go.Ofp
set_option linter.unusedVariables false
set_option maxRecDepth 100000
set_option maxHeartbeats 4000000
def wrRow (q : Wr) : List Value := .int .i64 q.id :: .int .i64 q.base :: ptRow q.p
def qRow (l : List Wr) : List Value := (l.map wrRow).flatten
theorem ptRow_one (p : Pt) : (ptRow p).all Value.oneCell' = true := by
  simp only [ptRow, List.all_cons, fl_one]
  rfl
theorem wrRow_one (q : Wr) : (wrRow q).all Value.oneCell' = true := by
  simp only [wrRow, List.all_cons, ptRow_one]
  rfl
theorem wrRow_len (q : Wr) (h : q.p.f.length = 8) : (wrRow q).length = 28 := by simp [wrRow, ptRow, flRow_length, h]
theorem qRow_all (l : List Wr) (h : ∀ q ∈ l, q.p.f.length = 8) : ∀ r ∈ l.map wrRow, r.length = 28 := by
  intro r hr
  obtain ⟨q, hq, rfl⟩ := List.mem_map.1 hr
  exact wrRow_len q (h q hq)
theorem qRow_len (l : List Wr) (h : ∀ q ∈ l, q.p.f.length = 8) : (qRow l).length = l.length * 28 := by
  rw [qRow, flat_len2 28 _ (qRow_all l h), List.length_map]
theorem qRow_at (l : List Wr) (h : ∀ q ∈ l, q.p.f.length = 8) (k : Nat) (hk : k < l.length) : ((qRow l).drop (k * 28)).take 28 = wrRow l[k] := by
  have := flat_elem 28 _ (qRow_all l h) k (by simpa using hk)
  rwa [List.getElem_map] at this
theorem qRow_snoc (l : List Wr) (q : Wr) : qRow (l ++ [q]) = qRow l ++ wrRow q := by simp [qRow]
theorem elem_wr : Elem Tryd.prog 74 (.agg #[.int .i64 0, .int .i64 0, .int .u32 0, .int .u32 0, .int .i64 0, .int .i64 0, .string ⟨#[]⟩, .int .i64 0, .int .i64 0, .string ⟨#[]⟩, .int .i64 0, .int .i64 0, .string ⟨#[]⟩, .int .i64 0, .int .i64 0, .string ⟨#[]⟩, .int .i64 0, .int .i64 0, .string ⟨#[]⟩, .int .i64 0, .int .i64 0, .string ⟨#[]⟩, .int .i64 0, .int .i64 0, .string ⟨#[]⟩, .int .i64 0, .int .i64 0, .string ⟨#[]⟩]) 28 280 := Elem.mk (by kernel_rfl) (by rfl) (by decide)
theorem elem_rwr : Elem Tryd.prog 89 (.agg #[.int .i64 0, .int .i64 0, .int .u32 0, .int .u32 0, .int .i64 0, .int .i64 0, .string ⟨#[]⟩, .int .i64 0, .int .i64 0, .string ⟨#[]⟩, .int .i64 0, .int .i64 0, .string ⟨#[]⟩, .int .i64 0, .int .i64 0, .string ⟨#[]⟩, .int .i64 0, .int .i64 0, .string ⟨#[]⟩, .int .i64 0, .int .i64 0, .string ⟨#[]⟩, .int .i64 0, .int .i64 0, .string ⟨#[]⟩, .int .i64 0, .int .i64 0, .string ⟨#[]⟩]) 28 280 := Elem.mk (by kernel_rfl) (by rfl) (by decide)
end Go.Proofs.YtplgpbbghhlbjaaDoor
end
