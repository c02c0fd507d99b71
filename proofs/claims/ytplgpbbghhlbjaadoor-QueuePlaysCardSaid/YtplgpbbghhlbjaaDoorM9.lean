/- Texts laid together: CardShows QueueOpen QueueSkip QueueAwake QueueLaw QueueRShow. -/
import Derived.ChangeSlices
import Derived.Test.YtplgpbbghhlbjaaDoorM2
import Derived.Test.YtplgpbbghhlbjaaDoorM3
import Derived.Test.YtplgpbbghhlbjaaDoorM5
import Derived.Test.YtplgpbbghhlbjaaDoorM7
import Derived.Test.YtplgpbbghhlbjaaDoorM8
section
/- The law CardShows: the walk. -/
set_option linter.unusedSimpArgs false
set_option linter.unusedVariables false
namespace Go.Proofs.YtplgpbbghhlbjaaDoor
open Go.RowKit Go.Ofp
set_option linter.unusedVariables false
set_option maxRecDepth 100000
set_option maxHeartbeats 4000000


theorem cdRow_len (c : Cd) (h : c.f.length = 8) : (cdRow c).length = 27 := by simp [cdRow, flRow_length, h]
theorem ptRow_len (p : Pt) (h : p.f.length = 8) : (ptRow p).length = 26 := by simp [ptRow, flRow_length, h]

end Go.Proofs.YtplgpbbghhlbjaaDoor
end

section
/- Acts of queues that came in, opened. -/
set_option linter.unusedSimpArgs false
set_option linter.unusedVariables false
namespace Go.Ofp
structure QAc where
  kind : Int
  c : Cd
  p : Pt
structure QAcIn (x : QAc) : Prop where
  kind : -9223372036854775808 ≤ x.kind ∧ x.kind ≤ 9223372036854775807
  c : CdIn x.c
  p : PtIn x.p
end Go.Ofp
namespace Go.Proofs.YtplgpbbghhlbjaaDoor
open Go.RowKit Go.Ofp Go.WideShapes
set_option linter.unusedVariables false
set_option maxRecDepth 100000
set_option maxHeartbeats 1000000
def qaRow (x : QAc) : List Value := .int .i64 x.kind :: (cdRow x.c ++ ptRow x.p)
theorem qaRow_len (x : QAc) (h1 : x.c.f.length = 8) (h2 : x.p.f.length = 8) : (qaRow x).length = 54 := by
  rw [qaRow, List.length_cons, List.length_append, cdRow_len _ h1, ptRow_len _ h2]
/-- Acts lie there. -/
structure QAcs (w : World) (a : Option Addr) (n c : Nat) (l : List QAc) : Prop where
  sl : Sl w a (l.map qaRow).flatten
  len : l.length = n
  le : n ≤ c
  cm : c ≤ maxLen
  mem : ∀ x ∈ l, QAcIn x
section
variable {H : Type} {enc : TypeId × Value → H}
theorem read_qac {w : World} {cs : List Value} (h : ∃ fuel x, DataW.trod enc Tryd.prog w 0 (fun _ => true) true fuel 56 cs = some x) : ∃ x : QAc, cs = qaRow x ∧ QAcIn x := by
  obtain ⟨fuel, x, h⟩ := h
  obtain ⟨hl, hf⟩ := field_read Tryd.underlying56 h
  have hc : Tryd.prog.cellsOf 56 = 54 := by kernel_rfl
  have hc1 : Tryd.prog.cellsOf 27 = 27 := by kernel_rfl
  have hc2 : Tryd.prog.cellsOf 29 = 26 := by kernel_rfl
  rw [hc] at hl
  obtain ⟨n0, y0, h0⟩ := hf 0 _ rfl
  obtain ⟨n1, y1, h1⟩ := hf 1 _ rfl
  obtain ⟨n2, y2, h2⟩ := hf 2 _ rfl
  obtain ⟨z0, e0, w0⟩ := field_int Tryd.underlying3 (by kernel_rfl) (by rw [hl]; decide) h0
  have h1' : DataW.trod enc Tryd.prog w 0 (fun _ => true) true n1 27 ((cs.drop 1).take (Tryd.prog.cellsOf 27)) = some y1 := h1
  have h2' : DataW.trod enc Tryd.prog w 0 (fun _ => true) true n2 29 ((cs.drop 28).take (Tryd.prog.cellsOf 29)) = some y2 := h2
  rw [hc1] at h1'
  rw [hc2, List.take_of_length_le (by rw [List.length_drop, hl]; decide)] at h2'
  obtain ⟨c, ec, hci⟩ := read_cd ⟨_, _, h1'⟩
  obtain ⟨p, ep, hpi⟩ := read_pt ⟨_, _, h2'⟩
  refine ⟨⟨z0, c, p⟩, ?_, wf_i64 w0, hci, hpi⟩
  have h3 : cs = cs.take 1 ++ ((cs.drop 1).take 27 ++ cs.drop 28) := by
    have := List.take_append_drop 1 cs
    have h4 := List.take_append_drop 27 (cs.drop 1)
    rw [List.drop_drop] at h4
    rw [h4, this]
  rw [h3, ec, ep, qaRow]
  match cs, hl with
  | c0 :: rest, _ =>
    simp at e0
    simp [e0]
theorem qacs_of {w : World} {rows : List (List Value)} (h : ∀ cs ∈ rows, ∃ x : QAc, cs = qaRow x ∧ QAcIn x) : ∃ l : List QAc, rows = l.map qaRow ∧ ∀ x ∈ l, QAcIn x := by
  induction rows with
  | nil => exact ⟨[], rfl, by simp⟩
  | cons c cs ih =>
    obtain ⟨p, rfl, hp⟩ := h c (by simp)
    obtain ⟨ps, rfl, hps⟩ := ih (fun x hx => h x (by simp [hx]))
    refine ⟨p :: ps, rfl, ?_⟩
    intro q hq
    rcases List.mem_cons.1 hq with rfl | hq
    · exact hp
    · exact hps q hq
theorem open_qacs {r : Reach} {b0 : Nat} {v : Value} {d : DataW H} {ms : List MemPlace} {w : World}
    (ho : Value.okWide Tryd.prog w r b0 51 v) (ht : DataW.Trod enc Tryd.prog w 0 (fun _ => true) true 51 v d ms) :
    ∃ a n cap l, v = .slice a n cap ∧ QAcs w a n cap l := by
  have hc : Tryd.prog.cellsOf 56 = 54 := by kernel_rfl
  obtain ⟨b, n, cb, rfl, hn, hm, rows, hrl, hrw, hrd⟩ := open_rows Tryd.underlying51 ho ht (by rw [hc]; decide)
  obtain ⟨qs, rfl, hqs⟩ := qacs_of (w := w) fun cs h => read_qac (hrd cs h)
  rw [List.length_map] at hrl
  exact ⟨b, n, cb, qs, rfl, ⟨hrw.sl, hrl, hn, hm, hqs⟩⟩
end
end Go.Proofs.YtplgpbbghhlbjaaDoor
end

section
/- What is not looked at. -/
set_option linter.unusedSimpArgs false
set_option linter.unusedVariables false
namespace Go.Ofp
open Go.RowKit
def QAc.bad (x : QAc) : Bool := largeF x.c.f || largeF x.p.f || decide (x.c.ver < 0) || decide (1099511627776 < x.c.ver)
def skipQ (l : List QAc) : Bool := decide (60 < l.length) || l.any QAc.bad
theorem wpList_grangerow {P : Program} {w : World} {ops : Array Oper} {rest : List Oper} {o : Oper} {a : Act} {Q : Exit → Act → World → Prop} {g j n : Nat} {vs : List Value} (hc : w.rangeAt g j vs) (hw : Region.wanted o (yielded ops a.tmps) = true) {t : TypeId} {x : Operand} (ho : o.op = .load t x) (hx : a.eval x = .pointer (some ⟨g, j, none⟩))
    (hu : rowB P t = true) (hsz : sizeB P t n = true) (hl : vs.length = n) (h : wpList P ops Q rest (a.put o.dst (.agg vs.toArray)) w) : wpList P ops Q (o :: rest) a w :=
  wpList_of_op fun K hK => by
    rw [if_pos hw]
    have hr := run_loadrow (P := P) hu hsz hl hc
    unfold Oper.wp execOp
    simp only [ho, hx, Sem.run_bind, hr, Result.andThen_ok, Sem.run_pure]
    exact hK _ _ h
end Go.Ofp
namespace Go.Proofs.YtplgpbbghhlbjaaDoor
open Go.RowKit Go.Ofp
set_option linter.unusedVariables false
set_option maxRecDepth 100000
set_option maxHeartbeats 4000000

theorem qaRows_all (l : List QAc) (h : ∀ x ∈ l, QAcIn x) : ∀ r ∈ l.map qaRow, r.length = 54 := by
  intro r hr
  obtain ⟨x, hx, rfl⟩ := List.mem_map.1 hr
  exact qaRow_len x (h x hx).c.len (h x hx).p.len
theorem qaRows_at (l : List QAc) (h : ∀ x ∈ l, QAcIn x) (k : Nat) (hk : k < l.length) : (((l.map qaRow).flatten).drop (k * 54)).take 54 = qaRow l[k] := by
  have := flat_elem 54 _ (qaRows_all l h) k (by simpa using hk)
  rwa [List.getElem_map] at this
theorem qaRows_ne (l : List QAc) (h : ∀ x ∈ l, QAcIn x) (hl : 0 < l.length) : (l.map qaRow).flatten ≠ [] := by
  intro e
  have := congrArg List.length e
  rw [flat_len2 54 _ (qaRows_all l h), List.length_map] at this
  simp at this
  omega
theorem range_part {w : World} {g o : Nat} {A B C : List Value} (h : w.rangeAt g o (A ++ (B ++ C))) : w.rangeAt g (o + A.length) B := by
  intro j v hj
  have := h (A.length + j) v (by rw [List.getElem?_append_right (by omega), Nat.add_sub_cancel_left, List.getElem?_append_left (List.getElem?_eq_some_iff.1 hj).1]; exact hj)
  rwa [← Nat.add_assoc] at this
theorem range_old {w0 w : World} {L : List Ch} (hS : St w0 [] L w) {g j : Nat} {vs : List Value} (h : w0.rangeAt g j vs) : w.rangeAt g j vs := fun i v hv => hS.old (h i v hv) (by simp)
theorem skip44_any (l : List QAc) (a : Option Addr) (n cap : Nat) (w : World) (hQ : QAcs w a n cap l) :
    Calls Tryd.prog 30 #[.slice a n cap] w fun e w' => e = .returned (.bool (skipQ l)) ∧ Below w.heap.size w w' := by
  have hS := St.start w
  obtain ⟨hs, hn, hle, hcm, hin⟩ := hQ
  by_cases h60 : 60 < n
  · have hr : skipQ l = true := by simp [skipQ, hn, h60]
    have hd : decide ((60 : Int) < (n : Int)) = true := decide_eq_true (by omega)
    rw [hr]
    clear hs hin hn hr
    go_enter Tryd.func30, Tryd.ntmps30
    go_wp2_with fail
    go_ret
    exact ⟨rfl, hS.below⟩
  · have hd : decide ((60 : Int) < (n : Int)) = false := decide_eq_false (by omega)
    generalize hR : skipQ l = R
    have hR2 : R = l.any QAc.bad := by rw [← hR, skipQ, decide_eq_false (by omega), Bool.false_or]
    clear hR
    replace hR2 := Lib.hid hR2
    replace hs := Lib.hid hs
    replace hin := Lib.hid hin
    replace hn := Lib.hid hn
    go_enter Tryd.func30, Tryd.ntmps30
    go_wp2_with fail
    go_loopg [3] n (fun gk vx wr => ∃ (k : Nat), k + gk = n ∧ vx = .int .i64 k ∧ Hid ((l.take k).any QAc.bad = false) ∧ St w [] [] wr)
    case atStart => exact ⟨0, Nat.zero_add _, rfl, Lib.hid rfl, hS⟩
    case round =>
      clear hS
      obtain ⟨k, hkn, rfl, hr, hS⟩ := hrel
      by_cases hlt : k < n
      · have hkl : k < l.length := by rw [hn.out]; exact hlt
        have hxi := hin.out _ (List.getElem_mem hkl)
        obtain ⟨g1, o1, ha⟩ := Sl.cells hs.out (qaRows_ne l hin.out (by omega))
        subst ha
        have hrg := sl_range hs.out (qaRows_at l hin.out k hkl)
        have hnx : (l.take (k + 1)).any QAc.bad = l[k].bad := by
          rw [List.take_succ_eq_append_getElem hkl, List.any_append, hr.out]
          simp
        have hall : l[k].bad = true → R = true := fun h => by rw [hR2.out, List.any_eq_true]; exact ⟨_, List.getElem_mem hkl, h⟩
        generalize l[k] = x at *
        obtain ⟨kd, ⟨ci, cv, cl, cf⟩, ⟨pm, pl, pf⟩⟩ := x
        have hcf : cf.length = 8 := hxi.c.len
        have hpf : pf.length = 8 := hxi.p.len
        have cL1 := fun W : World => large6_any cf hcf W
        have cL2 := fun W : World => large6_any pf hpf W
        have l1 : (flRow cf).length = 24 := by rw [flRow_length, hcf]
        have l2 : (flRow pf).length = 24 := by rw [flRow_length, hpf]
        have e0 : qaRow ⟨kd, ⟨ci, cv, cl, cf⟩, ⟨pm, pl, pf⟩⟩ = [.int .i64 kd, .int .i64 ci, .int .i64 cv, .int .u32 cl] ++ (flRow cf ++ (.int .u32 pm :: .int .u32 pl :: flRow pf)) := by simp [qaRow, cdRow, ptRow]
        have e1 : qaRow ⟨kd, ⟨ci, cv, cl, cf⟩, ⟨pm, pl, pf⟩⟩ = ([.int .i64 kd, .int .i64 ci, .int .i64 cv, .int .u32 cl] ++ flRow cf ++ [.int .u32 pm, .int .u32 pl]) ++ (flRow pf ++ []) := by simp [qaRow, cdRow, ptRow]
        have r1 := range_part (by rw [e0] at hrg; exact hrg)
        have r2 := range_part (by rw [e1] at hrg; exact hrg)
        have q1 : w.cell? ⟨g1, o1 + k * 54 + 2, none⟩ = some (.int .i64 cv) := hrg 2 _ rfl
        simp only [List.length_append, List.length_cons, List.length_nil, l1, Nat.reduceAdd] at r1 r2
        have hcv := hxi.c.ver
        simp only at hcv
        rw [QAc.bad] at hnx hall
        simp only at hnx hall
        clear hrg e0 e1 hxi
        generalize largeF cf = b1 at *
        generalize largeF pf = b2 at *
        generalize hb3 : decide (cv < 0) = b3 at *
        generalize hb4 : decide (1099511627776 < cv) = b4 at *
        generalize flRow cf = RC at *
        generalize flRow pf = RP at *
        replace cL1 := Lib.hid cL1
        replace cL2 := Lib.hid cL2
        have hcase : b1 = true ∨ b1 = false ∧ b2 = true ∨ b1 = false ∧ b2 = false ∧ b3 = true ∨ b1 = false ∧ b2 = false ∧ b3 = false ∧ b4 = true ∨ b1 = false ∧ b2 = false ∧ b3 = false ∧ b4 = false := by
          cases b1 <;> cases b2 <;> cases b3 <;> cases b4 <;> simp
        rcases hcase with rfl | ⟨rfl, rfl⟩ | ⟨rfl, rfl, rfl⟩ | ⟨rfl, rfl, rfl, rfl⟩ | ⟨rfl, rfl, rfl, rfl⟩
        · have hRt := hall (by simp)
          subst hRt
          clear hall hnx
          go_wp2_with (first | (go_at_call 8; (with_reducible refine (cL1.out _).mono ?_); rintro _ w9 ⟨rfl, hk9⟩; have hS1 := hS.keepB hk9; clear hk9 hS; have hS := hS1; clear hS1; have q2 := hS.old q1 (by simp)) | (go_at_call 8; (with_reducible refine (cL2.out _).mono ?_); rintro _ w9 ⟨rfl, hk9⟩; have hS1 := hS.keepB hk9; clear hk9 hS; have hS := hS1; clear hS1; have q2 := hS.old q1 (by simp)) | (with_reducible refine wpList_rangerow (n := 24) (range_old hS r1) rfl rfl rfl (by kernel_rfl) (by kernel_rfl) l1 ?_) | (with_reducible refine wpList_grangerow (n := 24) (range_old hS r2) (by with_unfolding_all rfl) rfl rfl (by kernel_rfl) (by kernel_rfl) l2 ?_))
          go_ret
          exact ⟨rfl, hS.below⟩
        · have hRt := hall (by simp)
          subst hRt
          clear hall hnx
          go_wp2_with (first | (go_at_call 8; (with_reducible refine (cL1.out _).mono ?_); rintro _ w9 ⟨rfl, hk9⟩; have hS1 := hS.keepB hk9; clear hk9 hS; have hS := hS1; clear hS1; have q2 := hS.old q1 (by simp)) | (go_at_call 8; (with_reducible refine (cL2.out _).mono ?_); rintro _ w9 ⟨rfl, hk9⟩; have hS1 := hS.keepB hk9; clear hk9 hS; have hS := hS1; clear hS1; have q2 := hS.old q1 (by simp)) | (with_reducible refine wpList_rangerow (n := 24) (range_old hS r1) rfl rfl rfl (by kernel_rfl) (by kernel_rfl) l1 ?_) | (with_reducible refine wpList_grangerow (n := 24) (range_old hS r2) (by with_unfolding_all rfl) rfl rfl (by kernel_rfl) (by kernel_rfl) l2 ?_))
          go_ret
          exact ⟨rfl, hS.below⟩
        · have hRt := hall (by simp)
          subst hRt
          clear hall hnx
          go_wp2_with (first | (go_at_call 8; (with_reducible refine (cL1.out _).mono ?_); rintro _ w9 ⟨rfl, hk9⟩; have hS1 := hS.keepB hk9; clear hk9 hS; have hS := hS1; clear hS1; have q2 := hS.old q1 (by simp)) | (go_at_call 8; (with_reducible refine (cL2.out _).mono ?_); rintro _ w9 ⟨rfl, hk9⟩; have hS1 := hS.keepB hk9; clear hk9 hS; have hS := hS1; clear hS1; have q2 := hS.old q1 (by simp)) | (with_reducible refine wpList_rangerow (n := 24) (range_old hS r1) rfl rfl rfl (by kernel_rfl) (by kernel_rfl) l1 ?_) | (with_reducible refine wpList_grangerow (n := 24) (range_old hS r2) (by with_unfolding_all rfl) rfl rfl (by kernel_rfl) (by kernel_rfl) l2 ?_))
          go_ret
          exact ⟨rfl, hS.below⟩
        · have hRt := hall (by simp)
          subst hRt
          clear hall hnx
          go_wp2_with (first | (go_at_call 8; (with_reducible refine (cL1.out _).mono ?_); rintro _ w9 ⟨rfl, hk9⟩; have hS1 := hS.keepB hk9; clear hk9 hS; have hS := hS1; clear hS1; have q2 := hS.old q1 (by simp)) | (go_at_call 8; (with_reducible refine (cL2.out _).mono ?_); rintro _ w9 ⟨rfl, hk9⟩; have hS1 := hS.keepB hk9; clear hk9 hS; have hS := hS1; clear hS1; have q2 := hS.old q1 (by simp)) | (with_reducible refine wpList_rangerow (n := 24) (range_old hS r1) rfl rfl rfl (by kernel_rfl) (by kernel_rfl) l1 ?_) | (with_reducible refine wpList_grangerow (n := 24) (range_old hS r2) (by with_unfolding_all rfl) rfl rfl (by kernel_rfl) (by kernel_rfl) l2 ?_))
          go_ret
          exact ⟨rfl, hS.below⟩
        · replace hnx := Lib.hid hnx
          clear hall
          go_wp2_with (first | (go_at_call 8; (with_reducible refine (cL1.out _).mono ?_); rintro _ w9 ⟨rfl, hk9⟩; have hS1 := hS.keepB hk9; clear hk9 hS; have hS := hS1; clear hS1; have q2 := hS.old q1 (by simp)) | (go_at_call 8; (with_reducible refine (cL2.out _).mono ?_); rintro _ w9 ⟨rfl, hk9⟩; have hS1 := hS.keepB hk9; clear hk9 hS; have hS := hS1; clear hS1; have q2 := hS.old q1 (by simp)) | (with_reducible refine wpList_rangerow (n := 24) (range_old hS r1) rfl rfl rfl (by kernel_rfl) (by kernel_rfl) l1 ?_) | (with_reducible refine wpList_grangerow (n := 24) (range_old hS r2) (by with_unfolding_all rfl) rfl rfl (by kernel_rfl) (by kernel_rfl) l2 ?_))
          go_roundg (n - (k + 1))
          case measure => omega
          case rel => exact ⟨k + 1, by omega, by go_num, hnx, hS⟩
      · obtain rfl : k = n := by omega
        have hr2 := hr.out
        rw [List.take_of_length_le (by rw [hn.out]; exact Nat.le_refl _), ← hR2.out] at hr2
        subst hr2
        go_wp2_with fail
        go_ret
        exact ⟨rfl, hS.below⟩
end Go.Proofs.YtplgpbbghhlbjaaDoor
end

section
/- The chapter's example. -/
set_option linter.unusedSimpArgs false
set_option linter.unusedVariables false
namespace Go.Proofs.YtplgpbbghhlbjaaDoor
open Go.RowKit Go.Ofp
set_option linter.unusedVariables false
set_option maxRecDepth 100000
set_option maxHeartbeats 4000000
def exP44 : Pt := ⟨1, 0, noF⟩
def exL1 : List Wr := [⟨1, 4, exP44⟩]
def exL2 : List Wr := [⟨1, 4, exP44⟩, ⟨1, 5, exP44⟩]
theorem ex_push1 : pushQ [] ⟨1, 4, 0, noF⟩ exP44 = (exL1, 0) := by decide
theorem ex_push2 : pushQ exL1 ⟨1, 4, 0, noF⟩ exP44 = (exL2, 0) := by decide
theorem ex_done : doneQ exL2 false = ([], exL2) := by decide
theorem awake44_any (w : World) : Calls Tryd.prog 31 #[] w fun e w' => e = .returned (.bool true) ∧ Below w.heap.size w w' := by
  have hS := St.start w
  have ec := elem_card
  have cP : ∀ (W : World), Calls Tryd.prog 32 #[.slice none 0 0, .agg #[.int .i64 1, .int .i64 4, .int .u32 0, .int .i64 0, .int .i64 0, .string ⟨#[]⟩, .int .i64 0, .int .i64 0, .string ⟨#[]⟩, .int .i64 0, .int .i64 0, .string ⟨#[]⟩, .int .i64 0, .int .i64 0, .string ⟨#[]⟩, .int .i64 0, .int .i64 0, .string ⟨#[]⟩, .int .i64 0, .int .i64 0, .string ⟨#[]⟩, .int .i64 0, .int .i64 0, .string ⟨#[]⟩, .int .i64 0, .int .i64 0, .string ⟨#[]⟩], .agg #[.int .u32 1, .int .u32 0, .int .i64 0, .int .i64 0, .string ⟨#[]⟩, .int .i64 0, .int .i64 0, .string ⟨#[]⟩, .int .i64 0, .int .i64 0, .string ⟨#[]⟩, .int .i64 0, .int .i64 0, .string ⟨#[]⟩, .int .i64 0, .int .i64 0, .string ⟨#[]⟩, .int .i64 0, .int .i64 0, .string ⟨#[]⟩, .int .i64 0, .int .i64 0, .string ⟨#[]⟩, .int .i64 0, .int .i64 0, .string ⟨#[]⟩]] W fun e w' => ∃ a' c', e = .returned (.tuple #[.slice a' 1 c', .int .i64 0]) ∧ SlQ w' a' c' exL1 ∧ Below W.heap.size W w' := by
    intro W
    have h := push_any ⟨1, 4, 0, noF⟩ rfl exP44 rfl (by decide) (by decide) [] (by simp) (by simp) none 0 0 rfl W (SlQ.none W)
    rw [ex_push1] at h
    exact h
  have cQ : ∀ (a : Option Addr) (c : Nat) (W : World) (h : SlQ W a c exL1), Calls Tryd.prog 32 #[.slice a 1 c, .agg #[.int .i64 1, .int .i64 4, .int .u32 0, .int .i64 0, .int .i64 0, .string ⟨#[]⟩, .int .i64 0, .int .i64 0, .string ⟨#[]⟩, .int .i64 0, .int .i64 0, .string ⟨#[]⟩, .int .i64 0, .int .i64 0, .string ⟨#[]⟩, .int .i64 0, .int .i64 0, .string ⟨#[]⟩, .int .i64 0, .int .i64 0, .string ⟨#[]⟩, .int .i64 0, .int .i64 0, .string ⟨#[]⟩, .int .i64 0, .int .i64 0, .string ⟨#[]⟩], .agg #[.int .u32 1, .int .u32 0, .int .i64 0, .int .i64 0, .string ⟨#[]⟩, .int .i64 0, .int .i64 0, .string ⟨#[]⟩, .int .i64 0, .int .i64 0, .string ⟨#[]⟩, .int .i64 0, .int .i64 0, .string ⟨#[]⟩, .int .i64 0, .int .i64 0, .string ⟨#[]⟩, .int .i64 0, .int .i64 0, .string ⟨#[]⟩, .int .i64 0, .int .i64 0, .string ⟨#[]⟩, .int .i64 0, .int .i64 0, .string ⟨#[]⟩]] W fun e w' => ∃ a' c', e = .returned (.tuple #[.slice a' 2 c', .int .i64 0]) ∧ SlQ w' a' c' exL2 ∧ Below W.heap.size W w' := by
    intro a c W h
    have h := push_any ⟨1, 4, 0, noF⟩ rfl exP44 rfl (by decide) (by decide) exL1 (by intro q hq; simp [exL1] at hq; subst hq; rfl) (by intro q hq; simp [exL1] at hq; subst hq; decide) a 1 c rfl W h
    rw [ex_push2] at h
    exact h
  have cD : ∀ (a : Option Addr) (c : Nat) (W : World) (h : SlQ W a c exL2), Calls Tryd.prog 36 #[.slice a 2 c, .bool false] W fun e w' => ∃ a1 c1 a2 c2, e = .returned (.tuple #[.slice a1 0 c1, .slice a2 2 c2]) ∧ Below W.heap.size W w' := by
    intro a c W h
    have h := qdone_any exL2 false (by intro q hq; simp [exL2] at hq; rcases hq with rfl | rfl <;> rfl) a 2 c rfl (by decide) W h
    unfold DoneRet at h
    rw [ex_done] at h
    exact h.mono fun e w' ⟨a1, c1, a2, c2, h1, _, _, h2⟩ => ⟨a1, c1, a2, c2, h1, h2⟩
  have cells : ∀ (a : Option Addr) (c : Nat) (W : World) (h : SlQ W a c exL2), ∃ b o, a = some ⟨b, o, none⟩ ∧ ∀ W', Below W.heap.size W W' → W'.cell? ⟨b, o + 1, none⟩ = some (.int .i64 4) ∧ W'.cell? ⟨b, o + 29, none⟩ = some (.int .i64 5) := by
    intro a c W h
    obtain ⟨b, o, ha⟩ := Sl.cells h.1 (by intro e; cases e)
    cases ha
    refine ⟨b, o, rfl, fun W' hb => ?_⟩
    have hs := h.1.below hb
    have h1 := hs.add 1 _ rfl
    have h2 := hs.add 29 _ rfl
    rw [Addr.add_lit] at h1 h2
    exact ⟨h1, h2⟩
  replace cP := Lib.hid cP
  replace cQ := Lib.hid cQ
  replace cD := Lib.hid cD
  replace cells := Lib.hid cells
  go_enter Tryd.func31, Tryd.ntmps31
  go_wp2_with (first
    | (go_at_call 32; (with_reducible refine (cP.out _).mono ?_); rintro _ w9 ⟨a9, c9, rfl, hq9, hk9⟩; have hS1 := hS.keepB hk9; clear hk9 hS; have hS := hS1; clear hS1)
    | (go_at_call 32; (with_reducible refine (cQ.out _ _ _ hq9).mono ?_); rintro _ w8 ⟨a8, c8, rfl, hq8, hk9⟩; have hS1 := hS.keepB hk9; clear hk9 hS; have hS := hS1; clear hS1)
    | (go_at_call 36; (with_reducible refine (cD.out _ _ _ hq8).mono ?_); rintro _ w7 ⟨a7, c7, a6, c6, rfl, hk9⟩; obtain ⟨b8, o8, rfl, hcl⟩ := cells.out _ _ _ hq8; obtain ⟨y1, y2⟩ := hcl _ hk9; clear hcl; have hS1 := hS.keepB hk9; clear hk9 hS; have hS := hS1; clear hS1)
    | (with_reducible refine wpList_box_st hS rfl rfl rfl ?_; intro g1 w1 hS1; clear hS; replace hS := hS1; clear hS1) | (with_reducible refine wpList_box1_st hS rfl rfl rfl ?_; intro g1 w1 hS1; clear hS; replace hS := hS1; clear hS1) | (with_reducible refine wpList_alloc_st hS rfl rfl (by assumption) ?_; intro g1 w1 hS1; clear hS; replace hS := hS1; clear hS1) | (with_reducible refine wpList_alloc1_st hS rfl rfl (by assumption) rfl ?_; intro g1 w1 hS1; clear hS; replace hS := hS1; clear hS1) | ((with_reducible refine wpList_load_st 0 hS rfl rfl rfl rfl ?_ rfl ?_); focus (simp [scalarB, go_sem]; done)) | ((with_reducible refine wpList_loadall_st 0 hS rfl rfl rfl rfl ?_ (by kernel_rfl) ?_); focus (simp [rowB, go_sem]; done)) | ((with_reducible refine wpList_store_st 0 hS rfl rfl rfl rfl (by kernel_rfl) rfl rfl ?_); intro w1 hS1; clear hS; replace hS := hS1; clear hS1; try simp only [List.set_cons_zero, List.set_cons_succ, List.setIfInBounds_toArray, List.take_succ_cons, List.take_zero, List.drop_succ_cons, List.drop_zero, List.nil_append, List.cons_append, List.append_nil, List.drop_nil, List.take_nil, List.length_cons, List.length_nil, Nat.zero_add, Nat.add_zero, Nat.reduceAdd] at hS) | ((with_reducible refine wpList_storerow_st 0 hS rfl rfl rfl rfl (by kernel_rfl) rfl rfl rfl rfl ?_); intro w1 hS1; clear hS; replace hS := hS1; clear hS1; try simp only [List.set_cons_zero, List.set_cons_succ, List.setIfInBounds_toArray, List.take_succ_cons, List.take_zero, List.drop_succ_cons, List.drop_zero, List.nil_append, List.cons_append, List.append_nil, List.drop_nil, List.take_nil, List.length_cons, List.length_nil, Nat.zero_add, Nat.add_zero, Nat.reduceAdd] at hS))
  go_ret
  exact ⟨rfl, hS.below⟩
end Go.Proofs.YtplgpbbghhlbjaaDoor
end

section
/- The law QueuePlays: plain facts; writes in old memory. -/
set_option linter.unusedSimpArgs false
set_option linter.unusedVariables false
namespace Go.Ofp
/-- A queue behind i acts. -/
structure QIn (i : Nat) (L : List Wr) : Prop where
  len : L.length ≤ 12
  f : ∀ q ∈ L, q.p.f.length = 8
  mask : ∀ q ∈ L, q.p.mask < 4294967296
  base : ∀ q ∈ L, 0 ≤ q.base ∧ q.base ≤ 1099511627776 + (i : Int)
theorem QIn.nil (i : Nat) : QIn i [] := ⟨by simp, by simp, by simp, by simp⟩
theorem QIn.mono {i j : Nat} {L : List Wr} (h : QIn i L) (hj : i ≤ j) : QIn j L := ⟨h.len, h.f, h.mask, fun q hq => ⟨(h.base q hq).1, by have := (h.base q hq).2; omega⟩⟩
theorem QIn.sub {i : Nat} {L M : List Wr} (h : QIn i L) (hl : M.length ≤ L.length) (hs : ∀ q ∈ M, q ∈ L) : QIn i M :=
  ⟨Nat.le_trans hl h.len, fun q hq => h.f q (hs q hq), fun q hq => h.mask q (hs q hq), fun q hq => h.base q (hs q hq)⟩
theorem QIn.bounds {i : Nat} {L : List Wr} (h : QIn i L) (hi : i ≤ 60) : ∀ q ∈ L, -4611686018427387904 ≤ q.base ∧ q.base ≤ 4611686018427387904 := fun q hq => by
  have := h.base q hq
  omega
theorem nextBase_in {i : Nat} {L : List Wr} (h : QIn i L) (b : Int) (hb : 0 ≤ b ∧ b ≤ 1099511627776) : 0 ≤ nextBase b L ∧ nextBase b L ≤ 1099511627776 + ((i + 1 : Nat) : Int) := by
  rcases List.eq_nil_or_concat L with rfl | ⟨L', q, rfl⟩
  · simp [nextBase]; omega
  · rw [List.concat_eq_append, nextBase_snoc]
    have := h.base q (by simp)
    omega
theorem QIn.push {i : Nat} {L : List Wr} (h : QIn i L) (c : Cd) (p : Pt) (hc : 0 ≤ c.ver ∧ c.ver ≤ 1099511627776) (hp : p.f.length = 8) (hm : p.mask < 4294967296) : QIn (i + 1) (pushQ L c p).1 := by
  unfold pushQ
  split
  · exact QIn.nil _
  · split
    · exact QIn.nil _
    · have hb := nextBase_in (h.sub (M := ofId L c.id) (List.length_filter_le _ _) (fun q hq => (List.mem_filter.1 hq).1)) c.ver hc
      refine ⟨by simp; omega, ?_, ?_, ?_⟩
      · intro q hq
        rcases List.mem_append.1 hq with hq | hq
        · exact h.f q hq
        · simp at hq; subst hq; exact hp
      · intro q hq
        rcases List.mem_append.1 hq with hq | hq
        · exact h.mask q hq
        · simp at hq; subst hq; exact hm
      · intro q hq
        rcases List.mem_append.1 hq with hq | hq
        · have := h.base q hq; omega
        · simp at hq; subst hq; exact hb
theorem QIn.done1 {i : Nat} {L : List Wr} (h : QIn i L) (ok : Bool) : QIn i (doneQ L ok).1 := by
  cases L with
  | nil => exact QIn.nil _
  | cons q t =>
    cases ok with
    | true => exact h.sub (by simp [doneQ]) (fun x hx => by simp [doneQ] at hx; simp [hx])
    | false => exact h.sub (List.length_filter_le _ _) (fun x hx => (List.mem_filter.1 hx).1)
theorem QIn.done2 {i : Nat} {L : List Wr} (h : QIn i L) (ok : Bool) : QIn i (doneQ L ok).2 := by
  cases L with
  | nil => exact QIn.nil _
  | cons q t =>
    cases ok with
    | true => exact QIn.nil _
    | false => exact h.sub (List.length_filter_le _ _) (fun x hx => (List.mem_filter.1 hx).1)
end Go.Ofp
namespace Go.Proofs.YtplgpbbghhlbjaaDoor
open Go.RowKit Go.Ofp
/-- Queues that lie there. -/
def Qs (w : World) (X : List (Option Addr × Nat × List Wr)) : Prop := ∀ x ∈ X, SlQ w x.1 x.2.1 x.2.2
theorem Qs.nil (w : World) : Qs w [] := by simp [Qs]
theorem Qs.below {w w' : World} {X : List (Option Addr × Nat × List Wr)} (h : Qs w X) (hb : Below w.heap.size w w') : Qs w' X := fun x hx => (h x hx).below hb
theorem Qs.cons {w : World} {X : List (Option Addr × Nat × List Wr)} {a : Option Addr} {c : Nat} {l : List Wr} (h : Qs w X) (hs : SlQ w a c l) : Qs w ((a, c, l) :: X) := by
  intro x hx
  rcases List.mem_cons.1 hx with rfl | hx
  · exact hs
  · exact h x hx
theorem Qs.get {w : World} {X : List (Option Addr × Nat × List Wr)} {a : Option Addr} {c : Nat} {l : List Wr} (h : Qs w X) (i : Nat) (hi : X[i]? = some (a, c, l)) : SlQ w a c l := h _ (List.mem_of_getElem? hi)
theorem Qs.sl {w : World} {X : List (Option Addr × Nat × List Wr)} {a : Option Addr} {c : Nat} {l : List Wr} (h : Qs w X) (i : Nat) (hi : X[i]? = some (a, c, l)) : Sl w a (qRow l) := (h.get i hi).1
end Go.Proofs.YtplgpbbghhlbjaaDoor
end

section
/- The reference's queue: Show. -/
set_option linter.unusedSimpArgs false
set_option linter.unusedVariables false
namespace Go.Ofp
end Go.Ofp
namespace Go.Proofs.YtplgpbbghhlbjaaDoor
open Go.RowKit Go.Ofp
set_option linter.unusedVariables false
set_option maxRecDepth 100000
set_option maxHeartbeats 4000000

theorem rshow_any (c : Cd) (hc : c.f.length = 8) (hv : 0 ≤ c.ver ∧ c.ver ≤ 1099511627776) (l : List Wr) (hl : ∀ q ∈ l, q.p.f.length = 8) (hlm : ∀ q ∈ l, q.p.mask < 4294967296) (a : Option Addr) (n cap : Nat) (hn : l.length = n) (hn1 : n ≤ 1000) (w : World) (hs : Sl w a (qRow l)) :
    Calls Tryd.prog 41 #[.agg (cdRow c).toArray, .slice a n cap] w fun e w' => e = .returned (.agg (cdRow (showQ c l)).toArray) ∧ Below w.heap.size w w' := by
  have hS := St.start w
  have ec := elem_card
  generalize hR : showQ c l = R
  have hok := fun k => mergeAll_ok c (ofId (l.take k) c.id) hv.1 hc
  have hcl : (cdRow c).length = 27 := by simp [cdRow, flRow_length, hc]
  have hsz : sizeB Tryd.prog 27 (cdRow c).toArray.size = true := by rw [List.size_toArray, hcl]; kernel_rfl
  have ho := cdRow_one2 c
  obtain ⟨id, ver, lab, f⟩ := c
  replace hR := Lib.hid hR
  replace hs := Lib.hid hs
  replace hl := Lib.hid hl
  replace hlm := Lib.hid hlm
  replace hn := Lib.hid hn
  replace hok := Lib.hid hok
  have hrow : cdRow ⟨id, ver, lab, f⟩ = .int .i64 id :: .int .i64 ver :: .int .u32 lab :: flRow f := rfl
  rw [hrow] at hcl hsz ho ⊢
  go_enter Tryd.func41, Tryd.ntmps41
  go_wp2_with (first
    | (with_reducible refine wpList_box_st (L := []) hS rfl rfl rfl ?_; intro b2 w1 hS1; clear hS; have hS := hS1; clear hS1)
    | (with_reducible refine wpList_alloc_st (L := [_]) hS rfl rfl ec ?_; intro b4 w1 hS1; clear hS; have hS := hS1; clear hS1)
    | (with_reducible refine wpList_alloc_st (L := [_, _]) hS rfl rfl ec ?_; intro b5 w1 hS1; clear hS; have hS := hS1; clear hS1)
    | ((with_reducible refine wpList_loadall_st 1 hS rfl rfl rfl rfl ?_ hsz ?_); focus (simp [rowB, go_sem]; done))
    | ((with_reducible refine wpList_storerow_st (n := 27) (vs := Value.int .i64 id :: .int .i64 ver :: .int .u32 lab :: flRow f) 0 hS rfl rfl rfl rfl (by kernel_rfl) rfl hcl ho (by kernel_rfl) ?_); intro w1 hS1; clear hS; have hS := hS1; clear hS1; simp only [List.set_cons_zero, List.take_zero, List.nil_append, List.drop_succ_cons, List.drop_zero, List.drop_nil, List.append_nil] at hS))
  go_loopg [6] n (fun gk vx wr => ∃ k : Nat, k + gk = n ∧ vx = .int .i64 k ∧ ∃ x : Cd, Hid (x = mergeAll ⟨id, ver, lab, f⟩ (ofId (l.take k) id)) ∧ St w [] [Ch.blk b5 27 (Value.int .i64 x.id :: .int .i64 ver :: .int .u32 x.lab :: flRow x.f).toArray, Ch.blk b4 27 #[.int .i64 0, .int .i64 0, .int .u32 0, .int .i64 0, .int .i64 0, .string ⟨#[]⟩, .int .i64 0, .int .i64 0, .string ⟨#[]⟩, .int .i64 0, .int .i64 0, .string ⟨#[]⟩, .int .i64 0, .int .i64 0, .string ⟨#[]⟩, .int .i64 0, .int .i64 0, .string ⟨#[]⟩, .int .i64 0, .int .i64 0, .string ⟨#[]⟩, .int .i64 0, .int .i64 0, .string ⟨#[]⟩, .int .i64 0, .int .i64 0, .string ⟨#[]⟩], Ch.blk b2 27 (Value.int .i64 id :: .int .i64 ver :: .int .u32 lab :: flRow f).toArray] wr)
  case atStart => exact ⟨0, Nat.zero_add _, rfl, ⟨id, ver, lab, f⟩, Lib.hid rfl, hS⟩
  case round =>
    clear hS
    obtain ⟨k, hkn, rfl, x, hx, hS⟩ := hrel
    by_cases hlt : k < n
    · have hkl : k < l.length := by rw [hn.out]; exact hlt
      have q1 := qRow_at l hl.out k hkl
      obtain ⟨g1, o1, ha⟩ := Sl.cells hs.out (by intro e; have := congrArg List.length e; rw [qRow_len l hl.out] at this; simp at this; omega)
      subst ha
      have hr := sl_range hs.out q1
      have hq8 := hl.out _ (List.getElem_mem hkl)
      have hqm := hlm.out _ (List.getElem_mem hkl)
      have hnx : ofId (l.take (k + 1)) id = ofId (l.take k) id ++ (if l[k].id = id then [l[k]] else []) := by rw [List.take_succ_eq_append_getElem hkl, ofId_snoc]
      have hxl : x.f.length = 8 := by rw [hx.out]; exact (hok.out k).2
      generalize l[k] = q at *
      obtain ⟨qi, qb, qp⟩ := q
      simp only at hq8 hqm hnx
      have c0 : w.cell? ⟨g1, o1 + k * 28, none⟩ = some (.int .i64 qi) := hr 0 _ rfl
      have hrp : w.rangeAt g1 (o1 + k * 28 + 2) (ptRow qp) := fun j v hj => by have := hr (2 + j) v (by simpa [wrRow, Nat.add_comm] using hj); rwa [← Nat.add_assoc] at this
      have kq := hS.kold0 c0
      have kc := hS.kcell 2 rfl 0 rfl
      simp only [List.getElem_toArray, List.getElem_cons_zero] at kc
      clear q1 hr c0
      by_cases hid : qi = id
      · rw [if_pos hid] at hnx
        subst hid
        have hx1 : (x.merge qp) = mergeAll ⟨qi, ver, lab, f⟩ (ofId (l.take (k + 1)) qi) := by rw [hnx, mergeAll_snoc, ← hx.out]
        replace hx1 := Lib.hid hx1
        replace hnx := Lib.hid hnx
        replace hrp := Lib.hid hrp
        go_wp2_with fail
        refine mixs_begin (by kernel_rfl) hS ?_
        clear hS
        intro w2 hS
        refine mixs_take 0 (v := ?_) rfl (by kernel_rfl) (fun _ _ _ h => h) (by kernel_rfl) (by assumption) (fun s => ?hy) ?_; case hy => (go_simp <;> with_reducible rfl)
        try simp only [List.getElem_toArray, List.getElem_cons_succ, List.getElem_cons_zero, Act.put, List.setIfInBounds_toArray, List.set_cons_zero, List.set_cons_succ]
        refine mixs_take 1 (v := ?_) rfl (by kernel_rfl) (fun _ _ _ h => h) (by kernel_rfl) (by assumption) (fun s => ?hy) ?_; case hy => (go_simp <;> with_reducible rfl)
        try simp only [List.getElem_toArray, List.getElem_cons_succ, List.getElem_cons_zero, Act.put, List.setIfInBounds_toArray, List.set_cons_zero, List.set_cons_succ]
        refine mixs_take 2 (v := ?_) rfl (by kernel_rfl) (fun _ _ _ h => h) (by kernel_rfl) (by assumption) (fun s => ?hy) ?_; case hy => (go_simp <;> with_reducible rfl)
        try simp only [List.getElem_toArray, List.getElem_cons_succ, List.getElem_cons_zero, Act.put, List.setIfInBounds_toArray, List.set_cons_zero, List.set_cons_succ]
        refine mixs_take 3 (v := ?_) rfl (by kernel_rfl) (fun _ _ _ h => h) (by kernel_rfl) (by assumption) (fun s => ?hy) ?_; case hy => (go_simp <;> with_reducible rfl)
        try simp only [List.getElem_toArray, List.getElem_cons_succ, List.getElem_cons_zero, Act.put, List.setIfInBounds_toArray, List.set_cons_zero, List.set_cons_succ]
        refine mixs_take 4 (v := ?_) rfl (by kernel_rfl) (fun _ _ _ h => h) (by kernel_rfl) (by assumption) (fun s => ?hy) ?_; case hy => (go_simp <;> with_reducible rfl)
        try simp only [List.getElem_toArray, List.getElem_cons_succ, List.getElem_cons_zero, Act.put, List.setIfInBounds_toArray, List.set_cons_zero, List.set_cons_succ]
        refine mixs_take 5 (v := ?_) rfl (by kernel_rfl) (fun _ _ _ h => h) (by kernel_rfl) (by assumption) (fun s => ?hy) ?_; case hy => (go_simp <;> with_reducible rfl)
        try simp only [List.getElem_toArray, List.getElem_cons_succ, List.getElem_cons_zero, Act.put, List.setIfInBounds_toArray, List.set_cons_zero, List.set_cons_succ]
        refine mixs_take 6 (v := ?_) rfl (by kernel_rfl) (fun _ _ _ h => h) (by kernel_rfl) (by assumption) (fun s => ?hy) ?_; case hy => (go_simp <;> with_reducible rfl)
        try simp only [List.getElem_toArray, List.getElem_cons_succ, List.getElem_cons_zero, Act.put, List.setIfInBounds_toArray, List.set_cons_zero, List.set_cons_succ]
        refine mixs_take 7 (v := ?_) rfl (by kernel_rfl) (fun _ _ _ h => h) (by kernel_rfl) (by assumption) (fun s => ?hy) ?_; case hy => (go_simp <;> with_reducible rfl)
        try simp only [List.getElem_toArray, List.getElem_cons_succ, List.getElem_cons_zero, Act.put, List.setIfInBounds_toArray, List.set_cons_zero, List.set_cons_succ]
        refine wpAnyH_done (by kernel_rfl) ?_ _
        clear kq kc
        obtain ⟨y, hy⟩ : ∃ y, (x.atVer ver).merge qp = y := ⟨_, rfl⟩
        have cM : ∀ W : World, Calls Tryd.prog 16 #[.agg (Value.int .i64 x.id :: .int .i64 ver :: .int .u32 x.lab :: flRow x.f).toArray, .agg (ptRow qp).toArray] W fun e w' => e = .returned (.agg (Value.int .i64 y.id :: .int .i64 y.ver :: .int .u32 y.lab :: flRow y.f).toArray) ∧ Below W.heap.size W w' := fun W => by
          subst hy
          exact rmg_any (x.atVer ver) qp hqm hv hxl hq8 W
        have hyl : y.f.length = 8 := by subst hy; exact merge_flen _ _ hxl
        have hyrow : (Value.int .i64 y.id :: .int .i64 y.ver :: .int .u32 y.lab :: flRow y.f).length = 27 := by simp [flRow_length, hyl]
        have hyo : (Value.int .i64 y.id :: .int .i64 y.ver :: .int .u32 y.lab :: flRow y.f).all Value.oneCell' = true := cdRow_one2 y
        have hxrow : sizeB Tryd.prog 27 (Value.int .i64 x.id :: .int .i64 ver :: .int .u32 x.lab :: flRow x.f).toArray.size = true := by rw [List.size_toArray, show (Value.int .i64 x.id :: .int .i64 ver :: .int .u32 x.lab :: flRow x.f).length = 27 by simp [flRow_length, hxl]]; kernel_rfl
        have hbl : Nat.ble (0 + 27) (Value.int .i64 x.id :: .int .i64 ver :: .int .u32 x.lab :: flRow x.f).toArray.size = true := Nat.ble_eq_true_of_le (by simp [flRow_length, hxl])
        have hdr : List.drop 24 (flRow x.f) = [] := List.drop_of_length_le (by simp [flRow_length, hxl])
        have hpn : (ptRow qp).length = 26 := by simp [ptRow, flRow_length, hq8]
        have kP := hS.empty.koldrow (P := Tryd.prog) hrp.out (t := 29) (by kernel_rfl) (n := 26) (by kernel_rfl) hpn
        have hend : ∃ x' : Cd, Hid (x' = mergeAll ⟨qi, ver, lab, f⟩ (ofId (l.take (k + 1)) qi)) ∧ x'.id = y.id ∧ x'.lab = y.lab ∧ x'.f = y.f := ⟨x.merge qp, hx1, by subst hy; exact ⟨rfl, rfl, rfl⟩⟩
        replace hend := Lib.hid hend
        replace cM := Lib.hid cM
        clear hy hx hx1 hnx hrp hq8 hqm hxl
        go_wp2_with fail
        refine mixs_beginE (by kernel_rfl) hS ?_
        clear hS
        intro w4 hS hC
        refine mixs_take 1 (v := ?_) rfl (by kernel_rfl) (fun _ _ _ h => h) (by kernel_rfl) (by assumption) (fun s => ?hy) ?_; case hy => (go_simp <;> with_reducible rfl)
        try simp only [List.getElem_toArray, List.getElem_cons_succ, List.getElem_cons_zero, Act.put, List.setIfInBounds_toArray, List.set_cons_zero, List.set_cons_succ]
        refine mixs_take 2 (v := ?_) rfl (by kernel_rfl) (fun _ _ _ h => h) (by kernel_rfl) (by assumption) (fun s => ?hy) ?_; case hy => (go_simp <;> with_reducible rfl)
        try simp only [List.getElem_toArray, List.getElem_cons_succ, List.getElem_cons_zero, Act.put, List.setIfInBounds_toArray, List.set_cons_zero, List.set_cons_succ]
        refine mixs_take 3 (v := ?_) rfl (by kernel_rfl) (fun _ _ _ h => h) (by kernel_rfl) (by assumption) (fun s => ?hy) ?_; case hy => (go_simp <;> with_reducible rfl)
        try simp only [List.getElem_toArray, List.getElem_cons_succ, List.getElem_cons_zero, Act.put, List.setIfInBounds_toArray, List.set_cons_zero, List.set_cons_succ]
        refine mixs_take 4 (v := ?_) rfl (by kernel_rfl) (fun _ _ _ h => h) (by kernel_rfl) (by assumption) (fun s => ?hy) ?_; case hy => (go_simp <;> with_reducible rfl)
        try simp only [List.getElem_toArray, List.getElem_cons_succ, List.getElem_cons_zero, Act.put, List.setIfInBounds_toArray, List.set_cons_zero, List.set_cons_succ]
        refine mixs_take 5 (v := ?_) rfl (by kernel_rfl) (fun _ _ _ h => h) (by kernel_rfl) (by assumption) (fun s => ?hy) ?_; case hy => (refine Eq.trans (take_loadrow s rfl rfl kP) ?_; with_reducible rfl)
        try simp only [List.getElem_toArray, List.getElem_cons_succ, List.getElem_cons_zero, Act.put, List.setIfInBounds_toArray, List.set_cons_zero, List.set_cons_succ]
        refine mixs_one 0 (by kernel_rfl) rfl (fun K hK => ?_)
        (refine op_loadall_st (by kernel_rfl) 0 hS rfl rfl rfl ?_ hxrow ?_; focus (simp [rowB, go_sem]; done))
        try clear hC
        refine hK.out _ _ _ (fun _ h => h) (by first | exact hS | exact hS.drop | exact hS.drop.drop | exact hS.drop.drop.drop | exact hS.drop.drop.drop.drop | exact hS.empty | exact hS.one 0 rfl | exact hS.one 1 rfl | exact hS.one 2 rfl | exact hS.one 3 rfl | exact hS.one 4 rfl | exact hS.one 5 rfl | exact hS.one 6 rfl | exact hS.one 7 rfl | exact hS.one 8 rfl | exact hS.one 9 rfl | exact hS.one 10 rfl | exact hS.one 11 rfl) (fun hC => ?_)
        clear hK K
        try simp only [List.getElem_toArray, List.getElem_cons_succ, List.getElem_cons_zero, Act.put, List.setIfInBounds_toArray, List.set_cons_zero, List.set_cons_succ]
        refine mixs_one 6 (by kernel_rfl) rfl (fun K hK => ?_)
        go_simp
        (go_at_call 16; (with_reducible refine (cM.out _).mono ?_); rintro _ w9 ⟨rfl, hk9⟩; have hS1 := hS.keepB hk9; clear hk9 hS; have hS := hS1; clear hS1)
        try clear hC
        refine hK.out _ _ _ (fun _ h => h) (by first | exact hS | exact hS.drop | exact hS.drop.drop | exact hS.drop.drop.drop | exact hS.drop.drop.drop.drop | exact hS.empty | exact hS.one 0 rfl | exact hS.one 1 rfl | exact hS.one 2 rfl | exact hS.one 3 rfl | exact hS.one 4 rfl | exact hS.one 5 rfl | exact hS.one 6 rfl | exact hS.one 7 rfl | exact hS.one 8 rfl | exact hS.one 9 rfl | exact hS.one 10 rfl | exact hS.one 11 rfl) (fun hC => ?_)
        clear hK K
        try simp only [List.getElem_toArray, List.getElem_cons_succ, List.getElem_cons_zero, Act.put, List.setIfInBounds_toArray, List.set_cons_zero, List.set_cons_succ]
        refine mixs_one 7 (by kernel_rfl) rfl (fun K hK => ?_)
        ((with_reducible refine op_storerow_st (by kernel_rfl) (n := 27) (vs := Value.int .i64 y.id :: .int .i64 y.ver :: .int .u32 y.lab :: flRow y.f) 0 hS rfl rfl rfl (by kernel_rfl) rfl hyrow hyo hbl ?_); intro w1 hS1; clear hS; have hS := hS1; clear hS1; simp only [List.set_cons_zero, List.take_zero, List.nil_append, List.drop_succ_cons, List.drop_zero, List.drop_nil, List.append_nil, hdr] at hS)
        try clear hC
        refine hK.out _ _ _ (fun _ h => h) (by first | exact hS | exact hS.drop | exact hS.drop.drop | exact hS.drop.drop.drop | exact hS.drop.drop.drop.drop | exact hS.empty | exact hS.one 0 rfl | exact hS.one 1 rfl | exact hS.one 2 rfl | exact hS.one 3 rfl | exact hS.one 4 rfl | exact hS.one 5 rfl | exact hS.one 6 rfl | exact hS.one 7 rfl | exact hS.one 8 rfl | exact hS.one 9 rfl | exact hS.one 10 rfl | exact hS.one 11 rfl) (fun hC => ?_)
        clear hK K
        try simp only [List.getElem_toArray, List.getElem_cons_succ, List.getElem_cons_zero, Act.put, List.setIfInBounds_toArray, List.set_cons_zero, List.set_cons_succ]
        refine wpAnyH_done (by kernel_rfl) ?_ _
        clear kP hC
        go_wp2_with (first
          | ((with_reducible refine wpList_load_st 2 hS rfl rfl rfl rfl ?_ rfl ?_); focus (simp [scalarB, go_sem]; done))
          | ((with_reducible refine wpList_store_st 0 hS rfl rfl rfl rfl (by kernel_rfl) rfl rfl ?_); intro w1 hS1; clear hS; have hS := hS1; clear hS1; simp only [List.set_cons_zero, List.set_cons_succ, List.setIfInBounds_toArray] at hS))
        go_roundg (n - (k + 1))
        case measure => omega
        case rel =>
          obtain ⟨x', h1, h2, h3, h4⟩ := hend.out
          refine ⟨k + 1, by omega, by go_num, x', h1, ?_⟩
          rw [h2, h3, h4]
          exact hS
      · rw [if_neg hid, List.append_nil] at hnx
        have hib : (qi == id) = false := by rw [beq_eq_false_iff_ne]; exact hid
        have hx1 : x = mergeAll ⟨id, ver, lab, f⟩ (ofId (l.take (k + 1)) id) := by rw [hnx, ← hx.out]
        replace hx1 := Lib.hid hx1
        clear hid hnx hrp
        go_wp2_with fail
        refine mixs_begin (by kernel_rfl) hS ?_
        clear hS
        intro w2 hS
        refine mixs_take 0 (v := ?_) rfl (by kernel_rfl) (fun _ _ _ h => h) (by kernel_rfl) (by assumption) (fun s => ?hy) ?_; case hy => (go_simp <;> with_reducible rfl)
        try simp only [List.getElem_toArray, List.getElem_cons_succ, List.getElem_cons_zero, Act.put, List.setIfInBounds_toArray, List.set_cons_zero, List.set_cons_succ]
        refine mixs_take 1 (v := ?_) rfl (by kernel_rfl) (fun _ _ _ h => h) (by kernel_rfl) (by assumption) (fun s => ?hy) ?_; case hy => (go_simp <;> with_reducible rfl)
        try simp only [List.getElem_toArray, List.getElem_cons_succ, List.getElem_cons_zero, Act.put, List.setIfInBounds_toArray, List.set_cons_zero, List.set_cons_succ]
        refine mixs_take 2 (v := ?_) rfl (by kernel_rfl) (fun _ _ _ h => h) (by kernel_rfl) (by assumption) (fun s => ?hy) ?_; case hy => (go_simp <;> with_reducible rfl)
        try simp only [List.getElem_toArray, List.getElem_cons_succ, List.getElem_cons_zero, Act.put, List.setIfInBounds_toArray, List.set_cons_zero, List.set_cons_succ]
        refine mixs_take 3 (v := ?_) rfl (by kernel_rfl) (fun _ _ _ h => h) (by kernel_rfl) (by assumption) (fun s => ?hy) ?_; case hy => (go_simp <;> with_reducible rfl)
        try simp only [List.getElem_toArray, List.getElem_cons_succ, List.getElem_cons_zero, Act.put, List.setIfInBounds_toArray, List.set_cons_zero, List.set_cons_succ]
        refine mixs_take 4 (v := ?_) rfl (by kernel_rfl) (fun _ _ _ h => h) (by kernel_rfl) (by assumption) (fun s => ?hy) ?_; case hy => (go_simp <;> with_reducible rfl)
        try simp only [List.getElem_toArray, List.getElem_cons_succ, List.getElem_cons_zero, Act.put, List.setIfInBounds_toArray, List.set_cons_zero, List.set_cons_succ]
        refine mixs_take 5 (v := ?_) rfl (by kernel_rfl) (fun _ _ _ h => h) (by kernel_rfl) (by assumption) (fun s => ?hy) ?_; case hy => (go_simp <;> with_reducible rfl)
        try simp only [List.getElem_toArray, List.getElem_cons_succ, List.getElem_cons_zero, Act.put, List.setIfInBounds_toArray, List.set_cons_zero, List.set_cons_succ]
        refine mixs_take 6 (v := ?_) rfl (by kernel_rfl) (fun _ _ _ h => h) (by kernel_rfl) (by assumption) (fun s => ?hy) ?_; case hy => (go_simp <;> with_reducible rfl)
        try simp only [List.getElem_toArray, List.getElem_cons_succ, List.getElem_cons_zero, Act.put, List.setIfInBounds_toArray, List.set_cons_zero, List.set_cons_succ]
        refine mixs_take 7 (v := ?_) rfl (by kernel_rfl) (fun _ _ _ h => h) (by kernel_rfl) (by assumption) (fun s => ?hy) ?_; case hy => (go_simp <;> with_reducible rfl)
        try simp only [List.getElem_toArray, List.getElem_cons_succ, List.getElem_cons_zero, Act.put, List.setIfInBounds_toArray, List.set_cons_zero, List.set_cons_succ]
        refine wpAnyH_done (by kernel_rfl) ?_ _
        clear kq kc
        go_wp2_with fail
        go_roundg (n - (k + 1))
        case measure => omega
        case rel => exact ⟨k + 1, by omega, by go_num, x, hx1, hS⟩
    · obtain rfl : k = n := by omega
      have hx2 := hx.out
      rw [List.take_of_length_le (by rw [hn.out]; exact Nat.le_refl _)] at hx2
      have hxl : x.f.length = 8 := by rw [hx.out]; exact (hok.out k).2
      have hRr : R = x.atVer ver := by rw [← hR.out, hx2]; rfl
      have hxo : (Value.int .i64 x.id :: .int .i64 ver :: .int .u32 x.lab :: flRow x.f).all Value.oneCell' = true := cdRow_one2 (x.atVer ver)
      have hx27 : (Value.int .i64 x.id :: .int .i64 ver :: .int .u32 x.lab :: flRow x.f).length = 27 := by simp [flRow_length, hxl]
      have hxrow : sizeB Tryd.prog 27 (Value.int .i64 x.id :: .int .i64 ver :: .int .u32 x.lab :: flRow x.f).toArray.size = true := by rw [List.size_toArray, hx27]; kernel_rfl
      replace hRr := Lib.hid hRr
      clear hx2 hx hxl
      go_wp2_with (first
        | ((with_reducible refine wpList_loadall_st 0 hS rfl rfl rfl rfl ?_ hxrow ?_); focus (simp [rowB, go_sem]; done))
        | ((with_reducible refine wpList_storerow_st (n := 27) (vs := Value.int .i64 x.id :: .int .i64 ver :: .int .u32 x.lab :: flRow x.f) 1 hS rfl rfl rfl rfl (by kernel_rfl) rfl hx27 hxo (by kernel_rfl) ?_); intro w1 hS1; clear hS; have hS := hS1; clear hS1; simp only [List.set_cons_zero, List.set_cons_succ, List.take_zero, List.nil_append, List.drop_succ_cons, List.drop_zero, List.drop_nil, List.append_nil] at hS))
      refine bodyPost_ret (results_blk rfl rfl hS 1 rfl ?_ hxrow) rfl ?_
      · simp [rowB, go_sem]
      · refine ⟨?_, hS.below⟩
        rw [hRr.out]
        rfl
end Go.Proofs.YtplgpbbghhlbjaaDoor
end
