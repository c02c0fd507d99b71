/- Texts laid together: St12 StEl ShelfEq ShelfR1 ShelfR2. -/
import Derived.Test.YtneolmnpebiifaaDoorM2
import Derived.Test.YtneolmnpebiifaaDoorM3
import Derived.Test.YtneolmnpebiifaaDoorM6
import Derived.Test.YtneolmnpebiifaaDoorM9
section
/- Pieces change places. -/
set_option linter.unusedSimpArgs false
set_option linter.unusedVariables false
namespace Go.Ofp
open Go.RowKit
namespace St
variable {w0 w w' : World} {F : List Nat} {A B C R L : List Ch} {c : Ch}
end St
end Go.Ofp
end

section
/- A store into an element of a row of the call's own, at an operation of a drawn region. -/
set_option linter.unusedSimpArgs false
set_option linter.unusedVariables false
namespace Go.Ofp
open Go.RowKit
section
variable {P : Program} {w w0 : World} {F : List Nat} {L : List Ch} {ops : Array Oper} {rest : List Oper} {o : Oper} {a : Act} {Q : Exit → Act → World → Prop} {K : Act → World → Prop}
theorem op_storeelemw_st (hw : Region.wanted o (yielded ops a.tmps) = true) (i j : Nat) {e size n c g k : Nat} {xs : List Value} (hS : St w0 F L w) (hi : L[i]? = some (Ch.row e size (.slice (some ⟨g, 0, none⟩) n c) n xs)) {t : TypeId} {x y : Operand} (ho : o.op = .store t x y) (hx : a.eval x = .pointer (some ⟨g, k, none⟩)) (hk : k = j * size)
    (hsz : sizeB P t size = true) {vs : List Value} (hy : a.eval y = .agg vs.toArray) (hl : vs.length = size) (hv : vs.all Value.oneCell' = true) (hj : j < n)
    (h : ∀ w', St w0 F (L.set i (Ch.row e size (.slice (some ⟨g, 0, none⟩) n c) n (xs.take (j * size) ++ vs ++ xs.drop (j * size + size)))) w' → K (a.put o.dst undef) w') : if Region.wanted o (yielded ops a.tmps) = true then Oper.wp P o a w K Q else K (a.put o.dst undef) w := by
  rw [if_pos hw]
  subst hk
  have h3 : (P.info? t).map (·.size) = some size := by simpa [sizeB] using hsz
  obtain ⟨ii, hii, hi1⟩ := Option.map_eq_some_iff.1 h3
  obtain ⟨w', k1, k2, k3⟩ := ownsRow_set (P := P) (hS.get i hi) hj hl (fun v hv' => List.all_eq_true.1 hv v hv')
  have hr : (Instr.storeAt t (.pointer (some ⟨g, j * size, none⟩)) (.agg vs.toArray)).run P w = .ok () w' := by
    simp [Instr.storeAt, Instr.sureAddr, storeVar, sizeOf, typeInfo, hii, hi1, Value.cells, hl, k1]
  unfold Oper.wp execOp
  simp only [ho, hx, hy, Sem.run_bind, hr, Result.andThen_ok, Sem.run_pure]
  exact h _ (hS.upd i hi k3 (by simp [Ch.row, Value.ownBlock]) k2 (by simp [Ch.row, Value.ownBlock]))

end
end Go.Ofp
end

section
/- Deleted cards: which are alike. -/
set_option linter.unusedSimpArgs false
set_option linter.unusedVariables false
namespace Go.Proofs.YtneolmnpebiifaaDoor
open Go.RowKit Go.Ofp
set_option linter.unusedVariables false
set_option maxRecDepth 100000
set_option maxHeartbeats 4000000
theorem eq_dd (d : Nat) (p q : Dd) (w : World) : (Op.equalIn (d + 5) 74 (.agg (ddRow p).toArray) (.agg (ddRow q).toArray)).run Tryd.prog w = .ok (decide (p = q)) w := by
  have hp : Tryd.prog.stoodInHeld 74 = false := by kernel_rfl
  have hff := fields_of Tryd.underlying74
  have hu : Tryd.prog.underlying 74 = some (.struct (Tryd.prog.fieldsOf 74)) := by rw [hff, Tryd.underlying74]
  rw [run_equalIn_struct w (d + 4) _ _ _ hu hp, hff]
  obtain ⟨a1, a2, a3⟩ := p
  obtain ⟨b1, b2, b3⟩ := q
  have h3 := Tryd.underlying3
  have e1 : ∀ x y : Int, (Op.equalIn (d + 4) 3 (.int .i64 x) (.int .i64 y)).run Tryd.prog w = .ok (x == y) w := fun x y => by simp [Op.equalIn, run_underlying h3]
  have p1 := part_i (ddRow ⟨a1, a2, a3⟩) 0 a1 rfl w
  have p2 := part_i (ddRow ⟨a1, a2, a3⟩) 1 a2 rfl w
  have p3 := part_i (ddRow ⟨a1, a2, a3⟩) 2 a3 rfl w
  have q1 := part_i (ddRow ⟨b1, b2, b3⟩) 0 b1 rfl w
  have q2 := part_i (ddRow ⟨b1, b2, b3⟩) 1 b2 rfl w
  have q3 := part_i (ddRow ⟨b1, b2, b3⟩) 2 b3 rfl w
  generalize ddRow ⟨a1, a2, a3⟩ = A at *
  generalize ddRow ⟨b1, b2, b3⟩ = B at *
  simp only [Op.eqFields, ne_eq, String.reduceEq, not_false_eq_true, if_true, Sem.run_bind, p1, q1, e1, Result.andThen_ok]
  by_cases k1 : a1 = b1
  · subst k1
    by_cases k2 : a2 = b2
    · subst k2
      by_cases k3 : a3 = b3
      · subst k3
        simp [p2, p3, q2, q3, e1]
      · simp [p2, p3, q2, q3, e1, k3]
    · simp [p2, q2, e1, k2]
  · simp [k1]
theorem neq_dd (p q : Dd) (w : World) : (binOp .neq 74 (.agg (ddRow p).toArray) (.agg (ddRow q).toArray)).run Tryd.prog w = .ok (.bool (!decide (p = q))) w := by
  rw [run_neq_struct, eq_dd 9995 p q w]
  rfl
theorem guard_dd (op : BinOp) (x y : Operand) (xs ys : Array Value) (w : World) : (eqGuard op 74 x y (.agg xs) (.agg ys)).run Tryd.prog w = .ok () w :=
  run_eqGuard_agg w op _ x y xs ys (by kernel_rfl)

theorem dsame_any (a b : Option Addr) (n m ca cb : Nat) (l k : List Dd) (w : World) (hl : Lst ddRow (fun _ => True) w a n ca l) (hk : Lst ddRow (fun _ => True) w b m cb k) (hn : n ≤ 50000) (hm : m ≤ 50000) :
    Calls Tryd.prog 38 #[.slice a n ca, .slice b m cb] w fun e w' => e = .returned (.bool (decide (l = k))) ∧ Below w.heap.size w w' := by
  have hS := St.start w
  have hG := guard_dd
  have hln := Lib.hid hl.len
  have hkn := Lib.hid hk.len
  have hll := Lib.hid (show ∀ x ∈ l, (ddRow x).length = 3 from fun x hx => rfl)
  have hkl := Lib.hid (show ∀ x ∈ k, (ddRow x).length = 3 from fun x hx => rfl)
  have hlb := Lib.hid (hl.base (by decide) hll.out)
  have hkb := Lib.hid (hk.base (by decide) hkl.out)
  have hE0 := Lib.hid fun (x y : Dd) (hx : x ∈ l) (hy : y ∈ k) (W : World) => neq_dd x y W
  by_cases hnm : n = m
  · subst hnm
    obtain ⟨R, hR⟩ : ∃ R, decide (l = k) = R := ⟨_, rfl⟩
    rw [hR]
    replace hR := Lib.hid hR
    replace hl := Lib.hid hl
    replace hk := Lib.hid hk
    go_enter Tryd.func38, Tryd.ntmps38
    go_wp2_with fail
    go_loopg [5] n (fun gk vx wr => ∃ j : Nat, j + gk = n ∧ vx = .int .i64 j ∧ Hid (l.take j = k.take j) ∧ St w [] [] wr)
    case atStart => exact ⟨0, Nat.zero_add _, rfl, Lib.hid rfl, hS⟩
    case round =>
      clear hS
      obtain ⟨j, hj, rfl, hr, hS⟩ := hrel
      by_cases hlt : j < n
      · have hjl : j < l.length := by rw [hln.out]; exact hlt
        have hjk : j < k.length := by rw [hkn.out]; exact hlt
        obtain ⟨b1, o1, rfl⟩ := hlb.out (by omega)
        obtain ⟨b2, o2, rfl⟩ := hkb.out (by omega)
        have hE := hE0.out l[j] k[j] (List.getElem_mem hjl) (List.getElem_mem hjk)
        have r1 := hl.out.rowb hll.out j hjl
        have r2 := hk.out.rowb hkl.out j hjk
        have l1 := hll.out _ (List.getElem_mem hjl)
        have l2 := hkl.out _ (List.getElem_mem hjk)
        have hsz : sizeB Tryd.prog 74 3 = true := by kernel_rfl
        have kR1 := hS.kold_row (P := Tryd.prog) (t := 74) r1 (by kernel_rfl) hsz l1
        have kR2 := hS.kold_row (P := Tryd.prog) (t := 74) r2 (by kernel_rfl) hsz l2
        clear r1 r2 l1 l2
        by_cases hx : l[j] = k[j]
        · have hr2 : l.take (j + 1) = k.take (j + 1) := by rw [List.take_succ_eq_append_getElem hjl, List.take_succ_eq_append_getElem hjk, hr.out, hx]
          rw [decide_eq_true hx] at hE
          simp only [Bool.not_true] at hE
          replace hr2 := Lib.hid hr2
          clear hx
          generalize ddRow l[j] = R1 at *
          generalize ddRow k[j] = R2 at *
          go_wp2_with fail
          refine mixs_begin (by kernel_rfl) hS ?_
          clear hS
          intro w2 hS
          refine mixs_take 0 (v := ?_) rfl (by kernel_rfl) (fun _ _ _ h => h) (by kernel_rfl) (by assumption) (fun s => ?hy) ?_; case hy => (go_simp <;> with_reducible rfl)
          try simp only [List.getElem_toArray, List.getElem_cons_succ, List.getElem_cons_zero, Act.put, List.setIfInBounds_toArray, List.set_cons_zero, List.set_cons_succ]
          refine mixs_take 1 (v := ?_) rfl (by kernel_rfl) (fun _ _ _ h => h) (by kernel_rfl) (by assumption) (fun s => ?hy) ?_; case hy => (go_simp <;> with_reducible rfl)
          try simp only [List.getElem_toArray, List.getElem_cons_succ, List.getElem_cons_zero, Act.put, List.setIfInBounds_toArray, List.set_cons_zero, List.set_cons_succ]
          refine mixs_take 2 (v := ?_) rfl (by kernel_rfl) (fun _ _ _ h => h) (by kernel_rfl) (by assumption) (fun s => ?hy) ?_; case hy => (go_simp <;> with_reducible rfl)
          try simp only [List.getElem_toArray, List.getElem_cons_succ, List.getElem_cons_zero, Act.put, List.setIfInBounds_toArray, List.set_cons_zero, List.set_cons_succ]
          refine mixs_take 3 (v := ?_) rfl (by kernel_rfl) (fun _ _ _ h => h) (by kernel_rfl) (by assumption) (fun s => ?hy) ?_; case hy => (refine Eq.trans (take_loadrow s rfl rfl kR1) ?_; with_reducible rfl)
          try simp only [List.getElem_toArray, List.getElem_cons_succ, List.getElem_cons_zero, Act.put, List.setIfInBounds_toArray, List.set_cons_zero, List.set_cons_succ]
          refine mixs_take 4 (v := ?_) rfl (by kernel_rfl) (fun _ _ _ h => h) (by kernel_rfl) (by assumption) (fun s => ?hy) ?_; case hy => (go_simp <;> with_reducible rfl)
          try simp only [List.getElem_toArray, List.getElem_cons_succ, List.getElem_cons_zero, Act.put, List.setIfInBounds_toArray, List.set_cons_zero, List.set_cons_succ]
          refine mixs_take 5 (v := ?_) rfl (by kernel_rfl) (fun _ _ _ h => h) (by kernel_rfl) (by assumption) (fun s => ?hy) ?_; case hy => (go_simp <;> with_reducible rfl)
          try simp only [List.getElem_toArray, List.getElem_cons_succ, List.getElem_cons_zero, Act.put, List.setIfInBounds_toArray, List.set_cons_zero, List.set_cons_succ]
          refine mixs_take 6 (v := ?_) rfl (by kernel_rfl) (fun _ _ _ h => h) (by kernel_rfl) (by assumption) (fun s => ?hy) ?_; case hy => (go_simp <;> with_reducible rfl)
          try simp only [List.getElem_toArray, List.getElem_cons_succ, List.getElem_cons_zero, Act.put, List.setIfInBounds_toArray, List.set_cons_zero, List.set_cons_succ]
          refine mixs_take 7 (v := ?_) rfl (by kernel_rfl) (fun _ _ _ h => h) (by kernel_rfl) (by assumption) (fun s => ?hy) ?_; case hy => (refine Eq.trans (take_loadrow s rfl rfl kR2) ?_; with_reducible rfl)
          try simp only [List.getElem_toArray, List.getElem_cons_succ, List.getElem_cons_zero, Act.put, List.setIfInBounds_toArray, List.set_cons_zero, List.set_cons_succ]
          refine mixs_take 8 (v := ?_) rfl (by kernel_rfl) (fun _ _ _ h => h) (by kernel_rfl) (by assumption) (fun s => ?hy) ?_; case hy => (go_simp <;> with_reducible rfl)
          try simp only [List.getElem_toArray, List.getElem_cons_succ, List.getElem_cons_zero, Act.put, List.setIfInBounds_toArray, List.set_cons_zero, List.set_cons_succ]
          refine wpAnyH_done (by kernel_rfl) ?_ _
          clear kR1 kR2
          go_wp2_with fail
          go_roundg (n - (j + 1))
          case measure => omega
          case rel => exact ⟨j + 1, by omega, by go_num, hr2, hS⟩
        · have hR2 : R = false := by
            rw [← hR.out, decide_eq_false_iff_not]
            intro e
            subst e
            exact hx rfl
          rw [decide_eq_false hx] at hE
          simp only [Bool.not_false] at hE
          replace hR2 := Lib.hid hR2
          clear hx
          generalize ddRow l[j] = R1 at *
          generalize ddRow k[j] = R2 at *
          go_wp2_with fail
          refine mixs_begin (by kernel_rfl) hS ?_
          clear hS
          intro w2 hS
          refine mixs_take 0 (v := ?_) rfl (by kernel_rfl) (fun _ _ _ h => h) (by kernel_rfl) (by assumption) (fun s => ?hy) ?_; case hy => (go_simp <;> with_reducible rfl)
          try simp only [List.getElem_toArray, List.getElem_cons_succ, List.getElem_cons_zero, Act.put, List.setIfInBounds_toArray, List.set_cons_zero, List.set_cons_succ]
          refine mixs_take 1 (v := ?_) rfl (by kernel_rfl) (fun _ _ _ h => h) (by kernel_rfl) (by assumption) (fun s => ?hy) ?_; case hy => (go_simp <;> with_reducible rfl)
          try simp only [List.getElem_toArray, List.getElem_cons_succ, List.getElem_cons_zero, Act.put, List.setIfInBounds_toArray, List.set_cons_zero, List.set_cons_succ]
          refine mixs_take 2 (v := ?_) rfl (by kernel_rfl) (fun _ _ _ h => h) (by kernel_rfl) (by assumption) (fun s => ?hy) ?_; case hy => (go_simp <;> with_reducible rfl)
          try simp only [List.getElem_toArray, List.getElem_cons_succ, List.getElem_cons_zero, Act.put, List.setIfInBounds_toArray, List.set_cons_zero, List.set_cons_succ]
          refine mixs_take 3 (v := ?_) rfl (by kernel_rfl) (fun _ _ _ h => h) (by kernel_rfl) (by assumption) (fun s => ?hy) ?_; case hy => (refine Eq.trans (take_loadrow s rfl rfl kR1) ?_; with_reducible rfl)
          try simp only [List.getElem_toArray, List.getElem_cons_succ, List.getElem_cons_zero, Act.put, List.setIfInBounds_toArray, List.set_cons_zero, List.set_cons_succ]
          refine mixs_take 4 (v := ?_) rfl (by kernel_rfl) (fun _ _ _ h => h) (by kernel_rfl) (by assumption) (fun s => ?hy) ?_; case hy => (go_simp <;> with_reducible rfl)
          try simp only [List.getElem_toArray, List.getElem_cons_succ, List.getElem_cons_zero, Act.put, List.setIfInBounds_toArray, List.set_cons_zero, List.set_cons_succ]
          refine mixs_take 5 (v := ?_) rfl (by kernel_rfl) (fun _ _ _ h => h) (by kernel_rfl) (by assumption) (fun s => ?hy) ?_; case hy => (go_simp <;> with_reducible rfl)
          try simp only [List.getElem_toArray, List.getElem_cons_succ, List.getElem_cons_zero, Act.put, List.setIfInBounds_toArray, List.set_cons_zero, List.set_cons_succ]
          refine mixs_take 6 (v := ?_) rfl (by kernel_rfl) (fun _ _ _ h => h) (by kernel_rfl) (by assumption) (fun s => ?hy) ?_; case hy => (go_simp <;> with_reducible rfl)
          try simp only [List.getElem_toArray, List.getElem_cons_succ, List.getElem_cons_zero, Act.put, List.setIfInBounds_toArray, List.set_cons_zero, List.set_cons_succ]
          refine mixs_take 7 (v := ?_) rfl (by kernel_rfl) (fun _ _ _ h => h) (by kernel_rfl) (by assumption) (fun s => ?hy) ?_; case hy => (refine Eq.trans (take_loadrow s rfl rfl kR2) ?_; with_reducible rfl)
          try simp only [List.getElem_toArray, List.getElem_cons_succ, List.getElem_cons_zero, Act.put, List.setIfInBounds_toArray, List.set_cons_zero, List.set_cons_succ]
          refine mixs_take 8 (v := ?_) rfl (by kernel_rfl) (fun _ _ _ h => h) (by kernel_rfl) (by assumption) (fun s => ?hy) ?_; case hy => (go_simp <;> with_reducible rfl)
          try simp only [List.getElem_toArray, List.getElem_cons_succ, List.getElem_cons_zero, Act.put, List.setIfInBounds_toArray, List.set_cons_zero, List.set_cons_succ]
          refine wpAnyH_done (by kernel_rfl) ?_ _
          clear kR1 kR2
          go_wp2_with fail
          go_ret
          exact ⟨by rw [hR2.out]; rfl, hS.below⟩
      · obtain rfl : j = n := by omega
        have hR2 : R = true := by
          rw [← hR.out, decide_eq_true_iff]
          have e1 := hr.out
          rwa [List.take_of_length_le (by rw [hln.out]; exact Nat.le_refl _), List.take_of_length_le (by rw [hkn.out]; exact Nat.le_refl _)] at e1
        replace hR2 := Lib.hid hR2
        go_wp2_with fail
        go_ret
        exact ⟨by rw [hR2.out]; rfl, hS.below⟩
  · have e : decide (l = k) = false := by rw [decide_eq_false_iff_not]; intro e; subst e; exact hnm (hln.out.symm.trans hkn.out)
    have hb : ((n : Int) != (m : Int)) = true := by simp; omega
    rw [e]
    replace hl := Lib.hid hl
    replace hk := Lib.hid hk
    clear hnm e
    go_enter Tryd.func38, Tryd.ntmps38
    go_wp2_with fail
    go_ret
    exact ⟨rfl, hS.below⟩

end Go.Proofs.YtneolmnpebiifaaDoor
end

section
/- The reference's shelf: place, Get. -/
set_option linter.unusedSimpArgs false
set_option linter.unusedVariables false
namespace Go.Ofp
open Go.RowKit
def plV (m : List Cd) (id : Int) : Int := if (lookC m id).isSome then (placeC m id : Int) else -1
theorem lookC_next (m : List Cd) (id : Int) (j : Nat) (hj : j < m.length) (h0 : lookC (m.take j) id = none) : lookC (m.take (j + 1)) id = if m[j].id = id then some m[j] else none := by
  unfold lookC at h0 ⊢
  rw [List.take_succ_eq_append_getElem hj, List.find?_append, h0]
  by_cases e : m[j].id = id
  · simp [e]
  · simp [e]
theorem placeC_of (m : List Cd) (id : Int) (j : Nat) (hj : j < m.length) (h0 : lookC (m.take j) id = none) (he : m[j].id = id) : placeC m id = j ∧ lookC m id = some m[j] := by
  induction m generalizing j with
  | nil => simp at hj
  | cons c r ih =>
    cases j with
    | zero =>
      have he : c.id = id := he
      rw [lookC_cons]
      unfold placeC
      simp [he]
    | succ j =>
      rw [List.take_succ_cons, lookC_cons] at h0
      by_cases hc : c.id = id
      · rw [if_pos hc] at h0; cases h0
      · rw [if_neg hc] at h0
        have := ih j (by simpa using hj) h0 he
        rw [lookC_cons]
        unfold placeC
        rw [if_neg hc, if_neg hc, this.1]
        exact ⟨rfl, this.2⟩
def anyD (l : List Dd) (id : Int) : Bool := l.any fun d => decide (d.id = id)
theorem anyD_next (l : List Dd) (id : Int) (j : Nat) (hj : j < l.length) (h0 : anyD (l.take j) id = false) : anyD (l.take (j + 1)) id = decide (l[j].id = id) := by
  unfold anyD at h0 ⊢
  rw [List.take_succ_eq_append_getElem hj, List.any_append, h0]
  simp
theorem anyD_of (l : List Dd) (id : Int) (j : Nat) (hj : j < l.length) (he : l[j].id = id) : anyD l id = true := List.any_eq_true.2 ⟨l[j], List.getElem_mem hj, by simp [he]⟩
end Go.Ofp
namespace Go.Proofs.YtneolmnpebiifaaDoor
open Go.RowKit Go.Ofp
set_option linter.unusedVariables false
set_option maxRecDepth 100000
set_option maxHeartbeats 4000000
def rsRow (s : ShS) (ca : Option Addr) (cc : Nat) (da : Option Addr) (dc : Nat) : List Value := [.int .i64 s.next, .slice ca s.m.length cc, .slice da s.dead.length dc]
abbrev LC (w : World) (s : ShS) (ca : Option Addr) (cc : Nat) : Prop := Lst cdRow (fun x => x.f.length = 8) w ca s.m.length cc s.m
abbrev LD (w : World) (s : ShS) (da : Option Addr) (dc : Nat) : Prop := Lst ddRow (fun _ => True) w da s.dead.length dc s.dead

theorem splace_any (s : ShS) (ca : Option Addr) (cc : Nat) (da : Option Addr) (dc : Nat) (id : Int) (w : World) (hl : LC w s ca cc) :
    Calls Tryd.prog 43 #[.agg (rsRow s ca cc da dc).toArray, .int .i64 id] w fun e w' => e = .returned (.int .i64 (plV s.m id)) ∧ Below w.heap.size w w' := by
  have hS := St.start w
  obtain ⟨nx, M, D⟩ := s
  have e0 : rsRow ⟨nx, M, D⟩ ca cc da dc = [.int .i64 nx, .slice ca M.length cc, .slice da D.length dc] := rfl
  rw [e0]
  dsimp only [LC] at hl ⊢
  clear e0
  have hlens := Lib.hid (show ∀ y ∈ M, (cdRow y).length = 27 from fun y hy => cdRow_lenT y (hl.mem y hy))
  have hbase := Lib.hid (hl.base (by decide) hlens.out)
  have hnm : M.length ≤ 9223372036854775807 := by have := hl.le; have := hl.cm; unfold maxLen at this; omega
  obtain ⟨V, hV⟩ : ∃ V, plV M id = V := ⟨_, rfl⟩
  rw [hV]
  replace hV := Lib.hid hV
  replace hl := Lib.hid hl
  generalize hn : M.length = n at *
  generalize D.length = dn at *
  replace hn := Lib.hid hn
  go_enter Tryd.func43, Tryd.ntmps43
  go_wp2_with (first
    | (with_reducible refine wpList_box_st (L := []) hS rfl rfl rfl ?_; intro gb w1 hS1; clear hS; have hS := hS1; clear hS1))
  go_loopg [5] n (fun gk vx wr => ∃ j : Nat, j + gk = n ∧ vx = .int .i64 j ∧ Hid (lookC (M.take j) id = none) ∧ St w [] [Ch.blk gb 50 #[.int .i64 nx, .slice ca n cc, .slice da dn dc]] wr)
  case atStart => exact ⟨0, Nat.zero_add _, rfl, Lib.hid rfl, hS⟩
  case round =>
    clear hS
    obtain ⟨j, hj, rfl, hg, hS⟩ := hrel
    by_cases hlt : j < n
    · have hjl : j < M.length := by rw [hn.out]; exact hlt
      obtain ⟨b, off, rfl⟩ := hbase.out (by omega)
      have hrow := hl.out.rowb hlens.out j hjl
      have z0 : w.cell? ⟨b, off + j * 27, none⟩ = some (.int .i64 M[j].id) := by simpa using hrow 0 _ rfl
      have c0 := hS.old z0 (by simp)
      have hnx := lookC_next M id j hjl hg.out
      clear hrow z0
      by_cases he : M[j].id = id
      · have de : (M[j].id == id) = true := by simpa using he
        have hV2 : V = (j : Int) := by
          have := placeC_of M id j hjl hg.out he
          rw [← hV.out]
          unfold plV
          rw [this.1, this.2]
          rfl
        replace hV2 := Lib.hid hV2
        clear he hnx
        generalize M[j].id = idj at *
        go_wp2_with (first | (with_reducible refine wpList_box_st hS rfl rfl rfl ?_; intro g1 w1 hS1; clear hS; replace hS := hS1; clear hS1) | (with_reducible refine wpList_box1_st hS rfl rfl rfl ?_; intro g1 w1 hS1; clear hS; replace hS := hS1; clear hS1) | (with_reducible refine wpList_alloc_st hS rfl rfl (by assumption) ?_; intro g1 w1 hS1; clear hS; replace hS := hS1; clear hS1) | (with_reducible refine wpList_alloc1_st hS rfl rfl (by assumption) rfl ?_; intro g1 w1 hS1; clear hS; replace hS := hS1; clear hS1) | ((with_reducible refine wpList_load_st 0 hS rfl rfl rfl rfl ?_ rfl ?_); focus (simp [scalarB, go_sem]; done)) | ((with_reducible refine wpList_loadall_st 0 hS rfl rfl rfl rfl ?_ (by kernel_rfl) ?_); focus (simp [rowB, go_sem]; done)) | ((with_reducible refine wpList_store_st 0 hS rfl rfl rfl rfl (by kernel_rfl) rfl rfl ?_); intro w1 hS1; clear hS; replace hS := hS1; clear hS1; try simp only [List.set_cons_zero, List.set_cons_succ, List.setIfInBounds_toArray, List.take_succ_cons, List.take_zero, List.drop_succ_cons, List.drop_zero, List.nil_append, List.cons_append, List.append_nil, List.drop_nil, List.take_nil, List.length_cons, List.length_nil, Nat.zero_add, Nat.add_zero, Nat.reduceAdd] at hS) | ((with_reducible refine wpList_storerow_st 0 hS rfl rfl rfl rfl (by kernel_rfl) rfl rfl rfl rfl ?_); intro w1 hS1; clear hS; replace hS := hS1; clear hS1; try simp only [List.set_cons_zero, List.set_cons_succ, List.setIfInBounds_toArray, List.take_succ_cons, List.take_zero, List.drop_succ_cons, List.drop_zero, List.nil_append, List.cons_append, List.append_nil, List.drop_nil, List.take_nil, List.length_cons, List.length_nil, Nat.zero_add, Nat.add_zero, Nat.reduceAdd] at hS))
        go_ret
        exact ⟨by rw [hV2.out]; rfl, hS.below⟩
      · have de : (M[j].id == id) = false := by simpa using he
        rw [if_neg he] at hnx
        replace hnx := Lib.hid hnx
        clear he
        generalize M[j].id = idj at *
        go_wp2_with (first | (with_reducible refine wpList_box_st hS rfl rfl rfl ?_; intro g1 w1 hS1; clear hS; replace hS := hS1; clear hS1) | (with_reducible refine wpList_box1_st hS rfl rfl rfl ?_; intro g1 w1 hS1; clear hS; replace hS := hS1; clear hS1) | (with_reducible refine wpList_alloc_st hS rfl rfl (by assumption) ?_; intro g1 w1 hS1; clear hS; replace hS := hS1; clear hS1) | (with_reducible refine wpList_alloc1_st hS rfl rfl (by assumption) rfl ?_; intro g1 w1 hS1; clear hS; replace hS := hS1; clear hS1) | ((with_reducible refine wpList_load_st 0 hS rfl rfl rfl rfl ?_ rfl ?_); focus (simp [scalarB, go_sem]; done)) | ((with_reducible refine wpList_loadall_st 0 hS rfl rfl rfl rfl ?_ (by kernel_rfl) ?_); focus (simp [rowB, go_sem]; done)) | ((with_reducible refine wpList_store_st 0 hS rfl rfl rfl rfl (by kernel_rfl) rfl rfl ?_); intro w1 hS1; clear hS; replace hS := hS1; clear hS1; try simp only [List.set_cons_zero, List.set_cons_succ, List.setIfInBounds_toArray, List.take_succ_cons, List.take_zero, List.drop_succ_cons, List.drop_zero, List.nil_append, List.cons_append, List.append_nil, List.drop_nil, List.take_nil, List.length_cons, List.length_nil, Nat.zero_add, Nat.add_zero, Nat.reduceAdd] at hS) | ((with_reducible refine wpList_storerow_st 0 hS rfl rfl rfl rfl (by kernel_rfl) rfl rfl rfl rfl ?_); intro w1 hS1; clear hS; replace hS := hS1; clear hS1; try simp only [List.set_cons_zero, List.set_cons_succ, List.setIfInBounds_toArray, List.take_succ_cons, List.take_zero, List.drop_succ_cons, List.drop_zero, List.nil_append, List.cons_append, List.append_nil, List.drop_nil, List.take_nil, List.length_cons, List.length_nil, Nat.zero_add, Nat.add_zero, Nat.reduceAdd] at hS))
        go_roundg (n - (j + 1))
        case measure => omega
        case rel => exact ⟨j + 1, by omega, by go_num, hnx, hS⟩
    · have hV2 : V = -1 := by
        have h := hg.out
        rw [List.take_of_length_le (by rw [hn.out]; omega)] at h
        rw [← hV.out]
        unfold plV
        rw [h]
        rfl
      replace hV2 := Lib.hid hV2
      go_wp2_with (first | (with_reducible refine wpList_box_st hS rfl rfl rfl ?_; intro g1 w1 hS1; clear hS; replace hS := hS1; clear hS1) | (with_reducible refine wpList_box1_st hS rfl rfl rfl ?_; intro g1 w1 hS1; clear hS; replace hS := hS1; clear hS1) | (with_reducible refine wpList_alloc_st hS rfl rfl (by assumption) ?_; intro g1 w1 hS1; clear hS; replace hS := hS1; clear hS1) | (with_reducible refine wpList_alloc1_st hS rfl rfl (by assumption) rfl ?_; intro g1 w1 hS1; clear hS; replace hS := hS1; clear hS1) | ((with_reducible refine wpList_load_st 0 hS rfl rfl rfl rfl ?_ rfl ?_); focus (simp [scalarB, go_sem]; done)) | ((with_reducible refine wpList_loadall_st 0 hS rfl rfl rfl rfl ?_ (by kernel_rfl) ?_); focus (simp [rowB, go_sem]; done)) | ((with_reducible refine wpList_store_st 0 hS rfl rfl rfl rfl (by kernel_rfl) rfl rfl ?_); intro w1 hS1; clear hS; replace hS := hS1; clear hS1; try simp only [List.set_cons_zero, List.set_cons_succ, List.setIfInBounds_toArray, List.take_succ_cons, List.take_zero, List.drop_succ_cons, List.drop_zero, List.nil_append, List.cons_append, List.append_nil, List.drop_nil, List.take_nil, List.length_cons, List.length_nil, Nat.zero_add, Nat.add_zero, Nat.reduceAdd] at hS) | ((with_reducible refine wpList_storerow_st 0 hS rfl rfl rfl rfl (by kernel_rfl) rfl rfl rfl rfl ?_); intro w1 hS1; clear hS; replace hS := hS1; clear hS1; try simp only [List.set_cons_zero, List.set_cons_succ, List.setIfInBounds_toArray, List.take_succ_cons, List.take_zero, List.drop_succ_cons, List.drop_zero, List.nil_append, List.cons_append, List.append_nil, List.drop_nil, List.take_nil, List.length_cons, List.length_nil, Nat.zero_add, Nat.add_zero, Nat.reduceAdd] at hS))
      go_ret
      exact ⟨by rw [hV2.out]; rfl, hS.below⟩

theorem rsget_any (s : ShS) (ca : Option Addr) (cc : Nat) (da : Option Addr) (dc : Nat) (id : Int) (w : World) (hl : LC w s ca cc) (hd : LD w s da dc) :
    Calls Tryd.prog 36 #[.agg (rsRow s ca cc da dc).toArray, .int .i64 id] w fun e w' => e = .returned (sgV (s.get id)) ∧ Below w.heap.size w w' := by
  have hS := St.start w
  have ec := elem_card
  have cP := fun W (hb : Below w.heap.size w W) => splace_any s ca cc da dc id W (hl.below hb)
  have hz0 : cdRow (Cd.none 0) = [.int .i64 0, .int .i64 0, .int .u32 0, .int .i64 0, .int .i64 0, .string ⟨#[]⟩, .int .i64 0, .int .i64 0, .string ⟨#[]⟩, .int .i64 0, .int .i64 0, .string ⟨#[]⟩, .int .i64 0, .int .i64 0, .string ⟨#[]⟩, .int .i64 0, .int .i64 0, .string ⟨#[]⟩, .int .i64 0, .int .i64 0, .string ⟨#[]⟩, .int .i64 0, .int .i64 0, .string ⟨#[]⟩, .int .i64 0, .int .i64 0, .string ⟨#[]⟩] := rfl
  have hgs : ∀ c, lookC s.m id = some c → sgV (s.get id) = .tuple #[.agg (cdRow c).toArray, .int .i64 0] := fun c h => by rw [get_some h]; rfl
  have hgn : lookC s.m id = none → sgV (s.get id) = .tuple #[.agg #[.int .i64 0, .int .i64 0, .int .u32 0, .int .i64 0, .int .i64 0, .string ⟨#[]⟩, .int .i64 0, .int .i64 0, .string ⟨#[]⟩, .int .i64 0, .int .i64 0, .string ⟨#[]⟩, .int .i64 0, .int .i64 0, .string ⟨#[]⟩, .int .i64 0, .int .i64 0, .string ⟨#[]⟩, .int .i64 0, .int .i64 0, .string ⟨#[]⟩, .int .i64 0, .int .i64 0, .string ⟨#[]⟩, .int .i64 0, .int .i64 0, .string ⟨#[]⟩], .int .i64 (if anyD s.dead id = true then 9 else 6)] := fun h => by rw [get_none h, sgV_eq]; rfl
  generalize sgV (s.get id) = V at *
  obtain ⟨nx, M, D⟩ := s
  have e0 : rsRow ⟨nx, M, D⟩ ca cc da dc = [.int .i64 nx, .slice ca M.length cc, .slice da D.length dc] := rfl
  rw [e0] at cP ⊢
  dsimp only [LC, LD] at hl hd hgs hgn cP ⊢
  clear e0
  have hlens := Lib.hid (show ∀ y ∈ M, (cdRow y).length = 27 from fun y hy => cdRow_lenT y (hl.mem y hy))
  have hbase := Lib.hid (hl.base (by decide) hlens.out)
  have hnm : M.length ≤ 9223372036854775807 := by have := hl.le; have := hl.cm; unfold maxLen at this; omega
  have hdlens := Lib.hid (show ∀ y ∈ D, (ddRow y).length = 3 from fun y hy => ddRow_len y)
  have hdbase := Lib.hid (hd.base (by decide) hdlens.out)
  have hdm : D.length ≤ 9223372036854775807 := by have := hd.le; have := hd.cm; unfold maxLen at this; omega
  cases hlk : lookC M id with
  | some c =>
    have hV := Lib.hid (hgs c hlk)
    have hpl : placeC M id < M.length := placeC_lt.2 (by rw [hlk]; rfl)
    have hpe : M[placeC M id] = c := by
      have := placeC_lookC M id
      rw [hlk, List.getElem?_eq_getElem hpl] at this
      exact Option.some.inj this
    have hpv : plV M id = (placeC M id : Int) := by unfold plV; rw [hlk]; rfl
    rw [hpv] at cP
    obtain ⟨b, off, rfl⟩ := hbase.out (by omega)
    have hrow := hl.rowb hlens.out _ hpl
    rw [hpe] at hrow
    have hrl : (cdRow c).length = 27 := by rw [← hpe]; exact hlens.out _ (List.getElem_mem hpl)
    have hone := cdRow_oneT c
    have hsz : sizeB Tryd.prog 38 (cdRow c).toArray.size = true := by rw [List.size_toArray, hrl]; kernel_rfl
    replace hrow := Lib.hid hrow
    replace cP := Lib.hid cP
    clear hgs hgn hl hd hpv hpe hlk
    generalize cdRow c = R at *
    generalize placeC M id = p at *
    generalize M.length = n at *
    generalize D.length = dn at *
    have d0 : decide (0 ≤ (p : Int)) = true := decide_eq_true (by omega)
    go_enter Tryd.func36, Tryd.ntmps36
    go_wp2_with (first
      | (go_at_call 43; (with_reducible refine (cP.out _ hS.below).mono ?_); rintro _ w3 ⟨rfl, hk9⟩; have hS1 := hS.keepB hk9; clear hk9 hS; have hS := hS1; clear hS1)
      | (with_reducible refine wpList_rangerow (t := 38) (n := 27) (range_old hS hrow.out) rfl rfl rfl (by kernel_rfl) (by kernel_rfl) hrl ?_)
      | ((with_reducible refine wpList_storerow_st (t := 38) (n := 27) (vs := R) 0 hS rfl rfl rfl rfl (by kernel_rfl) rfl hrl hone (by kernel_rfl) ?_); intro w1 hS1; clear hS; have hS := hS1; clear hS1; try simp only [List.set_cons_zero, List.set_cons_succ, List.setIfInBounds_toArray, List.take_succ_cons, List.take_zero, List.drop_succ_cons, List.drop_zero, List.nil_append, List.cons_append, List.append_nil, List.drop_nil, List.take_nil, List.length_cons, List.length_nil, Nat.zero_add, Nat.add_zero, Nat.reduceAdd] at hS)
      | (with_reducible refine wpList_box_st hS rfl rfl rfl ?_; intro g1 w1 hS1; clear hS; replace hS := hS1; clear hS1) | (with_reducible refine wpList_box1_st hS rfl rfl rfl ?_; intro g1 w1 hS1; clear hS; replace hS := hS1; clear hS1) | (with_reducible refine wpList_alloc_st hS rfl rfl (by assumption) ?_; intro g1 w1 hS1; clear hS; replace hS := hS1; clear hS1) | (with_reducible refine wpList_alloc1_st hS rfl rfl (by assumption) rfl ?_; intro g1 w1 hS1; clear hS; replace hS := hS1; clear hS1) | ((with_reducible refine wpList_load_st 0 hS rfl rfl rfl rfl ?_ rfl ?_); focus (simp [scalarB, go_sem]; done)) | ((with_reducible refine wpList_loadall_st 0 hS rfl rfl rfl rfl ?_ (by kernel_rfl) ?_); focus (simp [rowB, go_sem]; done)) | ((with_reducible refine wpList_store_st 0 hS rfl rfl rfl rfl (by kernel_rfl) rfl rfl ?_); intro w1 hS1; clear hS; replace hS := hS1; clear hS1; try simp only [List.set_cons_zero, List.set_cons_succ, List.setIfInBounds_toArray, List.take_succ_cons, List.take_zero, List.drop_succ_cons, List.drop_zero, List.nil_append, List.cons_append, List.append_nil, List.drop_nil, List.take_nil, List.length_cons, List.length_nil, Nat.zero_add, Nat.add_zero, Nat.reduceAdd] at hS) | ((with_reducible refine wpList_storerow_st 0 hS rfl rfl rfl rfl (by kernel_rfl) rfl rfl rfl rfl ?_); intro w1 hS1; clear hS; replace hS := hS1; clear hS1; try simp only [List.set_cons_zero, List.set_cons_succ, List.setIfInBounds_toArray, List.take_succ_cons, List.take_zero, List.drop_succ_cons, List.drop_zero, List.nil_append, List.cons_append, List.append_nil, List.drop_nil, List.take_nil, List.length_cons, List.length_nil, Nat.zero_add, Nat.add_zero, Nat.reduceAdd] at hS) | ((with_reducible refine wpList_load_st 1 hS rfl rfl rfl rfl ?_ rfl ?_); focus (simp [scalarB, go_sem]; done)) | ((with_reducible refine wpList_loadall_st 1 hS rfl rfl rfl rfl ?_ (by kernel_rfl) ?_); focus (simp [rowB, go_sem]; done)) | ((with_reducible refine wpList_store_st 1 hS rfl rfl rfl rfl (by kernel_rfl) rfl rfl ?_); intro w1 hS1; clear hS; replace hS := hS1; clear hS1; try simp only [List.set_cons_zero, List.set_cons_succ, List.setIfInBounds_toArray, List.take_succ_cons, List.take_zero, List.drop_succ_cons, List.drop_zero, List.nil_append, List.cons_append, List.append_nil, List.drop_nil, List.take_nil, List.length_cons, List.length_nil, Nat.zero_add, Nat.add_zero, Nat.reduceAdd] at hS) | ((with_reducible refine wpList_storerow_st 1 hS rfl rfl rfl rfl (by kernel_rfl) rfl rfl rfl rfl ?_); intro w1 hS1; clear hS; replace hS := hS1; clear hS1; try simp only [List.set_cons_zero, List.set_cons_succ, List.setIfInBounds_toArray, List.take_succ_cons, List.take_zero, List.drop_succ_cons, List.drop_zero, List.nil_append, List.cons_append, List.append_nil, List.drop_nil, List.take_nil, List.length_cons, List.length_nil, Nat.zero_add, Nat.add_zero, Nat.reduceAdd] at hS))
    rw [hV.out]
    exact bodyPost_ret (v := .tuple #[.agg R.toArray, .int .i64 0]) (results_blk_tmp Tryd.results36 rfl hS 0 rfl (by kernel_rfl) hsz rfl) rfl ⟨rfl, hS.below⟩
  | none =>
    have hV := Lib.hid (hgn hlk)
    have hpv : plV M id = -1 := by unfold plV; rw [hlk]; rfl
    rw [hpv] at cP
    replace cP := Lib.hid cP
    clear hgs hgn hl hpv hlk hlens hbase
    replace hd := Lib.hid hd
    generalize hdn : D.length = dn at *
    replace hdn := Lib.hid hdn
    generalize M.length = n at *
    go_enter Tryd.func36, Tryd.ntmps36
    go_wp2_with (first
      | (go_at_call 43; (with_reducible refine (cP.out _ hS.below).mono ?_); rintro _ w3 ⟨rfl, hk9⟩; have hS1 := hS.keepB hk9; clear hk9 hS; have hS := hS1; clear hS1)
      | (with_reducible refine wpList_box_st (L := []) hS rfl rfl rfl ?_; intro gb w1 hS1; clear hS; have hS := hS1; clear hS1)
      | (with_reducible refine wpList_alloc_st (L := [_]) hS rfl rfl ec ?_; intro gA w1 hS1; clear hS; have hS := hS1; clear hS1)
      | (with_reducible refine wpList_box_st hS rfl rfl rfl ?_; intro g1 w1 hS1; clear hS; replace hS := hS1; clear hS1) | (with_reducible refine wpList_box1_st hS rfl rfl rfl ?_; intro g1 w1 hS1; clear hS; replace hS := hS1; clear hS1) | (with_reducible refine wpList_alloc_st hS rfl rfl (by assumption) ?_; intro g1 w1 hS1; clear hS; replace hS := hS1; clear hS1) | (with_reducible refine wpList_alloc1_st hS rfl rfl (by assumption) rfl ?_; intro g1 w1 hS1; clear hS; replace hS := hS1; clear hS1) | ((with_reducible refine wpList_load_st 0 hS rfl rfl rfl rfl ?_ rfl ?_); focus (simp [scalarB, go_sem]; done)) | ((with_reducible refine wpList_loadall_st 0 hS rfl rfl rfl rfl ?_ (by kernel_rfl) ?_); focus (simp [rowB, go_sem]; done)) | ((with_reducible refine wpList_store_st 0 hS rfl rfl rfl rfl (by kernel_rfl) rfl rfl ?_); intro w1 hS1; clear hS; replace hS := hS1; clear hS1; try simp only [List.set_cons_zero, List.set_cons_succ, List.setIfInBounds_toArray, List.take_succ_cons, List.take_zero, List.drop_succ_cons, List.drop_zero, List.nil_append, List.cons_append, List.append_nil, List.drop_nil, List.take_nil, List.length_cons, List.length_nil, Nat.zero_add, Nat.add_zero, Nat.reduceAdd] at hS) | ((with_reducible refine wpList_storerow_st 0 hS rfl rfl rfl rfl (by kernel_rfl) rfl rfl rfl rfl ?_); intro w1 hS1; clear hS; replace hS := hS1; clear hS1; try simp only [List.set_cons_zero, List.set_cons_succ, List.setIfInBounds_toArray, List.take_succ_cons, List.take_zero, List.drop_succ_cons, List.drop_zero, List.nil_append, List.cons_append, List.append_nil, List.drop_nil, List.take_nil, List.length_cons, List.length_nil, Nat.zero_add, Nat.add_zero, Nat.reduceAdd] at hS) | ((with_reducible refine wpList_load_st 1 hS rfl rfl rfl rfl ?_ rfl ?_); focus (simp [scalarB, go_sem]; done)) | ((with_reducible refine wpList_loadall_st 1 hS rfl rfl rfl rfl ?_ (by kernel_rfl) ?_); focus (simp [rowB, go_sem]; done)) | ((with_reducible refine wpList_store_st 1 hS rfl rfl rfl rfl (by kernel_rfl) rfl rfl ?_); intro w1 hS1; clear hS; replace hS := hS1; clear hS1; try simp only [List.set_cons_zero, List.set_cons_succ, List.setIfInBounds_toArray, List.take_succ_cons, List.take_zero, List.drop_succ_cons, List.drop_zero, List.nil_append, List.cons_append, List.append_nil, List.drop_nil, List.take_nil, List.length_cons, List.length_nil, Nat.zero_add, Nat.add_zero, Nat.reduceAdd] at hS) | ((with_reducible refine wpList_storerow_st 1 hS rfl rfl rfl rfl (by kernel_rfl) rfl rfl rfl rfl ?_); intro w1 hS1; clear hS; replace hS := hS1; clear hS1; try simp only [List.set_cons_zero, List.set_cons_succ, List.setIfInBounds_toArray, List.take_succ_cons, List.take_zero, List.drop_succ_cons, List.drop_zero, List.nil_append, List.cons_append, List.append_nil, List.drop_nil, List.take_nil, List.length_cons, List.length_nil, Nat.zero_add, Nat.add_zero, Nat.reduceAdd] at hS))
    go_loopg [7] dn (fun gk vx wr => ∃ j : Nat, j + gk = dn ∧ vx = .int .i64 j ∧ Hid (anyD (D.take j) id = false) ∧ St w [] [Ch.blk gA 38 #[.int .i64 0, .int .i64 0, .int .u32 0, .int .i64 0, .int .i64 0, .string ⟨#[]⟩, .int .i64 0, .int .i64 0, .string ⟨#[]⟩, .int .i64 0, .int .i64 0, .string ⟨#[]⟩, .int .i64 0, .int .i64 0, .string ⟨#[]⟩, .int .i64 0, .int .i64 0, .string ⟨#[]⟩, .int .i64 0, .int .i64 0, .string ⟨#[]⟩, .int .i64 0, .int .i64 0, .string ⟨#[]⟩, .int .i64 0, .int .i64 0, .string ⟨#[]⟩], Ch.blk gb 50 #[.int .i64 nx, .slice ca n cc, .slice da dn dc]] wr)
    case atStart => exact ⟨0, Nat.zero_add _, rfl, Lib.hid rfl, hS⟩
    case round =>
      clear hS cP
      obtain ⟨j, hj, rfl, hg, hS⟩ := hrel
      by_cases hlt : j < dn
      · have hjl : j < D.length := by rw [hdn.out]; exact hlt
        obtain ⟨b, off, rfl⟩ := hdbase.out (by omega)
        have hrow := hd.out.rowb hdlens.out j hjl
        have z0 : w.cell? ⟨b, off + j * 3, none⟩ = some (.int .i64 D[j].id) := by simpa using hrow 0 _ rfl
        have c0 := hS.old z0 (by simp)
        have hnx := anyD_next D id j hjl hg.out
        clear hrow z0
        by_cases he : D[j].id = id
        · have de : (D[j].id == id) = true := by simpa using he
          have hV2 := hV.out
          rw [anyD_of D id j hjl he, if_pos rfl] at hV2
          replace hV2 := Lib.hid hV2
          clear he hnx
          generalize D[j].id = idj at *
          go_wp2_with (first | (with_reducible refine wpList_box_st hS rfl rfl rfl ?_; intro g1 w1 hS1; clear hS; replace hS := hS1; clear hS1) | (with_reducible refine wpList_box1_st hS rfl rfl rfl ?_; intro g1 w1 hS1; clear hS; replace hS := hS1; clear hS1) | (with_reducible refine wpList_alloc_st hS rfl rfl (by assumption) ?_; intro g1 w1 hS1; clear hS; replace hS := hS1; clear hS1) | (with_reducible refine wpList_alloc1_st hS rfl rfl (by assumption) rfl ?_; intro g1 w1 hS1; clear hS; replace hS := hS1; clear hS1) | ((with_reducible refine wpList_load_st 0 hS rfl rfl rfl rfl ?_ rfl ?_); focus (simp [scalarB, go_sem]; done)) | ((with_reducible refine wpList_loadall_st 0 hS rfl rfl rfl rfl ?_ (by kernel_rfl) ?_); focus (simp [rowB, go_sem]; done)) | ((with_reducible refine wpList_store_st 0 hS rfl rfl rfl rfl (by kernel_rfl) rfl rfl ?_); intro w1 hS1; clear hS; replace hS := hS1; clear hS1; try simp only [List.set_cons_zero, List.set_cons_succ, List.setIfInBounds_toArray, List.take_succ_cons, List.take_zero, List.drop_succ_cons, List.drop_zero, List.nil_append, List.cons_append, List.append_nil, List.drop_nil, List.take_nil, List.length_cons, List.length_nil, Nat.zero_add, Nat.add_zero, Nat.reduceAdd] at hS) | ((with_reducible refine wpList_storerow_st 0 hS rfl rfl rfl rfl (by kernel_rfl) rfl rfl rfl rfl ?_); intro w1 hS1; clear hS; replace hS := hS1; clear hS1; try simp only [List.set_cons_zero, List.set_cons_succ, List.setIfInBounds_toArray, List.take_succ_cons, List.take_zero, List.drop_succ_cons, List.drop_zero, List.nil_append, List.cons_append, List.append_nil, List.drop_nil, List.take_nil, List.length_cons, List.length_nil, Nat.zero_add, Nat.add_zero, Nat.reduceAdd] at hS) | ((with_reducible refine wpList_load_st 1 hS rfl rfl rfl rfl ?_ rfl ?_); focus (simp [scalarB, go_sem]; done)) | ((with_reducible refine wpList_loadall_st 1 hS rfl rfl rfl rfl ?_ (by kernel_rfl) ?_); focus (simp [rowB, go_sem]; done)) | ((with_reducible refine wpList_store_st 1 hS rfl rfl rfl rfl (by kernel_rfl) rfl rfl ?_); intro w1 hS1; clear hS; replace hS := hS1; clear hS1; try simp only [List.set_cons_zero, List.set_cons_succ, List.setIfInBounds_toArray, List.take_succ_cons, List.take_zero, List.drop_succ_cons, List.drop_zero, List.nil_append, List.cons_append, List.append_nil, List.drop_nil, List.take_nil, List.length_cons, List.length_nil, Nat.zero_add, Nat.add_zero, Nat.reduceAdd] at hS) | ((with_reducible refine wpList_storerow_st 1 hS rfl rfl rfl rfl (by kernel_rfl) rfl rfl rfl rfl ?_); intro w1 hS1; clear hS; replace hS := hS1; clear hS1; try simp only [List.set_cons_zero, List.set_cons_succ, List.setIfInBounds_toArray, List.take_succ_cons, List.take_zero, List.drop_succ_cons, List.drop_zero, List.nil_append, List.cons_append, List.append_nil, List.drop_nil, List.take_nil, List.length_cons, List.length_nil, Nat.zero_add, Nat.add_zero, Nat.reduceAdd] at hS))
          rw [hV2.out]
          exact bodyPost_ret (v := .tuple #[.agg #[.int .i64 0, .int .i64 0, .int .u32 0, .int .i64 0, .int .i64 0, .string ⟨#[]⟩, .int .i64 0, .int .i64 0, .string ⟨#[]⟩, .int .i64 0, .int .i64 0, .string ⟨#[]⟩, .int .i64 0, .int .i64 0, .string ⟨#[]⟩, .int .i64 0, .int .i64 0, .string ⟨#[]⟩, .int .i64 0, .int .i64 0, .string ⟨#[]⟩, .int .i64 0, .int .i64 0, .string ⟨#[]⟩, .int .i64 0, .int .i64 0, .string ⟨#[]⟩], .int .i64 9]) (results_blk_tmp Tryd.results36 rfl hS 0 rfl (by kernel_rfl) (by kernel_rfl) rfl) rfl ⟨rfl, hS.below⟩
        · have de : (D[j].id == id) = false := by simpa using he
          rw [decide_eq_false he] at hnx
          replace hnx := Lib.hid hnx
          clear he
          generalize D[j].id = idj at *
          go_wp2_with (first | (with_reducible refine wpList_box_st hS rfl rfl rfl ?_; intro g1 w1 hS1; clear hS; replace hS := hS1; clear hS1) | (with_reducible refine wpList_box1_st hS rfl rfl rfl ?_; intro g1 w1 hS1; clear hS; replace hS := hS1; clear hS1) | (with_reducible refine wpList_alloc_st hS rfl rfl (by assumption) ?_; intro g1 w1 hS1; clear hS; replace hS := hS1; clear hS1) | (with_reducible refine wpList_alloc1_st hS rfl rfl (by assumption) rfl ?_; intro g1 w1 hS1; clear hS; replace hS := hS1; clear hS1) | ((with_reducible refine wpList_load_st 0 hS rfl rfl rfl rfl ?_ rfl ?_); focus (simp [scalarB, go_sem]; done)) | ((with_reducible refine wpList_loadall_st 0 hS rfl rfl rfl rfl ?_ (by kernel_rfl) ?_); focus (simp [rowB, go_sem]; done)) | ((with_reducible refine wpList_store_st 0 hS rfl rfl rfl rfl (by kernel_rfl) rfl rfl ?_); intro w1 hS1; clear hS; replace hS := hS1; clear hS1; try simp only [List.set_cons_zero, List.set_cons_succ, List.setIfInBounds_toArray, List.take_succ_cons, List.take_zero, List.drop_succ_cons, List.drop_zero, List.nil_append, List.cons_append, List.append_nil, List.drop_nil, List.take_nil, List.length_cons, List.length_nil, Nat.zero_add, Nat.add_zero, Nat.reduceAdd] at hS) | ((with_reducible refine wpList_storerow_st 0 hS rfl rfl rfl rfl (by kernel_rfl) rfl rfl rfl rfl ?_); intro w1 hS1; clear hS; replace hS := hS1; clear hS1; try simp only [List.set_cons_zero, List.set_cons_succ, List.setIfInBounds_toArray, List.take_succ_cons, List.take_zero, List.drop_succ_cons, List.drop_zero, List.nil_append, List.cons_append, List.append_nil, List.drop_nil, List.take_nil, List.length_cons, List.length_nil, Nat.zero_add, Nat.add_zero, Nat.reduceAdd] at hS) | ((with_reducible refine wpList_load_st 1 hS rfl rfl rfl rfl ?_ rfl ?_); focus (simp [scalarB, go_sem]; done)) | ((with_reducible refine wpList_loadall_st 1 hS rfl rfl rfl rfl ?_ (by kernel_rfl) ?_); focus (simp [rowB, go_sem]; done)) | ((with_reducible refine wpList_store_st 1 hS rfl rfl rfl rfl (by kernel_rfl) rfl rfl ?_); intro w1 hS1; clear hS; replace hS := hS1; clear hS1; try simp only [List.set_cons_zero, List.set_cons_succ, List.setIfInBounds_toArray, List.take_succ_cons, List.take_zero, List.drop_succ_cons, List.drop_zero, List.nil_append, List.cons_append, List.append_nil, List.drop_nil, List.take_nil, List.length_cons, List.length_nil, Nat.zero_add, Nat.add_zero, Nat.reduceAdd] at hS) | ((with_reducible refine wpList_storerow_st 1 hS rfl rfl rfl rfl (by kernel_rfl) rfl rfl rfl rfl ?_); intro w1 hS1; clear hS; replace hS := hS1; clear hS1; try simp only [List.set_cons_zero, List.set_cons_succ, List.setIfInBounds_toArray, List.take_succ_cons, List.take_zero, List.drop_succ_cons, List.drop_zero, List.nil_append, List.cons_append, List.append_nil, List.drop_nil, List.take_nil, List.length_cons, List.length_nil, Nat.zero_add, Nat.add_zero, Nat.reduceAdd] at hS))
          go_roundg (dn - (j + 1))
          case measure => omega
          case rel => exact ⟨j + 1, by omega, by go_num, hnx, hS⟩
      · have hV2 := hV.out
        have h := hg.out
        rw [List.take_of_length_le (by rw [hdn.out]; omega)] at h
        rw [h, if_neg (by decide)] at hV2
        replace hV2 := Lib.hid hV2
        go_wp2_with (first | (with_reducible refine wpList_box_st hS rfl rfl rfl ?_; intro g1 w1 hS1; clear hS; replace hS := hS1; clear hS1) | (with_reducible refine wpList_box1_st hS rfl rfl rfl ?_; intro g1 w1 hS1; clear hS; replace hS := hS1; clear hS1) | (with_reducible refine wpList_alloc_st hS rfl rfl (by assumption) ?_; intro g1 w1 hS1; clear hS; replace hS := hS1; clear hS1) | (with_reducible refine wpList_alloc1_st hS rfl rfl (by assumption) rfl ?_; intro g1 w1 hS1; clear hS; replace hS := hS1; clear hS1) | ((with_reducible refine wpList_load_st 0 hS rfl rfl rfl rfl ?_ rfl ?_); focus (simp [scalarB, go_sem]; done)) | ((with_reducible refine wpList_loadall_st 0 hS rfl rfl rfl rfl ?_ (by kernel_rfl) ?_); focus (simp [rowB, go_sem]; done)) | ((with_reducible refine wpList_store_st 0 hS rfl rfl rfl rfl (by kernel_rfl) rfl rfl ?_); intro w1 hS1; clear hS; replace hS := hS1; clear hS1; try simp only [List.set_cons_zero, List.set_cons_succ, List.setIfInBounds_toArray, List.take_succ_cons, List.take_zero, List.drop_succ_cons, List.drop_zero, List.nil_append, List.cons_append, List.append_nil, List.drop_nil, List.take_nil, List.length_cons, List.length_nil, Nat.zero_add, Nat.add_zero, Nat.reduceAdd] at hS) | ((with_reducible refine wpList_storerow_st 0 hS rfl rfl rfl rfl (by kernel_rfl) rfl rfl rfl rfl ?_); intro w1 hS1; clear hS; replace hS := hS1; clear hS1; try simp only [List.set_cons_zero, List.set_cons_succ, List.setIfInBounds_toArray, List.take_succ_cons, List.take_zero, List.drop_succ_cons, List.drop_zero, List.nil_append, List.cons_append, List.append_nil, List.drop_nil, List.take_nil, List.length_cons, List.length_nil, Nat.zero_add, Nat.add_zero, Nat.reduceAdd] at hS) | ((with_reducible refine wpList_load_st 1 hS rfl rfl rfl rfl ?_ rfl ?_); focus (simp [scalarB, go_sem]; done)) | ((with_reducible refine wpList_loadall_st 1 hS rfl rfl rfl rfl ?_ (by kernel_rfl) ?_); focus (simp [rowB, go_sem]; done)) | ((with_reducible refine wpList_store_st 1 hS rfl rfl rfl rfl (by kernel_rfl) rfl rfl ?_); intro w1 hS1; clear hS; replace hS := hS1; clear hS1; try simp only [List.set_cons_zero, List.set_cons_succ, List.setIfInBounds_toArray, List.take_succ_cons, List.take_zero, List.drop_succ_cons, List.drop_zero, List.nil_append, List.cons_append, List.append_nil, List.drop_nil, List.take_nil, List.length_cons, List.length_nil, Nat.zero_add, Nat.add_zero, Nat.reduceAdd] at hS) | ((with_reducible refine wpList_storerow_st 1 hS rfl rfl rfl rfl (by kernel_rfl) rfl rfl rfl rfl ?_); intro w1 hS1; clear hS; replace hS := hS1; clear hS1; try simp only [List.set_cons_zero, List.set_cons_succ, List.setIfInBounds_toArray, List.take_succ_cons, List.take_zero, List.drop_succ_cons, List.drop_zero, List.nil_append, List.cons_append, List.append_nil, List.drop_nil, List.take_nil, List.length_cons, List.length_nil, Nat.zero_add, Nat.add_zero, Nat.reduceAdd] at hS))
        rw [hV2.out]
        exact bodyPost_ret (v := .tuple #[.agg #[.int .i64 0, .int .i64 0, .int .u32 0, .int .i64 0, .int .i64 0, .string ⟨#[]⟩, .int .i64 0, .int .i64 0, .string ⟨#[]⟩, .int .i64 0, .int .i64 0, .string ⟨#[]⟩, .int .i64 0, .int .i64 0, .string ⟨#[]⟩, .int .i64 0, .int .i64 0, .string ⟨#[]⟩, .int .i64 0, .int .i64 0, .string ⟨#[]⟩, .int .i64 0, .int .i64 0, .string ⟨#[]⟩, .int .i64 0, .int .i64 0, .string ⟨#[]⟩], .int .i64 6]) (results_blk_tmp Tryd.results36 rfl hS 0 rfl (by kernel_rfl) (by kernel_rfl) rfl) rfl ⟨rfl, hS.below⟩
end Go.Proofs.YtneolmnpebiifaaDoor
end

section
/- The reference's shelf: Trim. Its lists are told as facts, not as pieces. -/
set_option linter.unusedSimpArgs false
set_option linter.unusedVariables false
namespace Go.Proofs.YtneolmnpebiifaaDoor
open Go.RowKit Go.Ofp
set_option linter.unusedVariables false
set_option maxRecDepth 100000
set_option maxHeartbeats 4000000
theorem rstrim_any (g : Nat) (s : ShS) (ca : Option Addr) (cc : Nat) (da : Option Addr) (dc : Nat) (q : Int) (w : World) (hS : St w [g] [Ch.blk g 50 (rsRow s ca cc da dc).toArray] w) (hd : ∀ W, Fr [g] w W → LD W s da dc) (hdl : s.dead.length ≤ 1000) :
    Calls Tryd.prog 35 #[.pointer (some ⟨g, 0, none⟩), .int .i64 q] w fun e w' => e = .returned (.tuple #[]) ∧ ∃ da' dc', St w [g] [Ch.blk g 50 (rsRow (s.trim q) ca cc da' dc').toArray, Ch.row 74 3 (.slice da' (s.trim q).dead.length dc') (s.trim q).dead.length (dRow (s.trim q).dead)] w' := by
  have ed := elem_dd
  have htr : s.trim q = ⟨s.next, s.m, keepD q s.dead⟩ := rfl
  rw [htr]
  clear htr
  obtain ⟨nx, M, D⟩ := s
  have e0 : ∀ D da dc, rsRow ⟨nx, M, D⟩ ca cc da dc = [.int .i64 nx, .slice ca M.length cc, .slice da D.length dc] := fun _ _ _ => rfl
  dsimp only [LD] at hd hdl ⊢
  rw [e0] at hS
  have hlens := Lib.hid (show ∀ y ∈ D, (ddRow y).length = 3 from fun y hy => ddRow_len y)
  have hbase := Lib.hid ((hd w (Fr.refl _ _)).base (by decide) hlens.out)
  replace hd := Lib.hid hd
  replace e0 := Lib.hid e0
  generalize M.length = mn at *
  generalize hn : D.length = n at *
  replace hn := Lib.hid hn
  go_enter Tryd.func35, Tryd.ntmps35
  go_wp2_with (first
    | ((with_reducible refine wpList_build0_st hS rfl rfl Tryd.underlying48 ed ?_); intro g1 w3 hS1; clear hS; have hS := hS1; clear hS1))
  go_loopg [4, 5] n (fun gk vo vx wr => ∃ (j : Nat) (ao : Option Addr) (co : Nat), j + gk = n ∧ vx = .int .i64 j ∧ vo = .slice ao (keepD q (D.take j)).length co ∧ St w [g] [Ch.row 74 3 (.slice ao (keepD q (D.take j)).length co) (keepD q (D.take j)).length (dRow (keepD q (D.take j))), Ch.blk g 50 #[.int .i64 nx, .slice ca mn cc, .slice da n dc]] wr)
  case atStart => exact ⟨0, _, _, Nat.zero_add _, rfl, rfl, hS⟩
  case round =>
    clear hS
    obtain ⟨j, ao, co, hj, rfl, rfl, hS⟩ := hrel
    by_cases hlt : j < n
    · have hjl : j < D.length := by rw [hn.out]; exact hlt
      obtain ⟨b, off, rfl⟩ := hbase.out (by omega)
      have hrow := (hd.out wr hS.fr).rowb hlens.out j hjl
      have z2 : wr.cell? ⟨b, off + j * 3 + 2, none⟩ = some (.int .i64 D[j].seq) := hrow 2 _ rfl
      have hnx := keepD_next D q j hjl
      have hkl : (keepD q (D.take j)).length ≤ 1000 := by
        have h1 := List.length_filter_le (fun d : Dd => decide (q < d.seq)) (D.take j)
        have h2 : (D.take j).length ≤ j := by simp; omega
        exact Nat.le_trans h1 (by omega)
      have hrl := ddRow_len D[j]
      have hro := ddRow_one D[j]
      by_cases he : q < D[j].seq
      · rw [if_pos he] at hnx
        have de : decide (q < D[j].seq) = true := decide_eq_true he
        have hq1 : dRow (keepD q (D.take (j + 1))) = dRow (keepD q (D.take j)) ++ ddRow D[j] := by rw [hnx]; simp [dRow]
        have hq2 : (keepD q (D.take (j + 1))).length = (keepD q (D.take j)).length + 1 := by rw [hnx]; simp
        replace hq1 := Lib.hid hq1
        replace hq2 := Lib.hid hq2
        clear hnx he
        generalize hKD : keepD q (D.take j) = KD at *
        generalize hKE : keepD q (D.take (j + 1)) = KE at *
        generalize dRow KD = KR at *
        generalize ddRow D[j] = RI at *
        generalize D[j].seq = sj at *
        go_wp2_with (first
          | (with_reducible refine wpList_rangerow (t := 74) (n := 3) hrow rfl rfl rfl (by kernel_rfl) (by kernel_rfl) hrl ?_)
          | (refine wpList_of_op fun K hK => op_build1_st (by with_unfolding_all rfl) hS rfl Tryd.underlying48 ed (cs := RI.toArray) rfl (by simp [hrl]) (by decide) ?_; intro g3 w3 hS1; refine hK _ _ ?_; clear hK hS; have hS := hS1; clear hS1)
          | ((with_reducible refine wpList_app_st (news := RI) (m := 1) 1 hS rfl rfl rfl Tryd.underlying48 ed rfl (Src.slice Tryd.underlying48 (hS.blksl2 0 rfl) (by simp [hrl])) rfl (fun u hu => List.all_eq_true.1 hro u hu) (by omega) (by unfold maxLen; omega) ?_); intro v6 w6 hS1; clear hS; simp only [List.set_cons_zero, List.set_cons_succ] at hS1; obtain ⟨a6, c6, rfl, -⟩ := hS1.row 1 rfl; have hS := hS1; clear hS1)
          | (with_reducible refine wpList_box_st hS rfl rfl rfl ?_; intro g1 w1 hS1; clear hS; replace hS := hS1; clear hS1) | (with_reducible refine wpList_box1_st hS rfl rfl rfl ?_; intro g1 w1 hS1; clear hS; replace hS := hS1; clear hS1) | (with_reducible refine wpList_alloc_st hS rfl rfl (by assumption) ?_; intro g1 w1 hS1; clear hS; replace hS := hS1; clear hS1) | (with_reducible refine wpList_alloc1_st hS rfl rfl (by assumption) rfl ?_; intro g1 w1 hS1; clear hS; replace hS := hS1; clear hS1) | ((with_reducible refine wpList_load_st 0 hS rfl rfl rfl rfl ?_ rfl ?_); focus (simp [scalarB, go_sem]; done)) | ((with_reducible refine wpList_loadall_st 0 hS rfl rfl rfl rfl ?_ (by kernel_rfl) ?_); focus (simp [rowB, go_sem]; done)) | ((with_reducible refine wpList_store_st 0 hS rfl rfl rfl rfl (by kernel_rfl) rfl rfl ?_); intro w1 hS1; clear hS; replace hS := hS1; clear hS1; try simp only [List.set_cons_zero, List.set_cons_succ, List.setIfInBounds_toArray, List.take_succ_cons, List.take_zero, List.drop_succ_cons, List.drop_zero, List.nil_append, List.cons_append, List.append_nil, List.drop_nil, List.take_nil, List.length_cons, List.length_nil, Nat.zero_add, Nat.add_zero, Nat.reduceAdd] at hS) | ((with_reducible refine wpList_storerow_st 0 hS rfl rfl rfl rfl (by kernel_rfl) rfl rfl rfl rfl ?_); intro w1 hS1; clear hS; replace hS := hS1; clear hS1; try simp only [List.set_cons_zero, List.set_cons_succ, List.setIfInBounds_toArray, List.take_succ_cons, List.take_zero, List.drop_succ_cons, List.drop_zero, List.nil_append, List.cons_append, List.append_nil, List.drop_nil, List.take_nil, List.length_cons, List.length_nil, Nat.zero_add, Nat.add_zero, Nat.reduceAdd] at hS) | ((with_reducible refine wpList_load_st 1 hS rfl rfl rfl rfl ?_ rfl ?_); focus (simp [scalarB, go_sem]; done)) | ((with_reducible refine wpList_loadall_st 1 hS rfl rfl rfl rfl ?_ (by kernel_rfl) ?_); focus (simp [rowB, go_sem]; done)) | ((with_reducible refine wpList_store_st 1 hS rfl rfl rfl rfl (by kernel_rfl) rfl rfl ?_); intro w1 hS1; clear hS; replace hS := hS1; clear hS1; try simp only [List.set_cons_zero, List.set_cons_succ, List.setIfInBounds_toArray, List.take_succ_cons, List.take_zero, List.drop_succ_cons, List.drop_zero, List.nil_append, List.cons_append, List.append_nil, List.drop_nil, List.take_nil, List.length_cons, List.length_nil, Nat.zero_add, Nat.add_zero, Nat.reduceAdd] at hS) | ((with_reducible refine wpList_storerow_st 1 hS rfl rfl rfl rfl (by kernel_rfl) rfl rfl rfl rfl ?_); intro w1 hS1; clear hS; replace hS := hS1; clear hS1; try simp only [List.set_cons_zero, List.set_cons_succ, List.setIfInBounds_toArray, List.take_succ_cons, List.take_zero, List.drop_succ_cons, List.drop_zero, List.nil_append, List.cons_append, List.append_nil, List.drop_nil, List.take_nil, List.length_cons, List.length_nil, Nat.zero_add, Nat.add_zero, Nat.reduceAdd] at hS))
        go_roundg (n - (j + 1))
        case measure => omega
        case rel => exact ⟨j + 1, a6, c6, by omega, by go_num, by rw [hKE, hq2.out], by rw [hKE, hq1.out, hq2.out]; exact hS.drop⟩
      · rw [if_neg he, List.append_nil] at hnx
        have de : decide (q < D[j].seq) = false := decide_eq_false he
        replace hnx := Lib.hid hnx
        clear he hrow hrl hro
        generalize D[j].seq = sj at *
        go_wp2_with (first
          | (with_reducible refine wpList_box_st hS rfl rfl rfl ?_; intro g1 w1 hS1; clear hS; replace hS := hS1; clear hS1) | (with_reducible refine wpList_box1_st hS rfl rfl rfl ?_; intro g1 w1 hS1; clear hS; replace hS := hS1; clear hS1) | (with_reducible refine wpList_alloc_st hS rfl rfl (by assumption) ?_; intro g1 w1 hS1; clear hS; replace hS := hS1; clear hS1) | (with_reducible refine wpList_alloc1_st hS rfl rfl (by assumption) rfl ?_; intro g1 w1 hS1; clear hS; replace hS := hS1; clear hS1) | ((with_reducible refine wpList_load_st 0 hS rfl rfl rfl rfl ?_ rfl ?_); focus (simp [scalarB, go_sem]; done)) | ((with_reducible refine wpList_loadall_st 0 hS rfl rfl rfl rfl ?_ (by kernel_rfl) ?_); focus (simp [rowB, go_sem]; done)) | ((with_reducible refine wpList_store_st 0 hS rfl rfl rfl rfl (by kernel_rfl) rfl rfl ?_); intro w1 hS1; clear hS; replace hS := hS1; clear hS1; try simp only [List.set_cons_zero, List.set_cons_succ, List.setIfInBounds_toArray, List.take_succ_cons, List.take_zero, List.drop_succ_cons, List.drop_zero, List.nil_append, List.cons_append, List.append_nil, List.drop_nil, List.take_nil, List.length_cons, List.length_nil, Nat.zero_add, Nat.add_zero, Nat.reduceAdd] at hS) | ((with_reducible refine wpList_storerow_st 0 hS rfl rfl rfl rfl (by kernel_rfl) rfl rfl rfl rfl ?_); intro w1 hS1; clear hS; replace hS := hS1; clear hS1; try simp only [List.set_cons_zero, List.set_cons_succ, List.setIfInBounds_toArray, List.take_succ_cons, List.take_zero, List.drop_succ_cons, List.drop_zero, List.nil_append, List.cons_append, List.append_nil, List.drop_nil, List.take_nil, List.length_cons, List.length_nil, Nat.zero_add, Nat.add_zero, Nat.reduceAdd] at hS) | ((with_reducible refine wpList_load_st 1 hS rfl rfl rfl rfl ?_ rfl ?_); focus (simp [scalarB, go_sem]; done)) | ((with_reducible refine wpList_loadall_st 1 hS rfl rfl rfl rfl ?_ (by kernel_rfl) ?_); focus (simp [rowB, go_sem]; done)) | ((with_reducible refine wpList_store_st 1 hS rfl rfl rfl rfl (by kernel_rfl) rfl rfl ?_); intro w1 hS1; clear hS; replace hS := hS1; clear hS1; try simp only [List.set_cons_zero, List.set_cons_succ, List.setIfInBounds_toArray, List.take_succ_cons, List.take_zero, List.drop_succ_cons, List.drop_zero, List.nil_append, List.cons_append, List.append_nil, List.drop_nil, List.take_nil, List.length_cons, List.length_nil, Nat.zero_add, Nat.add_zero, Nat.reduceAdd] at hS) | ((with_reducible refine wpList_storerow_st 1 hS rfl rfl rfl rfl (by kernel_rfl) rfl rfl rfl rfl ?_); intro w1 hS1; clear hS; replace hS := hS1; clear hS1; try simp only [List.set_cons_zero, List.set_cons_succ, List.setIfInBounds_toArray, List.take_succ_cons, List.take_zero, List.drop_succ_cons, List.drop_zero, List.nil_append, List.cons_append, List.append_nil, List.drop_nil, List.take_nil, List.length_cons, List.length_nil, Nat.zero_add, Nat.add_zero, Nat.reduceAdd] at hS))
        go_roundg (n - (j + 1))
        case measure => omega
        case rel => exact ⟨j + 1, ao, co, by omega, by go_num, by rw [hnx.out], by rw [hnx.out]; exact hS⟩
    · have e : D.take j = D := List.take_of_length_le (by rw [hn.out]; omega)
      rw [e] at hS
      rw [e]
      generalize hKD : keepD q D = KD at *
      replace hKD := Lib.hid hKD
      clear e
      go_wp2_with (first
        | (with_reducible refine wpList_box_st hS rfl rfl rfl ?_; intro g1 w1 hS1; clear hS; replace hS := hS1; clear hS1) | (with_reducible refine wpList_box1_st hS rfl rfl rfl ?_; intro g1 w1 hS1; clear hS; replace hS := hS1; clear hS1) | (with_reducible refine wpList_alloc_st hS rfl rfl (by assumption) ?_; intro g1 w1 hS1; clear hS; replace hS := hS1; clear hS1) | (with_reducible refine wpList_alloc1_st hS rfl rfl (by assumption) rfl ?_; intro g1 w1 hS1; clear hS; replace hS := hS1; clear hS1) | ((with_reducible refine wpList_load_st 0 hS rfl rfl rfl rfl ?_ rfl ?_); focus (simp [scalarB, go_sem]; done)) | ((with_reducible refine wpList_loadall_st 0 hS rfl rfl rfl rfl ?_ (by kernel_rfl) ?_); focus (simp [rowB, go_sem]; done)) | ((with_reducible refine wpList_store_st 0 hS rfl rfl rfl rfl (by kernel_rfl) rfl rfl ?_); intro w1 hS1; clear hS; replace hS := hS1; clear hS1; try simp only [List.set_cons_zero, List.set_cons_succ, List.setIfInBounds_toArray, List.take_succ_cons, List.take_zero, List.drop_succ_cons, List.drop_zero, List.nil_append, List.cons_append, List.append_nil, List.drop_nil, List.take_nil, List.length_cons, List.length_nil, Nat.zero_add, Nat.add_zero, Nat.reduceAdd] at hS) | ((with_reducible refine wpList_storerow_st 0 hS rfl rfl rfl rfl (by kernel_rfl) rfl rfl rfl rfl ?_); intro w1 hS1; clear hS; replace hS := hS1; clear hS1; try simp only [List.set_cons_zero, List.set_cons_succ, List.setIfInBounds_toArray, List.take_succ_cons, List.take_zero, List.drop_succ_cons, List.drop_zero, List.nil_append, List.cons_append, List.append_nil, List.drop_nil, List.take_nil, List.length_cons, List.length_nil, Nat.zero_add, Nat.add_zero, Nat.reduceAdd] at hS) | ((with_reducible refine wpList_load_st 1 hS rfl rfl rfl rfl ?_ rfl ?_); focus (simp [scalarB, go_sem]; done)) | ((with_reducible refine wpList_loadall_st 1 hS rfl rfl rfl rfl ?_ (by kernel_rfl) ?_); focus (simp [rowB, go_sem]; done)) | ((with_reducible refine wpList_store_st 1 hS rfl rfl rfl rfl (by kernel_rfl) rfl rfl ?_); intro w1 hS1; clear hS; replace hS := hS1; clear hS1; try simp only [List.set_cons_zero, List.set_cons_succ, List.setIfInBounds_toArray, List.take_succ_cons, List.take_zero, List.drop_succ_cons, List.drop_zero, List.nil_append, List.cons_append, List.append_nil, List.drop_nil, List.take_nil, List.length_cons, List.length_nil, Nat.zero_add, Nat.add_zero, Nat.reduceAdd] at hS) | ((with_reducible refine wpList_storerow_st 1 hS rfl rfl rfl rfl (by kernel_rfl) rfl rfl rfl rfl ?_); intro w1 hS1; clear hS; replace hS := hS1; clear hS1; try simp only [List.set_cons_zero, List.set_cons_succ, List.setIfInBounds_toArray, List.take_succ_cons, List.take_zero, List.drop_succ_cons, List.drop_zero, List.nil_append, List.cons_append, List.append_nil, List.drop_nil, List.take_nil, List.length_cons, List.length_nil, Nat.zero_add, Nat.add_zero, Nat.reduceAdd] at hS))
      exact bodyPost_end (results_none rfl _ _ _) rfl ⟨rfl, ao, co, by rw [e0.out, hKD.out]; exact hS.swap⟩
end Go.Proofs.YtneolmnpebiifaaDoor
end
