/- Texts laid together: Tk Ids1 Ids2 Ids3. -/
import Derived.Test.YtneolmnpebiifaaGreatDoorM3
import Derived.Test.YtneolmnpebiifaaGreatDoorM4
section
/- The walk's steps, in few words: what a step needs is found by itself. -/
set_option linter.unusedSimpArgs false
set_option linter.unusedVariables false
namespace Go.Ofp
open Go.RowKit
section
variable {w0 w w1 : World} {F : List Nat} {L : List Ch} {P : Program} {Q : Exit → Act → World → Prop} {ops : Array Oper} {fuel : Nat} {listed : Array Bool} {a a' : Act} {oi : Oper}
theorem tk (i : Nat) {v : Value} (h : wpAnyH P .any ops Q (fun w' => St w0 F L w') fuel (listed.setIfInBounds i true) a' w)
    (hi : ops[i]? = some oi := by rfl) (hok : (Region.noSelect ops && (Region.free .any ops listed i && (Region.ready .any ops listed).contains i)) = true := by kernel_rfl)
    (hQ : ∀ c a w, Q (.panic c) (a.put oi.dst v) w → Q (.panic c) a w := by exact fun _ _ _ h => h) (hw : Region.wanted oi (yielded ops a.tmps) = true := by kernel_rfl) (hS : St w0 F L w := by assumption)
    (hy : ∀ s : Cl w0 F L, (execOp a.eval oi).run P s.1 = .ok (.value v) s.1 := by (intro s; (go_simp <;> with_reducible rfl)))
    (ha : a.put oi.dst v = a' := by ((try simp only [List.getElem_toArray, List.getElem_cons_succ, List.getElem_cons_zero, Act.put, List.setIfInBounds_toArray, List.set_cons_zero, List.set_cons_succ]); rfl)) :
    wpAnyH P .any ops Q (fun w' => St w0 F L w') (fuel + 1) listed a w := by
  subst ha
  exact mixs_take i hi hok hQ hw hS hy h
theorem tk_load {o : Oper} {t : TypeId} {x : Operand} {p : Addr} {vs : Array Value} (s : Cl w0 F L) (ho : o.op = .load t x) (hx : a.eval x = .pointer (some p))
    (h : ∀ s : Cl w0 F L, (Instr.loadAt t (.pointer (some p))).run P s.1 = .ok (.agg vs) s.1) : (execOp a.eval o).run P s.1 = .ok (.value (.agg vs)) s.1 := by
  unfold execOp
  simp only [ho, hx, Sem.run_bind, h s, Result.andThen_ok, Sem.run_pure]
theorem tkr (i : Nat) {t : TypeId} {x : Operand} {p : Addr} {vs : Array Value} (k : ∀ s : Cl w0 F L, (Instr.loadAt t (.pointer (some p))).run P s.1 = .ok (.agg vs) s.1) (h : wpAnyH P .any ops Q (fun w' => St w0 F L w') fuel (listed.setIfInBounds i true) a' w)
    (hi : ops[i]? = some oi := by rfl) (hok : (Region.noSelect ops && (Region.free .any ops listed i && (Region.ready .any ops listed).contains i)) = true := by kernel_rfl)
    (hQ : ∀ c a w, Q (.panic c) (a.put oi.dst (.agg vs)) w → Q (.panic c) a w := by exact fun _ _ _ h => h) (hw : Region.wanted oi (yielded ops a.tmps) = true := by kernel_rfl) (hS : St w0 F L w := by assumption)
    (ho : oi.op = .load t x := by rfl) (hx : a.eval x = .pointer (some p) := by rfl)
    (ha : a.put oi.dst (.agg vs) = a' := by ((try simp only [List.getElem_toArray, List.getElem_cons_succ, List.getElem_cons_zero, Act.put, List.setIfInBounds_toArray, List.set_cons_zero, List.set_cons_succ]); rfl)) :
    wpAnyH P .any ops Q (fun w' => St w0 F L w') (fuel + 1) listed a w := by
  subst ha
  exact mixs_take i hi hok hQ hw hS (fun s => tk_load s ho hx k) h
theorem sk (i : Nat) (h : wpAnyH P .any ops Q (fun w' => St w0 F L w') fuel (listed.setIfInBounds i true) a' w)
    (hi : ops[i]? = some oi := by rfl) (hok : (Region.noSelect ops && (Region.free .any ops listed i && (Region.ready .any ops listed).contains i)) = true := by kernel_rfl)
    (hQ : ∀ c a w, Q (.panic c) (a.put oi.dst undef) w → Q (.panic c) a w := by exact fun _ _ _ h => h) (hw : Region.wanted oi (yielded ops a.tmps) = false := by kernel_rfl) (hS : St w0 F L w := by assumption)
    (ha : a.put oi.dst undef = a' := by ((try simp only [List.getElem_toArray, List.getElem_cons_succ, List.getElem_cons_zero, Act.put, List.setIfInBounds_toArray, List.set_cons_zero, List.set_cons_succ]); rfl)) :
    wpAnyH P .any ops Q (fun w' => St w0 F L w') (fuel + 1) listed a w := by
  subst ha
  exact mixs_skip i hi hok hQ hw hS h
/-- Behind an operation that stood alone. -/
theorem cl {K' : Act → World → Prop} {ls : Array Bool} (hK : Shut (∀ (L' : List Ch) a w1, (∀ x, St w0 F L' x → St w0 F L x) → St w0 F L' w1 → (St w0 F L' w1 → wpAnyH P .any ops Q (fun w' => St w0 F L' w') fuel ls a w1) → K' a w1))
    (h : St w0 F L w1 → wpAnyH P .any ops Q (fun w' => St w0 F L w') fuel ls a' w1)
    (hs : St w0 F L w1 := by first | exact hS | exact hS.drop | exact hS.drop.drop | exact hS.drop.drop.drop | exact hS.drop.drop.drop.drop | exact hS.empty | exact hS.one 0 rfl | exact hS.one 1 rfl | exact hS.one 2 rfl | exact hS.one 3 rfl | exact hS.one 4 rfl | exact hS.one 5 rfl | exact hS.one 6 rfl | exact hS.one 7 rfl | exact hS.one 8 rfl | exact hS.one 9 rfl | exact hS.one 10 rfl | exact hS.one 11 rfl | exact hS.fore2 | exact hS.fore3 | exact hS.drop.fore2 | exact hS.drop.drop.fore2 | exact hS.drop.drop.fore3 | exact hS.drop.fore3 | exact hS.toPart (by simp))
    (ha : a = a' := by ((try simp only [List.getElem_toArray, List.getElem_cons_succ, List.getElem_cons_zero, Act.put, List.setIfInBounds_toArray, List.set_cons_zero, List.set_cons_succ]); rfl)) : K' a w1 := by
  subst ha
  exact hK.out _ _ _ (fun _ h => h) hs h
end
section
variable {w0 w : World} {F : List Nat} {L L' : List Ch} {P : Program} {Q : Exit → Act → World → Prop} {ops : Array Oper} {rest : List Oper} {o : Oper} {a : Act}
theorem al (hS : St w0 F L w) (hgd : o.guard = none) {t : TypeId} (ho : o.op = .alloc t) {cs : Array Value} {size bytes : Nat} (h : ∀ g w', St w0 F (Ch.blk g t cs :: L) w' → wpList P ops Q rest (a.put o.dst (.pointer (some ⟨g, 0, none⟩))) w')
    (he : Elem P t (.agg cs) size bytes := by assumption) : wpList P ops Q (o :: rest) a w := wpList_alloc_st hS hgd ho he h
theorem ld (i : Nat) {g j T : Nat} {cs : Array Value} (hS : St w0 F L w) (hi : L[i]? = some (Ch.blk g T cs)) (hgd : o.guard = none) {t : TypeId} {x : Operand} (ho : o.op = .load t x) (hx : a.eval x = .pointer (some ⟨g, j, none⟩))
    {v : Value} (hv : cs[j]? = some v) (h : wpList P ops Q rest (a.put o.dst v) w) (hu : scalarB P t = true := by (with_unfolding_all (first | (simp [scalarB, go_sem]; done) | fail))) : wpList P ops Q (o :: rest) a w := wpList_load_st i hS hi hgd ho hx hu hv h
theorem lda (i : Nat) {g T : Nat} {cs : Array Value} (hS : St w0 F L w) (hi : L[i]? = some (Ch.blk g T cs)) (hgd : o.guard = none) {t : TypeId} {x : Operand} (ho : o.op = .load t x) (hx : a.eval x = .pointer (some ⟨g, 0, none⟩))
    (h : wpList P ops Q rest (a.put o.dst (.agg cs)) w) (hu : rowB P t = true := by (with_unfolding_all (first | (simp [rowB, go_sem]; done) | fail))) (hsz : sizeB P t cs.size = true := by kernel_rfl) : wpList P ops Q (o :: rest) a w := wpList_loadall_st i hS hi hgd ho hx hu hsz h
theorem sto (i : Nat) {g j T : Nat} {cs : Array Value} (hS : St w0 F L w) (hi : L[i]? = some (Ch.blk g T cs)) (hgd : o.guard = none) {t : TypeId} {x y : Operand} (ho : o.op = .store t x y) (hx : a.eval x = .pointer (some ⟨g, j, none⟩))
    {v : Value} (hy : Value.scal (a.eval y) = some v) (hj : Nat.ble (j + 1) cs.size = true) (h : ∀ w', St w0 F L' w' → wpList P ops Q rest (a.put o.dst undef) w')
    (hu : sizeB P t 1 = true := by kernel_rfl) (hn : L.set i (Ch.blk g T (cs.setIfInBounds j v)) = L' := by ((try simp only [List.set_cons_zero, List.set_cons_succ, List.setIfInBounds_toArray, List.take_succ_cons, List.take_zero, List.drop_succ_cons, List.drop_zero, List.nil_append, List.cons_append, List.append_nil, List.drop_nil, List.take_nil, List.length_cons, List.length_nil, Nat.zero_add, Nat.add_zero, Nat.reduceAdd]); exact rfl)) : wpList P ops Q (o :: rest) a w := wpList_store_st i hS hi hgd ho hx hu hy hj (by subst hn; exact h)
theorem stor (i : Nat) {g j T n : Nat} {cs : Array Value} (hS : St w0 F L w) (hi : L[i]? = some (Ch.blk g T cs)) (hgd : o.guard = none) {t : TypeId} {x y : Operand} (ho : o.op = .store t x y) (hx : a.eval x = .pointer (some ⟨g, j, none⟩))
    {vs : List Value} (hy : a.eval y = .agg vs.toArray) (hl : vs.length = n) (hv : vs.all Value.oneCell' = true) (hj : Nat.ble (j + n) cs.size = true) (h : ∀ w', St w0 F L' w' → wpList P ops Q rest (a.put o.dst undef) w')
    (hsz : sizeB P t n = true := by kernel_rfl) (hn : L.set i (Ch.blk g T (cs.toList.take j ++ vs ++ cs.toList.drop (j + n)).toArray) = L' := by ((try simp only [List.set_cons_zero, List.set_cons_succ, List.setIfInBounds_toArray, List.take_succ_cons, List.take_zero, List.drop_succ_cons, List.drop_zero, List.nil_append, List.cons_append, List.append_nil, List.drop_nil, List.take_nil, List.length_cons, List.length_nil, Nat.zero_add, Nat.add_zero, Nat.reduceAdd]); exact rfl)) : wpList P ops Q (o :: rest) a w := wpList_storerow_st i hS hi hgd ho hx hsz hy hl hv hj (by subst hn; exact h)
end
end Go.Ofp
end

section
/- Lists of numbers: the document's looks at them. -/
set_option linter.unusedSimpArgs false
set_option linter.unusedVariables false
namespace Go.Proofs.YtneolmnpebiifaaGreatDoor
open Go.RowKit Go.Ofp
set_option linter.unusedVariables false
set_option maxRecDepth 100000
set_option maxHeartbeats 4000000

def vi (x : Int) : Value := .int .i64 x

theorem sl_int {w : World} {a : Option Addr} {l : List Int} (h : Sl w a (l.map vi)) (i : Nat) (hi : i < l.length) :
    ∃ b off, a = some ⟨b, off, none⟩ ∧ w.cell? ⟨b, off + i, none⟩ = some (.int .i64 (l[i])) := by
  obtain ⟨b, off, ha, hc⟩ := h i (by simpa using hi)
  exact ⟨b, off, ha, by simpa [vi] using hc⟩

theorem take_snoc_i (l : List Int) (k : Nat) (h : k < l.length) : l.take (k + 1) = l.take k ++ [l[k]] := by
  rw [List.take_succ_eq_append_getElem h]

theorem rhas_any (a : Option Addr) (l : List Int) (n cap : Nat) (id : Int) (w : World) (hs : Sl w a (l.map vi)) (hn : l.length = n) (hm : n ≤ maxLen) :
    Calls Tryz.prog 52 #[.slice a n cap, .int .i64 id] w fun e w' => e = .returned (.bool (Ids.has l id)) ∧ w = w' := by
  unfold maxLen at hm
  replace hn := Lib.hid hn
  replace hs := Lib.hid hs
  go_enter Tryz.func52, Tryz.ntmps52
  go_wp2
  go_loop [5] (fun i => ∃ k : Nat, k ≤ n ∧ i = .int .i64 k ∧ Hid (Ids.has (l.take k) id = false)) (fun i => n - (intOf i).toNat)
  case atStart => exact ⟨0, Nat.zero_le _, rfl, Lib.hid rfl⟩
  case round =>
    obtain ⟨k, hk, rfl, hr⟩ := hrel
    by_cases hlt : k < n
    · obtain ⟨b, off, rfl, hc⟩ := sl_int hs.out k (by rw [hn.out]; exact hlt)
      have hts := Lib.hid (take_snoc_i l k (by rw [hn.out]; exact hlt))
      have hmem := Lib.hid (List.getElem_mem (l := l) (n := k) (by rw [hn.out]; exact hlt))
      generalize l[k]'(by rw [hn.out]; exact hlt) = x at hc hts hmem
      by_cases hx : x = id
      · subst hx
        go_wp2
        go_ret
        have : Ids.has l x = true := by rw [Ids.has_iff]; exact hmem.out
        exact ⟨by rw [this]; rfl, rfl⟩
      · have hxb : (x == id) = false := by rw [beq_eq_false_iff_ne]; exact hx
        replace hx := Lib.hid hx
        go_wp2
        go_round
        case rel => exact ⟨k + 1, by omega, by go_num, Lib.hid (by
          rw [hts.out]
          have := hr.out
          unfold Ids.has at this ⊢
          rw [List.contains_eq_any_beq, List.any_append, ← List.contains_eq_any_beq, this]
          simp [show (id == x) = false by rw [beq_eq_false_iff_ne]; exact Ne.symm hx.out])⟩
        case measure => simp [intOf]; omega
    · obtain rfl : k = n := by omega
      go_wp2
      go_ret
      have := hr.out
      rw [List.take_of_length_le (by rw [hn.out]; exact Nat.le_refl _)] at this
      exact ⟨by rw [this]; rfl, rfl⟩

theorem rplace_any (a : Option Addr) (l : List Int) (n cap : Nat) (id : Int) (w : World) (hs : Sl w a (l.map vi)) (hn : l.length = n) (hm : n ≤ maxLen) :
    Calls Tryz.prog 181 #[.slice a n cap, .int .i64 id] w fun e w' => e = .returned (.int .i64 (Ids.place l id)) ∧ w = w' := by
  unfold maxLen at hm
  replace hn := Lib.hid hn
  replace hs := Lib.hid hs
  go_enter Tryz.func181, Tryz.ntmps181
  go_wp2
  go_loop [5, 6] (fun m i => ∃ k j : Nat, k ≤ n ∧ j ≤ k ∧ i = .int .i64 k ∧ m = .int .i64 j ∧ Hid (Ids.place (l.take k) id = j)) (fun _ i => n - (intOf i).toNat)
  case atStart => exact ⟨0, 0, Nat.zero_le _, Nat.le_refl _, rfl, rfl, Lib.hid rfl⟩
  case round =>
    obtain ⟨k, j, hk, hj, rfl, rfl, hr⟩ := hrel
    by_cases hlt : k < n
    · obtain ⟨b, off, rfl, hc⟩ := sl_int hs.out k (by rw [hn.out]; exact hlt)
      have hts := Lib.hid (take_snoc_i l k (by rw [hn.out]; exact hlt))
      generalize l[k]'(by rw [hn.out]; exact hlt) = x at hc hts
      have hs2 : Hid (Ids.place (l.take (k + 1)) id = if x < id then j + 1 else j) := Lib.hid (by
        rw [hts.out]
        have := hr.out
        unfold Ids.place at this ⊢
        rw [List.filter_append, List.length_append, this]
        split <;> simp_all)
      clear hts hr
      by_cases hx : x < id
      · go_wp2
        go_round
        case rel => exact ⟨k + 1, j + 1, by omega, by omega, by go_num, by go_num, Lib.hid (by rw [hs2.out, if_pos hx])⟩
        case measure => simp [intOf]; omega
      · have hx2 : id ≤ x := by omega
        go_wp2
        go_round
        case rel => exact ⟨k + 1, j, by omega, by omega, by go_num, by go_num, Lib.hid (by rw [hs2.out, if_neg hx])⟩
        case measure => simp [intOf]; omega
    · obtain rfl : k = n := by omega
      go_wp2
      go_ret
      have := hr.out
      rw [List.take_of_length_le (by rw [hn.out]; exact Nat.le_refl _)] at this
      exact ⟨by rw [this]; rfl, rfl⟩

/-- Two lists are alike. -/
theorem ints_any (a b : Option Addr) (l m : List Int) (n k cap cap2 : Nat) (w : World) (hs : Sl w a (l.map vi)) (ht : Sl w b (m.map vi)) (hn : l.length = n) (hk : m.length = k) (hm : n ≤ maxLen) (hm2 : k ≤ maxLen) :
    Calls Tryz.prog 81 #[.slice a n cap, .slice b k cap2] w fun e w' => e = .returned (.bool (decide (l = m))) ∧ Below w.heap.size w w' := by
  unfold maxLen at hm hm2
  have hS := St.start w
  by_cases hlen : n = k
  · subst hlen
    replace hn := Lib.hid hn
    replace hk := Lib.hid hk
    replace hs := Lib.hid hs
    replace ht := Lib.hid ht
    go_enter Tryz.func81, Tryz.ntmps81
    go_wp2
    go_loopg [5] n (fun gk vi wr => ∃ j : Nat, j + gk = n ∧ vi = .int .i64 j ∧ Hid (l.take j = m.take j) ∧ St w [] [] wr)
    case atStart => exact ⟨0, Nat.zero_add _, rfl, Lib.hid (by simp), hS⟩
    case round =>
      clear hS
      obtain ⟨j, hj, rfl, hr, hS⟩ := hrel
      by_cases hlt : j < n
      · obtain ⟨b1, o1, rfl, c1⟩ := sl_int hs.out j (by rw [hn.out]; exact hlt)
        obtain ⟨b2, o2, rfl, c2⟩ := sl_int ht.out j (by rw [hk.out]; exact hlt)
        have t1 := Lib.hid (take_snoc_i l j (by rw [hn.out]; exact hlt))
        have t2 := Lib.hid (take_snoc_i m j (by rw [hk.out]; exact hlt))
        have t3 := Lib.hid (show l = m → l[j]'(by rw [hn.out]; exact hlt) = m[j]'(by rw [hk.out]; exact hlt) by intro e; subst e; rfl)
        generalize l[j]'(by rw [hn.out]; exact hlt) = x at c1 t1 t3
        generalize m[j]'(by rw [hk.out]; exact hlt) = y at c2 t2 t3
        have k1 := hS.kold0 c1
        have k2 := hS.kold0 c2
        clear c1 c2
        by_cases hx : x = y
        · subst hx
          go_wp2_with fail
          refine mixs_begin (by kernel_rfl) hS ?_
          clear hS
          intro w2 hS
          refine tk 0 ?_
          refine tk 1 ?_
          refine tk 2 ?_
          refine tk 3 ?_
          refine tk 4 ?_
          refine tk 5 ?_
          refine tk 6 ?_
          refine tk 7 ?_
          refine tk 8 ?_
          refine wpAnyH_done (by kernel_rfl) ?_ _
          clear k1 k2
          go_wp2_with fail
          go_roundg (n - (j + 1))
          case measure => omega
          case rel => exact ⟨j + 1, by omega, by go_num, Lib.hid (by rw [t1.out, t2.out, hr.out]), hS⟩
        · have hxb : (x != y) = true := by simpa using hx
          replace hx := Lib.hid hx
          go_wp2_with fail
          refine mixs_begin (by kernel_rfl) hS ?_
          clear hS
          intro w2 hS
          refine tk 0 ?_
          refine tk 1 ?_
          refine tk 2 ?_
          refine tk 3 ?_
          refine tk 4 ?_
          refine tk 5 ?_
          refine tk 6 ?_
          refine tk 7 ?_
          refine tk 8 ?_
          refine wpAnyH_done (by kernel_rfl) ?_ _
          clear k1 k2
          go_wp2_with fail
          go_ret
          have : decide (l = m) = false := by rw [decide_eq_false_iff_not]; intro e; exact hx.out (t3.out e)
          exact ⟨by rw [this]; rfl, hS.below⟩
      · obtain rfl : j = n := by omega
        go_wp2_with fail
        go_ret
        have e1 := hr.out
        rw [List.take_of_length_le (by rw [hn.out]; exact Nat.le_refl _), List.take_of_length_le (by rw [hk.out]; exact Nat.le_refl _)] at e1
        exact ⟨by rw [decide_eq_true e1]; rfl, hS.below⟩
  · have e : decide (l = m) = false := by rw [decide_eq_false_iff_not]; intro e; subst e; omega
    have hb : ((n : Int) != (k : Int)) = true := by simp; omega
    rw [e]
    clear hlen hn hk e
    go_enter Tryz.func81, Tryz.ntmps81
    go_wp2_with fail
    go_ret
    exact ⟨rfl, hS.below⟩
end Go.Proofs.YtneolmnpebiifaaGreatDoor
end

section
/- Lists of numbers: the document's lists. -/
set_option linter.unusedSimpArgs false
set_option linter.unusedVariables false
namespace Go.Proofs.YtneolmnpebiifaaGreatDoor
open Go.RowKit Go.Ofp
set_option linter.unusedVariables false
set_option maxRecDepth 100000
set_option maxHeartbeats 4000000

theorem elem_i : Elem Tryz.prog 3 (.int .i64 0) 1 8 := Elem.mk (by kernel_rfl) (by rfl) (by decide)
theorem vi_one (l : List Int) : ∀ u ∈ l.map vi, u.oneCell' = true := by
  intro u hu
  obtain ⟨_, _, rfl⟩ := List.mem_map.1 hu
  rfl

/-- A list that a callee made. -/
def irow (a : Option Addr) (c : Nat) (l : List Int) : Ch := Ch.row 3 1 (.slice a l.length c) l.length (l.map vi)
def IntsRet (l : List Int) (w : World) (e : Ending) (w' : World) : Prop := ∃ a c, e = .returned (.slice a l.length c) ∧ l.length ≤ c ∧ c ≤ maxLen ∧ St w [] [irow a c l] w'

theorem rminus_any (a b : Option Addr) (l m : List Int) (n k cap cap2 : Nat) (w : World) (hs : Sl w a (l.map vi)) (ht : Sl w b (m.map vi)) (hk : m.length = k) (hm2 : k ≤ maxLen) (hn : l.length = n) (hm : n ≤ 100000) :
    Calls Tryz.prog 61 #[.slice a n cap, .slice b k cap2] w (IntsRet (Ids.minus l m) w) := by
  have cH := fun (id : Int) (W : World) hsl => rhas_any b m k cap2 id W hsl hk hm2
  replace cH := Lib.hid cH
  replace ht := Lib.hid ht
  clear hm2
  have ez := elem_i
  have hS := St.start w
  replace hn := Lib.hid hn
  replace hs := Lib.hid hs
  go_enter Tryz.func61, Tryz.ntmps61
  go_wp2_with ((with_reducible refine wpList_build0_st hS rfl rfl Tryz.underlying46 elem_i ?_); intro g1 w3 hS1; clear hS; have hS := hS1; clear hS1)
  go_loopg [5, 6] n (fun gk vo vx wr => ∃ (j q : Nat) (ao : Option Addr) (co : Nat), j + gk = n ∧ q ≤ j ∧ vx = .int .i64 j ∧ vo = .slice ao q co ∧ Hid (q = (Ids.minus (l.take j) m).length) ∧ St w [] [Ch.row 3 1 (.slice ao q co) q ((Ids.minus (l.take j) m).map vi)] wr)
  case atStart => exact ⟨0, 0, _, _, Nat.zero_add _, Nat.le_refl _, rfl, rfl, Lib.hid rfl, hS⟩
  case round =>
    clear hS
    obtain ⟨j, q, ao, co, hj, hq, rfl, rfl, hql, hS⟩ := hrel
    by_cases hlt : j < n
    · obtain ⟨b1, o1, rfl, c1⟩ := sl_int hs.out j (by rw [hn.out]; exact hlt)
      have t1 := Lib.hid (take_snoc_i l j (by rw [hn.out]; exact hlt))
      generalize l[j]'(by rw [hn.out]; exact hlt) = x at c1 t1
      have c2 := hS.old c1 (by simp)
      have hb := Lib.hid (show Ids.minus (l.take (j + 1)) m = Ids.minus (l.take j) m ++ Ids.takes (!Ids.has m x) x by rw [t1.out]; unfold Ids.minus; rw [List.filter_append]; congr 1; simp [List.filter_cons, Ids.takes])
      have cX := cH.out x wr (hS.sl ht.out)
      generalize Ids.has m x = hx at cX hb
      replace cX := Lib.hid cX
      clear t1
      rcases Bool.eq_false_or_eq_true hx |>.symm with rfl | rfl
      · replace hb := Lib.hid (show Ids.minus (l.take (j + 1)) m = Ids.minus (l.take j) m ++ [x] from hb.out)
        go_wp2_with (first
          | (go_at_call 52; (with_reducible refine cX.out.mono ?_); rintro _ _ ⟨rfl, rfl⟩)
          | ((with_reducible refine wpList_build1c_st hS rfl rfl Tryz.underlying46 elem_i rfl ?_); intro g3 w3 hS1; clear hS; have hS := hS1; clear hS1)
          | (at_builtin; (with_reducible refine wpList_app_st 1 hS rfl rfl rfl Tryz.underlying46 elem_i rfl (Src.slice Tryz.underlying46 (hS.blksl 0 rfl) rfl) rfl (vi_one [x]) (by omega) (by unfold maxLen; omega) ?_); intro v5 w3 hS1; clear hS; have hS := hS1.drop; clear hS1; obtain ⟨a5, c5, rfl, -⟩ := hS.row 0 rfl))
        go_roundg (n - (j + 1))
        case measure => omega
        case rel => exact ⟨j + 1, q + 1, _, _, by omega, by omega, by go_num, rfl, Lib.hid (by rw [hb.out, hql.out]; simp), by rw [hb.out, List.map_append]; exact hS⟩
      · replace hb := Lib.hid (show Ids.minus (l.take (j + 1)) m = Ids.minus (l.take j) m from hb.out.trans (List.append_nil _))
        go_wp2_with (first | (go_at_call 52; (with_reducible refine cX.out.mono ?_); rintro _ _ ⟨rfl, rfl⟩) | fail)
        go_roundg (n - (j + 1))
        case measure => omega
        case rel => exact ⟨j + 1, q, _, _, by omega, by omega, by go_num, rfl, Lib.hid (by rw [hb.out, hql.out]), by rw [hb.out]; exact hS⟩
    · obtain rfl : j = n := by omega
      go_wp2_with fail
      go_ret
      have e1 := hql.out
      obtain ⟨_, _, e2, -, -, h1, h2⟩ := hS.row 0 rfl
      cases e2
      rw [List.take_of_length_le (by rw [hn.out]; exact Nat.le_refl _)] at e1 hS
      subst e1
      exact ⟨_, _, rfl, h1, h2, hS⟩

end Go.Proofs.YtneolmnpebiifaaGreatDoor
end

section
/- Lists of numbers: one put in, all of two. -/
set_option linter.unusedSimpArgs false
set_option linter.unusedVariables false
namespace Go.Proofs.YtneolmnpebiifaaGreatDoor
open Go.RowKit Go.Ofp
set_option linter.unusedVariables false
set_option maxRecDepth 100000
set_option maxHeartbeats 4000000

theorem place_le (l : List Int) (id : Int) : Ids.place l id ≤ l.length := List.length_filter_le _ _

theorem intsRet_mk {w w' : World} {a : Option Addr} {c n : Nat} {l : List Int} {xs : List Value} (h : St w [] [Ch.row 3 1 (.slice a n c) n xs] w') (hx : xs = l.map vi) (hn : l.length = n) : IntsRet l w (.returned (.slice a n c)) w' := by
  subst hx hn
  obtain ⟨_, _, e2, -, -, h1, h2⟩ := h.row 0 rfl
  cases e2
  exact ⟨_, _, rfl, h1, h2, h⟩

theorem nil_one : ∀ u ∈ ([] : List Value), u.oneCell' = true := by simp
theorem rput_same (a : Option Addr) (l : List Int) (n cap : Nat) (id : Int) (w : World) (hs : Sl w a (l.map vi)) (hn : l.length = n) (hm : n ≤ 100000) (h : id < 1 ∨ 1073741824 ≤ id ∨ Ids.has l id = true) :
    Calls Tryz.prog 162 #[.slice a n cap, .int .i64 id] w (IntsRet l w) := by
  have cH := fun (W : World) hsl => rhas_any a l n cap id W hsl hn (by unfold maxLen; omega)
  have ez := elem_i
  have hS := St.start w
  generalize hx : Ids.has l id = hb at cH h
  replace cH := Lib.hid cH
  replace hx := Lib.hid hx
  replace hn := Lib.hid hn
  replace hs := Lib.hid hs
  have key : id < 1 ∨ (1 ≤ id ∧ 1073741824 ≤ id) ∨ ((1 ≤ id ∧ id < 1073741824) ∧ hb = true) := by
    rcases h with h | h | h
    · exact .inl h
    · exact .inr (.inl ⟨by omega, h⟩)
    · by_cases k1 : id < 1
      · exact .inl k1
      · by_cases k2 : 1073741824 ≤ id
        · exact .inr (.inl ⟨by omega, k2⟩)
        · exact .inr (.inr ⟨⟨by omega, by omega⟩, h⟩)
  clear h
  rcases key with h | ⟨h1, h2⟩ | ⟨⟨h1, h2⟩, rfl⟩
  all_goals
    go_enter Tryz.func162, Tryz.ntmps162
    go_wp2_with (first
      | (go_at_call 52; (with_reducible refine (cH.out _ hs.out).mono ?_); rintro _ _ ⟨rfl, rfl⟩)
      | ((with_reducible refine wpList_build0_st hS rfl rfl Tryz.underlying46 elem_i ?_); intro g1 w3 hS1; clear hS; have hS := hS1; clear hS1)
      | (at_builtin; (with_reducible refine wpList_app_st 0 hS rfl rfl rfl Tryz.underlying46 elem_i rfl (Src.slice Tryz.underlying46 (hS.sl hs.out) (by simp [hn.out])) rfl (vi_one l) (by omega) (by unfold maxLen; omega) ?_); intro v5 w3 hS1; clear hS; simp only [List.set_cons_zero, Nat.zero_add, List.nil_append] at hS1; have hS := hS1; clear hS1; obtain ⟨a5, c5, rfl, -⟩ := hS.row 0 rfl))
    go_ret
    have e1 := hn.out
    obtain ⟨_, _, e2, -, -, h1, h2⟩ := hS.row 0 rfl
    cases e2
    subst e1
    exact ⟨_, _, rfl, h1, h2, hS⟩

theorem rput_new (a : Option Addr) (l : List Int) (n cap : Nat) (id : Int) (w : World) (hs : Sl w a (l.map vi)) (hn : l.length = n) (hm : n ≤ 100000) (hnc : n ≤ cap) (h1 : 1 ≤ id) (h2 : id < 1073741824) (h3 : Ids.has l id = false) :
    Calls Tryz.prog 162 #[.slice a n cap, .int .i64 id] w (IntsRet (l.take (Ids.place l id) ++ id :: l.drop (Ids.place l id)) w) := by
  have cH := fun (W : World) hsl => rhas_any a l n cap id W hsl hn (by unfold maxLen; omega)
  have cP := fun (W : World) hsl => rplace_any a l n cap id W hsl hn (by unfold maxLen; omega)
  have ez := elem_i
  have hS := St.start w
  rw [h3] at cH
  have hp := place_le l id
  rw [hn] at hp
  generalize Ids.place l id = p at cP hp ⊢
  have hs1 : Sl w a ((l.take p).map vi) := by rw [List.map_take]; exact hs.take p
  have hl1 : ((l.take p).map vi).length = p * 1 := by simp; omega
  replace cH := Lib.hid cH
  replace cP := Lib.hid cP
  replace h3 := Lib.hid h3
  replace hs1 := Lib.hid hs1
  replace hl1 := Lib.hid hl1
  have hs2 : ∀ b off, a = some ⟨b, off, none⟩ → Sl w (some ⟨b, off + p, none⟩) ((l.drop p).map vi) := by
    rintro b off rfl
    have := hs.drop p
    rwa [← List.map_drop] at this
  have hl2 : ((l.drop p).map vi).length = (n - p) * 1 := by simp; omega
  have hfin : l.take p ++ [id] ++ l.drop p = l.take p ++ id :: l.drop p := by simp
  have hln : (l.take p ++ id :: l.drop p).length = p + 1 + (n - p) := by simp; omega
  replace hl2 := Lib.hid hl2
  replace hfin := Lib.hid hfin
  replace hln := Lib.hid hln
  replace hs2 := Lib.hid hs2
  by_cases hz : n = 0
  · subst hz
    obtain rfl : l = [] := List.length_eq_zero_iff.1 hn
    obtain rfl : p = 0 := by omega
    clear hs1 hs2 hnc hl1 hl2
    replace hs := Lib.hid hs
    replace hn := Lib.hid hn
    cases a with
    | none =>
      go_enter Tryz.func162, Tryz.ntmps162
      go_wp2_with (first
        | (go_at_call 52; (with_reducible refine (cH.out _ hs.out).mono ?_); rintro _ _ ⟨rfl, rfl⟩)
        | (go_at_call 181; (with_reducible refine (cP.out _ (hS.sl hs.out)).mono ?_); rintro _ _ ⟨rfl, rfl⟩)
        | ((with_reducible refine wpList_build0_st hS rfl rfl Tryz.underlying46 elem_i ?_); intro g1 w3 hS1; clear hS; have hS := hS1; clear hS1)
        | ((with_reducible refine wpList_build1c_st hS rfl rfl Tryz.underlying46 elem_i rfl ?_); intro g3 w3 hS1; clear hS; have hS := hS1; clear hS1)
        | (at_builtin; (with_reducible refine wpList_app_st 1 hS rfl rfl rfl Tryz.underlying46 elem_i rfl (Src.slice Tryz.underlying46 (hS.blksl 0 rfl) rfl) rfl (vi_one [id]) (by omega) (by unfold maxLen; omega) ?_); intro v5 w3 hS1; clear hS; have hS := hS1.drop; clear hS1; obtain ⟨a6, c6, rfl, -⟩ := hS.row 0 rfl)
        | (at_builtin; (with_reducible refine wpList_app_st 0 hS rfl rfl rfl Tryz.underlying46 elem_i rfl (Src.slice Tryz.underlying46 (Sl.nil _ _) (by simp)) rfl nil_one (by omega) (by unfold maxLen; omega) ?_); intro v5 w3 hS1; clear hS; simp only [List.set_cons_zero, Nat.zero_add, List.nil_append] at hS1; have hS := hS1; clear hS1; obtain ⟨a5, c5, rfl, -⟩ := hS.row 0 rfl)
        | (at_builtin; (with_reducible refine wpList_app_st 0 hS rfl rfl rfl Tryz.underlying46 elem_i rfl (Src.slice Tryz.underlying46 (Sl.nil _ _) (by simp)) rfl nil_one (by omega) (by unfold maxLen; omega) ?_); intro v5 w3 hS1; clear hS; have hS := hS1; clear hS1; obtain ⟨a7, c7, rfl, -⟩ := hS.row 0 rfl))
      go_ret
      have r := intsRet_mk hS (l := ([] : List Int).take 0 ++ id :: ([] : List Int).drop 0) (by simp) (by simp)
      exact r
    | some ad =>
      obtain ⟨b, off, spot⟩ := ad
      go_enter Tryz.func162, Tryz.ntmps162
      go_wp2_with (first
        | (go_at_call 52; (with_reducible refine (cH.out _ hs.out).mono ?_); rintro _ _ ⟨rfl, rfl⟩)
        | (go_at_call 181; (with_reducible refine (cP.out _ (hS.sl hs.out)).mono ?_); rintro _ _ ⟨rfl, rfl⟩)
        | ((with_reducible refine wpList_build0_st hS rfl rfl Tryz.underlying46 elem_i ?_); intro g1 w3 hS1; clear hS; have hS := hS1; clear hS1)
        | ((with_reducible refine wpList_build1c_st hS rfl rfl Tryz.underlying46 elem_i rfl ?_); intro g3 w3 hS1; clear hS; have hS := hS1; clear hS1)
        | (at_builtin; (with_reducible refine wpList_app_st 1 hS rfl rfl rfl Tryz.underlying46 elem_i rfl (Src.slice Tryz.underlying46 (hS.blksl 0 rfl) rfl) rfl (vi_one [id]) (by omega) (by unfold maxLen; omega) ?_); intro v5 w3 hS1; clear hS; have hS := hS1.drop; clear hS1; obtain ⟨a6, c6, rfl, -⟩ := hS.row 0 rfl)
        | (at_builtin; (with_reducible refine wpList_app_st 0 hS rfl rfl rfl Tryz.underlying46 elem_i rfl (Src.slice Tryz.underlying46 (Sl.nil _ _) (by simp)) rfl nil_one (by omega) (by unfold maxLen; omega) ?_); intro v5 w3 hS1; clear hS; simp only [List.set_cons_zero, Nat.zero_add, List.nil_append] at hS1; have hS := hS1; clear hS1; obtain ⟨a5, c5, rfl, -⟩ := hS.row 0 rfl)
        | (at_builtin; (with_reducible refine wpList_app_st 0 hS rfl rfl rfl Tryz.underlying46 elem_i rfl (Src.slice Tryz.underlying46 (Sl.nil _ _) (by simp)) rfl nil_one (by omega) (by unfold maxLen; omega) ?_); intro v5 w3 hS1; clear hS; have hS := hS1; clear hS1; obtain ⟨a7, c7, rfl, -⟩ := hS.row 0 rfl))
      go_ret
      have r := intsRet_mk hS (l := ([] : List Int).take 0 ++ id :: ([] : List Int).drop 0) (by simp) (by simp)
      exact r
  · obtain ⟨b, off, rfl⟩ := hs.cells (by intro e; rw [← hn] at hz; simp at e; simp [e] at hz)
    replace hs2 := hs2.out b off rfl
    by_cases hcp : cap = p
    · subst hcp
      obtain rfl : n = cap := by omega
      have hdn : l.drop n = [] := List.drop_of_length_le (by omega)
      rw [hdn] at hfin hln ⊢
      clear hl2
      replace hs := Lib.hid hs
      replace hn := Lib.hid hn
      replace hz := Lib.hid hz
      clear hs2 hdn
      go_enter Tryz.func162, Tryz.ntmps162
      go_wp2_with (first
        | (go_at_call 52; (with_reducible refine (cH.out _ hs.out).mono ?_); rintro _ _ ⟨rfl, rfl⟩)
        | (go_at_call 181; (with_reducible refine (cP.out _ (hS.sl hs.out)).mono ?_); rintro _ _ ⟨rfl, rfl⟩)
        | ((with_reducible refine wpList_build0_st hS rfl rfl Tryz.underlying46 elem_i ?_); intro g1 w3 hS1; clear hS; have hS := hS1; clear hS1)
        | ((with_reducible refine wpList_build1c_st hS rfl rfl Tryz.underlying46 elem_i rfl ?_); intro g3 w3 hS1; clear hS; have hS := hS1; clear hS1)
        | (at_builtin; (with_reducible refine wpList_app_st 1 hS rfl rfl rfl Tryz.underlying46 elem_i rfl (Src.slice Tryz.underlying46 (hS.blksl 0 rfl) rfl) rfl (vi_one [id]) (by omega) (by unfold maxLen; omega) ?_); intro v5 w3 hS1; clear hS; have hS := hS1.drop; clear hS1; obtain ⟨a6, c6, rfl, -⟩ := hS.row 0 rfl)
        | (at_builtin; (with_reducible refine wpList_app_st 0 hS rfl rfl rfl Tryz.underlying46 elem_i rfl (Src.slice Tryz.underlying46 (hS.sl hs1.out) hl1.out) rfl (vi_one _) (by omega) (by unfold maxLen; omega) ?_); intro v5 w3 hS1; clear hS; simp only [List.set_cons_zero, Nat.zero_add, List.nil_append] at hS1; have hS := hS1; clear hS1; obtain ⟨a5, c5, rfl, -⟩ := hS.row 0 rfl)
        | (at_builtin; (with_reducible refine wpList_app_st 0 hS rfl rfl rfl Tryz.underlying46 elem_i rfl (Src.slice Tryz.underlying46 (Sl.nil _ _) (by simp)) rfl nil_one (by omega) (by unfold maxLen; omega) ?_); intro v5 w3 hS1; clear hS; have hS := hS1; clear hS1; obtain ⟨a7, c7, rfl, -⟩ := hS.row 0 rfl))
      go_ret
      have r := intsRet_mk hS (l := l.take n ++ id :: []) (by simp) (by have := hln.out; omega)
      exact r
    · replace hs2 := Lib.hid hs2
      replace hs := Lib.hid hs
      replace hn := Lib.hid hn
      replace hz := Lib.hid hz
      go_enter Tryz.func162, Tryz.ntmps162
      go_wp2_with (first
        | (go_at_call 52; (with_reducible refine (cH.out _ hs.out).mono ?_); rintro _ _ ⟨rfl, rfl⟩)
        | (go_at_call 181; (with_reducible refine (cP.out _ (hS.sl hs.out)).mono ?_); rintro _ _ ⟨rfl, rfl⟩)
        | ((with_reducible refine wpList_build0_st hS rfl rfl Tryz.underlying46 elem_i ?_); intro g1 w3 hS1; clear hS; have hS := hS1; clear hS1)
        | ((with_reducible refine wpList_build1c_st hS rfl rfl Tryz.underlying46 elem_i rfl ?_); intro g3 w3 hS1; clear hS; have hS := hS1; clear hS1)
        | (at_builtin; (with_reducible refine wpList_app_st 1 hS rfl rfl rfl Tryz.underlying46 elem_i rfl (Src.slice Tryz.underlying46 (hS.blksl 0 rfl) rfl) rfl (vi_one [id]) (by omega) (by unfold maxLen; omega) ?_); intro v5 w3 hS1; clear hS; have hS := hS1.drop; clear hS1; obtain ⟨a6, c6, rfl, -⟩ := hS.row 0 rfl)
        | (at_builtin; (with_reducible refine wpList_app_st 0 hS rfl rfl rfl Tryz.underlying46 elem_i rfl (Src.slice Tryz.underlying46 (hS.sl hs1.out) hl1.out) rfl (vi_one _) (by omega) (by unfold maxLen; omega) ?_); intro v5 w3 hS1; clear hS; simp only [List.set_cons_zero, Nat.zero_add, List.nil_append] at hS1; have hS := hS1; clear hS1; obtain ⟨a5, c5, rfl, -⟩ := hS.row 0 rfl)
        | (at_builtin; (with_reducible refine wpList_app_st 0 hS rfl rfl rfl Tryz.underlying46 elem_i rfl (Src.slice Tryz.underlying46 (hS.sl hs2.out) hl2.out) rfl (vi_one _) (by omega) (by unfold maxLen; omega) ?_); intro v5 w3 hS1; clear hS; have hS := hS1; clear hS1; obtain ⟨a7, c7, rfl, -⟩ := hS.row 0 rfl))
      go_ret
      have r := intsRet_mk hS (l := l.take p ++ id :: l.drop p) (by rw [← hfin.out]; simp) hln.out
      exact r

theorem rput_any (a : Option Addr) (l : List Int) (n cap : Nat) (id : Int) (w : World) (hs : Sl w a (l.map vi)) (hn : l.length = n) (hm : n ≤ 100000) (hnc : n ≤ cap) :
    Calls Tryz.prog 162 #[.slice a n cap, .int .i64 id] w (IntsRet (Ids.put l id) w) := by
  by_cases h : id < 1 ∨ 1073741824 ≤ id ∨ Ids.has l id = true
  · rw [show Ids.put l id = l by unfold Ids.put; rw [if_pos h]]
    exact rput_same a l n cap id w hs hn hm h
  · rw [show Ids.put l id = l.take (Ids.place l id) ++ id :: l.drop (Ids.place l id) by unfold Ids.put; rw [if_neg h]]
    have h3 : Ids.has l id = false := by
      cases e : Ids.has l id with
      | false => rfl
      | true => exact absurd (.inr (.inr e)) h
    exact rput_new a l n cap id w hs hn hm hnc (by omega) (by omega) h3

end Go.Proofs.YtneolmnpebiifaaGreatDoor
end
