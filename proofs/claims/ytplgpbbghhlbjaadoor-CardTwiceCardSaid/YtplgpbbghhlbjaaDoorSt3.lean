/- More laws of the walk: slices of structs of the call's own. -/
import Derived.Test.YtplgpbbghhlbjaaDoorSt2
set_option linter.unusedSimpArgs false
set_option linter.unusedVariables false
namespace Go.Ofp
open Go.RowKit

section
variable {P : Program} {w w0 : World} {F : List Nat} {L : List Ch} {ops : Array Oper} {rest : List Oper} {o : Oper} {a : Act} {Q : Exit → Act → World → Prop} {K : Act → World → Prop}

theorem ownsRow_set {e size n c g j : Nat} {xs vs : List Value} (h : w.ownsRow 0 e size (.slice (some ⟨g, 0, none⟩) n c) n xs) (hj : j < n) (hl : vs.length = size) (h1 : ∀ v ∈ vs, v.oneCell' = true) :
    ∃ w', (storeCells ⟨g, j * size, none⟩ vs 0).run P w = .ok () w' ∧ w'.ownsRow 0 e size (.slice (some ⟨g, 0, none⟩) n c) n (xs.take (j * size) ++ vs ++ xs.drop (j * size + size)) ∧ Fr [g] w w' := by
  rcases h.2 with ⟨h, _⟩ | ⟨g', cap, cur, hv, _, hgc, hnc, hcm, hcs, htake⟩
  · cases h
  cases hv
  have hmul : j * size + size ≤ n * size := by rw [← Nat.succ_mul]; exact Nat.mul_le_mul_right _ hj
  have hmul2 : n * size ≤ c * size := Nat.mul_le_mul_right _ hnc
  have hst := run_storeCells_at P g (j * size) e vs 0 cur w hgc (by omega) h1
  simp only [Nat.add_zero, hl] at hst
  refine ⟨_, hst, ⟨?_, .inr ⟨g, c, _, rfl, Nat.zero_le _, setRow_heap w g cur _ e _ hgc, hnc, hcm, ?_, ?_⟩⟩, Fr.of_grown ⟨rfl, rfl, rfl, by simp, fun k _ hk => setRow_other w g k _ (fun e => hk (by simp [e]))⟩⟩
  · have := h.1
    simp only [List.length_append, List.length_take, List.length_drop]
    omega
  · simp only [List.size_toArray, List.length_append, List.length_take, List.length_drop, Array.length_toList]
    omega
  · have hlc : cur.toList.length = c * size := by simpa using hcs
    rw [← htake]
    simp only [List.take_take, Nat.min_eq_left (show j * size ≤ n * size by omega)]
    rw [List.take_append, List.take_of_length_le (by simp only [List.length_append, List.length_take]; omega), List.drop_take]
    congr 1
    simp only [List.length_append, List.length_take, hl]
    congr 1
    omega

/-- An element of a slice of the call's own is written. -/
theorem wpList_storeelem_st (i j : Nat) {e size n c g k : Nat} {xs : List Value} (hS : St w0 F L w) (hi : L[i]? = some (Ch.row e size (.slice (some ⟨g, 0, none⟩) n c) n xs)) (hgd : o.guard = none) {t : TypeId} {x y : Operand} (ho : o.op = .store t x y) (hx : a.eval x = .pointer (some ⟨g, k, none⟩)) (hk : k = j * size)
    (hsz : sizeB P t size = true) {vs : List Value} (hy : a.eval y = .agg vs.toArray) (hl : vs.length = size) (hv : vs.all Value.oneCell' = true) (hj : j < n)
    (h : ∀ w', St w0 F (L.set i (Ch.row e size (.slice (some ⟨g, 0, none⟩) n c) n (xs.take (j * size) ++ vs ++ xs.drop (j * size + size)))) w' → wpList P ops Q rest (a.put o.dst undef) w') : wpList P ops Q (o :: rest) a w := by
  refine wpList_plain hgd fun K hK => ?_
  subst hk
  have h3 : (P.info? t).map (·.size) = some size := by simpa [sizeB] using hsz
  obtain ⟨ii, hii, hi1⟩ := Option.map_eq_some_iff.1 h3
  obtain ⟨w', k1, k2, k3⟩ := ownsRow_set (P := P) (hS.get i hi) hj hl (fun v hv' => List.all_eq_true.1 hv v hv')
  have hr : (Instr.storeAt t (.pointer (some ⟨g, j * size, none⟩)) (.agg vs.toArray)).run P w = .ok () w' := by
    simp [Instr.storeAt, Instr.sureAddr, storeVar, sizeOf, typeInfo, hii, hi1, Value.cells, hl, k1]
  unfold Oper.wp execOp
  simp only [ho, hx, hy, Sem.run_bind, hr, Result.andThen_ok, Sem.run_pure]
  refine hK _ _ (h _ (hS.upd i hi k3 (by simp [Ch.row, Value.ownBlock]) k2 (by simp [Ch.row, Value.ownBlock])))

/-- An element of a slice of the call's own is read. -/
theorem wpList_loadelem_st (i j : Nat) {e size n c g k m : Nat} {xs : List Value} (hS : St w0 F L w) (hi : L[i]? = some (Ch.row e size (.slice (some ⟨g, 0, none⟩) n c) m xs)) (hgd : o.guard = none) {t : TypeId} {x : Operand} (ho : o.op = .load t x) (hx : a.eval x = .pointer (some ⟨g, k, none⟩)) (hk : k = j * size)
    (hu : rowB P t = true) (hsz : sizeB P t size = true) {vs : List Value} (hv : (xs.drop (j * size)).take size = vs) (hl : vs.length = size) (h : wpList P ops Q rest (a.put o.dst (.agg vs.toArray)) w) : wpList P ops Q (o :: rest) a w := by
  refine wpList_plain hgd fun K hK => ?_
  subst hk
  subst hv
  have hsl := hS.rowsl i hi
  have hr := run_loadrow (w := w) hu hsz (g := g) (j := j * size) hl (fun q v hq => by
    rw [List.getElem?_take] at hq
    split at hq
    · rw [List.getElem?_drop] at hq
      have := hsl.add (j * size + q) v hq
      rw [Addr.add_lit, Nat.zero_add] at this
      exact this
    · cases hq)
  unfold Oper.wp execOp
  simp only [ho, hx, Sem.run_bind, hr, Result.andThen_ok, Sem.run_pure]
  exact hK _ _ h

/-- append in a region that draws its order. -/
theorem op_app_st (hw : Region.wanted o (yielded ops a.tmps) = true) (i : Nat) {e size n : Nat} {v : Value} {xs : List Value} (hS : St w0 F L w) (hi : L[i]? = some (Ch.row e size v n xs)) {s x : Operand} {t tx : TypeId} (ho : o.op = .call { callee := .builtin .append, args := #[s, x], argTypes := #[t, tx] })
    (ht : P.underlying t = some (.slice e)) {z : Value} {bytes : Nat} (he : Elem P e z size bytes) (hs : a.eval s = v)
    {xv : Value} {m : Nat} {news : List Value} (hx : Src P w tx xv size m news) (hxv : a.eval x = xv) (h1 : ∀ u ∈ news, u.oneCell' = true)
    (hb : (n + m) * bytes ≤ 140737488355328) (h63 : n + m ≤ maxLen)
    (h : ∀ v' w', St w0 F (L.set i (Ch.row e size v' (n + m) (xs ++ news))) w' → K (a.put o.dst v') w') : if Region.wanted o (yielded ops a.tmps) = true then Oper.wp P o a w K Q else K (a.put o.dst undef) w := by
  rw [if_pos hw]
  obtain ⟨v', w', hr, h2, h3, h4⟩ := run_app w t tx o.type e ht he (hS.get i hi) hx h1 hb h63 (Nat.zero_le _)
  unfold Oper.wp execOp
  simp only [ho, resolve, invoke, builtin, Sem.run_bind, Sem.run_pure, Result.andThen_ok, List.map_toArray, List.map_cons, List.map_nil, hs, hxv, hr]
  refine h v' w' (hS.upd i hi (Fr.of_row h3) (by intro g hg; exact hg) h2 ?_)
  intro g hg
  rcases h4 with h4 | h4
  · left; simpa [Ch.row, h4] using hg
  · right
    simp [Ch.row, h4] at hg
    omega

/-- An empty slice of the call's own. -/
theorem St.nilrow (hS : St w0 F L w) (e size : Nat) : St w0 F (Ch.row e size (.slice none 0 0) 0 [] :: L) w :=
  hS.push (Fr.refl _ _) (World.ownsRow_nil w 0 e size) (by simp [Ch.row, Value.ownBlock])

/-- What an own slice of at least one element is. -/
theorem St.rowat {e size n : Nat} {v : Value} {xs : List Value} (hS : St w0 F L w) (i : Nat) (hi : L[i]? = some (Ch.row e size v n xs)) (hn : 0 < n) : ∃ g c, v = .slice (some ⟨g, 0, none⟩) n c ∧ n ≤ c ∧ c ≤ maxLen := by
  rcases (hS.get i hi).2 with ⟨_, h⟩ | ⟨g, c, cur, rfl, _, _, h1, h2, _⟩
  · omega
  · exact ⟨g, c, rfl, h1, h2⟩
end

/-- What 'make' has laid: so many zero elements. -/
theorem made_rows (z : List Value) (n : Nat) (hz : 0 < z.length) : (madeCells z.toArray (n * z.length)).toList = (List.replicate n z).flatten := by
  have key : ∀ n i, i < n * z.length → ((List.replicate n z).flatten)[i]? = z[i % z.length]? := by
    intro n
    induction n with
    | zero => intro i hi; omega
    | succ n ih =>
      intro i hi
      rw [List.replicate_succ, List.flatten_cons]
      by_cases h : i < z.length
      · rw [List.getElem?_append_left h, Nat.mod_eq_of_lt h]
      · rw [List.getElem?_append_right (by omega), ih _ (by rw [Nat.succ_mul] at hi; omega), ← Nat.mod_eq_sub_mod (by omega)]
  have hl : ((List.replicate n z).flatten).length = n * z.length := by simp
  refine List.ext_getElem? fun i => ?_
  by_cases h : i < n * z.length
  · rw [key n i h]
    have hm : i % z.length < z.length := Nat.mod_lt _ hz
    simp [madeCells, h, hm]
  · rw [List.getElem?_eq_none (by simp [madeCells]; omega), List.getElem?_eq_none (by omega)]

/-- A cut of a slice of structs, whose address bears Go's own 'if'. -/
theorem Sl.cutn {w : World} {b off off' k cap : Nat} {xs : List Value} (h : Sl w (some ⟨b, off', none⟩) xs) (hc : cap = k → xs = []) :
    Sl w (if cap = k then some ⟨b, off, none⟩ else some ⟨b, off', none⟩) xs := by
  split
  · rename_i e
    rw [hc e]
    exact Sl.nil _ _
  · exact h
end Go.Ofp
