/- The reference's disks in memory; its step, put, Write, Read, Sync, Crash, New. -/
import Derived.Test.YtlhpibniecfofaaDisk9
import Derived.Test.YtlhpibniecfofaaSt6
set_option linter.unusedSimpArgs false
set_option linter.unusedVariables false
namespace Go.Ofp
open Go.RowKit
section
variable {P : Program} {w w0 : World} {F : List Nat} {L : List Ch} {ops : Array Oper} {rest : List Oper} {o : Oper} {a : Act} {Q : Exit → Act → World → Prop} {K : Act → World → Prop}
/-- A cell of a slice of the call's own is read. -/
theorem wpList_loadcell_st (i : Nat) {e size n c g k m : Nat} {xs : List Value} (hS : St w0 F L w) (hi : L[i]? = some (Ch.row e size (.slice (some ⟨g, 0, none⟩) n c) m xs)) (hgd : o.guard = none) {t : TypeId} {x : Operand} (ho : o.op = .load t x) (hx : a.eval x = .pointer (some ⟨g, k, none⟩))
    (hu : scalarB P t = true) {v : Value} (hv : xs[k]? = some v) (h : wpList P ops Q rest (a.put o.dst v) w) : wpList P ops Q (o :: rest) a w := by
  refine wpList_plain hgd fun K hK => ?_
  have hc : w.cell? ⟨g, k, none⟩ = some v := by
    have := (hS.rowsl i hi).add k v hv
    rwa [Addr.add_lit, Nat.zero_add] at this
  have hr := run_load1 hu hc
  unfold Oper.wp execOp
  simp only [ho, hx, Sem.run_bind, hr, Result.andThen_ok, Sem.run_pure]
  exact hK _ _ h
theorem op_loadcell_st (hw : Region.wanted o (yielded ops a.tmps) = true) (i : Nat) {e size n c g k m : Nat} {xs : List Value} (hS : St w0 F L w) (hi : L[i]? = some (Ch.row e size (.slice (some ⟨g, 0, none⟩) n c) m xs)) {t : TypeId} {x : Operand} (ho : o.op = .load t x) (hx : a.eval x = .pointer (some ⟨g, k, none⟩))
    (hu : scalarB P t = true) {v : Value} (hv : xs[k]? = some v) (h : K (a.put o.dst v) w) : if Region.wanted o (yielded ops a.tmps) = true then Oper.wp P o a w K Q else K (a.put o.dst undef) w := by
  rw [if_pos hw]
  have hc : w.cell? ⟨g, k, none⟩ = some v := by
    have := (hS.rowsl i hi).add k v hv
    rwa [Addr.add_lit, Nat.zero_add] at this
  have hr := run_load1 hu hc
  unfold Oper.wp execOp
  simp only [ho, hx, Sem.run_bind, hr, Result.andThen_ok, Sem.run_pure]
  exact h
/-- []T{x}, x a struct. -/
theorem wpList_build1a_st (hS : St w0 F L w) (hgd : o.guard = none) {t : TypeId} {x : Operand} (ho : o.op = .buildSlice t 1 #[(0, x)]) {e : TypeId} (ht : P.underlying t = some (.slice e)) {z : Value} {size bytes : Nat} (he : Elem P e z size bytes)
    {cs : Array Value} (hx : a.eval x = .agg cs) (hv : cs.size = size) (hs : size ≤ 16777216)
    (h : ∀ g w', St w0 F (Ch.blk g e cs :: L) w' → wpList P ops Q rest (a.put o.dst (.slice (some ⟨g, 0, none⟩) 1 1)) w') : wpList P ops Q (o :: rest) a w := by
  refine wpList_plain hgd fun K hK => ?_
  have hr := run_build1 w t e ht he (v := .agg cs) hv hs
  unfold Oper.wp execOp
  simp only [ho, List.map_toArray, List.map_cons, List.map_nil, hx, Sem.run_bind, hr, Result.andThen_ok, Sem.run_pure]
  exact hK _ _ (h _ _ (hS.alloc cs e))
/-- Pieces number i, j, k. -/
theorem St.pick3 (i j k : Nat) {A B C : Ch} (h : St w0 F L w) (hi : L[i]? = some A) (hj : L[j]? = some B) (hk : L[k]? = some C) (hd : i ≠ j ∧ i ≠ k ∧ j ≠ k) : St w0 F [A, B, C] w := by
  refine h.pick (fun q => if q = 0 then i else if q = 1 then j else k) ?_ ?_
  · intro q c hc
    match q with
    | 0 => simp at hc; subst hc; exact hi
    | 1 => simp at hc; subst hc; exact hj
    | 2 => simp at hc; subst hc; exact hk
    | q + 3 => simp at hc
  · intro p q hp hq hpq
    simp at hp hq
    obtain ⟨h1, h2, h3⟩ := hd
    match p, q with
    | 0, 0 => omega
    | 0, 1 => simpa using h1
    | 0, 2 => simpa using h2
    | 1, 0 => simpa using fun e => h1 e.symm
    | 1, 1 => omega
    | 1, 2 => simpa using h3
    | 2, 0 => simpa using fun e => h2 e.symm
    | 2, 1 => simpa using fun e => h3 e.symm
    | 2, 2 => omega
    | p + 3, _ => omega
    | _, q + 3 => omega
end
namespace Dk
theorem over_none (i : Int) (l : List Wt) (s : Sc) (h : ∀ x ∈ l, x.place ≠ i) : l.foldl (over i) s = s := by
  induction l generalizing s with
  | nil => rfl
  | cons x l ih => rw [List.foldl_cons, over, if_neg (h x (by simp)), ih _ fun y hy => h y (by simp [hy])]
/-- The last write that waits for a sector is what is seen. -/
theorem see_last (d : Dk) (i : Int) (j : Nat) (hj : j < d.wait.length) (hx : d.wait[j].place = i) (h : ∀ x ∈ d.wait.drop (j + 1), x.place ≠ i) : d.see i = ⟨d.wait[j].b, false⟩ := by
  have e : d.see i = d.wait.foldl (over i) (d.sec.getD i.toNat ⟨[], true⟩) := rfl
  have e2 : d.wait.foldl (over i) (d.sec.getD i.toNat ⟨[], true⟩) = (d.wait.take (j + 1) ++ d.wait.drop (j + 1)).foldl (over i) (d.sec.getD i.toNat ⟨[], true⟩) := by rw [List.take_append_drop]
  rw [e, e2, List.foldl_append, List.take_succ_eq_append_getElem hj, List.foldl_append, over_none _ _ _ h]
  simp only [List.foldl_cons, List.foldl_nil]
  rw [over, if_pos hx]
theorem see_none (d : Dk) (i : Int) (h : ∀ x ∈ d.wait, x.place ≠ i) : d.see i = d.sec.getD i.toNat ⟨[], true⟩ := over_none _ _ _ h
end Dk
end Go.Ofp
namespace Go.Proofs.Ytlhpibniecfofaa
open Go.RowKit Go.Ofp
set_option linter.unusedVariables false
set_option maxRecDepth 100000
set_option maxHeartbeats 4000000

/-- A sector as the reference has it: no bytes where it is bad. -/
def rsc (s : Sc) : Value := .string (str (if s.bad then [] else s.b))
def rwt (x : Wt) : List Value := [.int .i64 x.place, .string (str x.b)]
/-- The reference's disk in memory. -/
def rdk (g : Nat) (sv wv : Value) (d : Dk) : List Ch :=
  [Ch.blk g 29 #[sv, wv, .int .i64 d.fuse, .bool d.dead], Ch.row 9 1 sv d.sec.length (d.sec.map rsc), Ch.row 141 2 wv d.wait.length (d.wait.map rwt).flatten]

theorem elem_str : Elem Try.prog 9 (.string ⟨#[]⟩) 1 16 := Elem.mk (by kernel_rfl) (by rfl) (by decide)
theorem elem_rwt : Elem Try.prog 141 (.agg #[.int .i64 0, .string ⟨#[]⟩]) 2 24 := Elem.mk (by kernel_rfl) (by rfl) (by decide)
theorem elem_rdk : Elem Try.prog 29 (.agg #[.slice none 0 0, .slice none 0 0, .int .i64 0, .bool false]) 4 64 := Elem.mk (by kernel_rfl) (by rfl) (by decide)
theorem rsc_all (l : List Sc) : ∀ u ∈ l.map rsc, u.oneCell' = true := by
  intro u hu
  obtain ⟨x, -, rfl⟩ := List.mem_map.1 hu
  rfl
theorem rwt_all (l : List Wt) : ∀ u ∈ (l.map rwt).flatten, u.oneCell' = true := by
  intro u hu
  obtain ⟨r, hr, hu⟩ := List.mem_flatten.1 hu
  obtain ⟨x, -, rfl⟩ := List.mem_map.1 hr
  simp [rwt] at hu
  rcases hu with rfl | rfl <;> rfl
theorem rwt_len (l : List Wt) : (l.map rwt).flatten.length = l.length * 2 := by
  rw [flat_len2 2 _ (by intro r hr; obtain ⟨x, -, rfl⟩ := List.mem_map.1 hr; rfl), List.length_map]
theorem rwt_cell (l : List Wt) (j : Nat) (hj : j < l.length) : (l.map rwt).flatten[j * 2]? = some (.int .i64 l[j].place) ∧ (l.map rwt).flatten[j * 2 + 1]? = some (.string (str l[j].b)) := by
  have h : ∀ r ∈ l.map rwt, r.length = 2 := by intro r hr; obtain ⟨x, -, rfl⟩ := List.mem_map.1 hr; rfl
  have h0 := flatten_get 2 _ h j 0 (by simpa using hj) (by omega)
  have h1 := flatten_get 2 _ h j 1 (by simpa using hj) (by omega)
  simp [rwt] at h0 h1
  exact ⟨h0, h1⟩

theorem rstep_any (g : Nat) (sv wv : Value) (d : Dk) (w : World) (h : St w (feet (rdk g sv wv d)) (rdk g sv wv d) w) (hf : -9223372036854775808 ≤ d.fuse ∧ d.fuse ≤ 9223372036854775807) (hd : d.dead = false) :
    Calls Try.prog 81 #[.pointer (some ⟨g, 0, none⟩)] w fun e w' => e = .returned (.bool d.step.dead) ∧ St w (feet (rdk g sv wv d)) (rdk g sv wv d.step) w' := by
  generalize feet (rdk g sv wv d) = F at h ⊢
  have hS := h
  clear h
  unfold rdk at hS ⊢
  rw [Dk.step_sec, Dk.step_wait]
  unfold Dk.step
  obtain ⟨sec, wait, fuse, dead⟩ := d
  simp only at hS hf hd ⊢
  subst hd
  generalize List.map rsc sec = R1 at hS ⊢
  generalize (List.map rwt wait).flatten = R2 at hS ⊢
  by_cases h0 : fuse = 0
  · subst h0
    go_enter Try.func81, Try.ntmps81
    go_wp2_with (first | (with_reducible refine wpList_box_st hS rfl rfl rfl ?_; intro g1 w1 hS1; clear hS; replace hS := hS1; clear hS1) | (with_reducible refine wpList_box1_st hS rfl rfl rfl ?_; intro g1 w1 hS1; clear hS; replace hS := hS1; clear hS1) | (with_reducible refine wpList_alloc_st hS rfl rfl (by assumption) ?_; intro g1 w1 hS1; clear hS; replace hS := hS1; clear hS1) | (with_reducible refine wpList_alloc1_st hS rfl rfl (by assumption) rfl ?_; intro g1 w1 hS1; clear hS; replace hS := hS1; clear hS1) | ((with_reducible refine wpList_load_st 0 hS rfl rfl rfl rfl ?_ rfl ?_); focus (simp [scalarB, go_sem]; done)) | ((with_reducible refine wpList_loadall_st 0 hS rfl rfl rfl rfl ?_ (by kernel_rfl) ?_); focus (simp [rowB, go_sem]; done)) | ((with_reducible refine wpList_store_st 0 hS rfl rfl rfl rfl (by kernel_rfl) rfl rfl ?_); intro w1 hS1; clear hS; replace hS := hS1; clear hS1; try simp only [List.set_cons_zero, List.set_cons_succ, List.setIfInBounds_toArray, List.take_succ_cons, List.take_zero, List.drop_succ_cons, List.drop_zero, List.nil_append, List.cons_append, List.append_nil, List.drop_nil, List.take_nil, List.length_cons, List.length_nil, Nat.zero_add, Nat.add_zero, Nat.reduceAdd] at hS) | ((with_reducible refine wpList_storerow_st 0 hS rfl rfl rfl rfl (by kernel_rfl) rfl rfl rfl rfl ?_); intro w1 hS1; clear hS; replace hS := hS1; clear hS1; try simp only [List.set_cons_zero, List.set_cons_succ, List.setIfInBounds_toArray, List.take_succ_cons, List.take_zero, List.drop_succ_cons, List.drop_zero, List.nil_append, List.cons_append, List.append_nil, List.drop_nil, List.take_nil, List.length_cons, List.length_nil, Nat.zero_add, Nat.add_zero, Nat.reduceAdd] at hS))
    go_ret
    exact ⟨rfl, hS⟩
  · rw [if_neg h0]
    have b0 : (fuse == 0) = false := by rw [beq_eq_false_iff_ne]; exact h0
    by_cases h1 : 0 < fuse
    · rw [if_pos h1]
      have hw : IntKind.i64.wrap (fuse - 1) = fuse - 1 := IntWalk.i64_in _ (by omega)
      clear h0
      go_enter Try.func81, Try.ntmps81
      go_wp2_with (first | (with_reducible refine wpList_box_st hS rfl rfl rfl ?_; intro g1 w1 hS1; clear hS; replace hS := hS1; clear hS1) | (with_reducible refine wpList_box1_st hS rfl rfl rfl ?_; intro g1 w1 hS1; clear hS; replace hS := hS1; clear hS1) | (with_reducible refine wpList_alloc_st hS rfl rfl (by assumption) ?_; intro g1 w1 hS1; clear hS; replace hS := hS1; clear hS1) | (with_reducible refine wpList_alloc1_st hS rfl rfl (by assumption) rfl ?_; intro g1 w1 hS1; clear hS; replace hS := hS1; clear hS1) | ((with_reducible refine wpList_load_st 0 hS rfl rfl rfl rfl ?_ rfl ?_); focus (simp [scalarB, go_sem]; done)) | ((with_reducible refine wpList_loadall_st 0 hS rfl rfl rfl rfl ?_ (by kernel_rfl) ?_); focus (simp [rowB, go_sem]; done)) | ((with_reducible refine wpList_store_st 0 hS rfl rfl rfl rfl (by kernel_rfl) rfl rfl ?_); intro w1 hS1; clear hS; replace hS := hS1; clear hS1; try simp only [List.set_cons_zero, List.set_cons_succ, List.setIfInBounds_toArray, List.take_succ_cons, List.take_zero, List.drop_succ_cons, List.drop_zero, List.nil_append, List.cons_append, List.append_nil, List.drop_nil, List.take_nil, List.length_cons, List.length_nil, Nat.zero_add, Nat.add_zero, Nat.reduceAdd] at hS) | ((with_reducible refine wpList_storerow_st 0 hS rfl rfl rfl rfl (by kernel_rfl) rfl rfl rfl rfl ?_); intro w1 hS1; clear hS; replace hS := hS1; clear hS1; try simp only [List.set_cons_zero, List.set_cons_succ, List.setIfInBounds_toArray, List.take_succ_cons, List.take_zero, List.drop_succ_cons, List.drop_zero, List.nil_append, List.cons_append, List.append_nil, List.drop_nil, List.take_nil, List.length_cons, List.length_nil, Nat.zero_add, Nat.add_zero, Nat.reduceAdd] at hS))
      go_ret
      exact ⟨rfl, hS⟩
    · rw [if_neg h1]
      clear h0
      have h2 : fuse ≤ 0 := by omega
      clear h1
      go_enter Try.func81, Try.ntmps81
      go_wp2_with (first | (with_reducible refine wpList_box_st hS rfl rfl rfl ?_; intro g1 w1 hS1; clear hS; replace hS := hS1; clear hS1) | (with_reducible refine wpList_box1_st hS rfl rfl rfl ?_; intro g1 w1 hS1; clear hS; replace hS := hS1; clear hS1) | (with_reducible refine wpList_alloc_st hS rfl rfl (by assumption) ?_; intro g1 w1 hS1; clear hS; replace hS := hS1; clear hS1) | (with_reducible refine wpList_alloc1_st hS rfl rfl (by assumption) rfl ?_; intro g1 w1 hS1; clear hS; replace hS := hS1; clear hS1) | ((with_reducible refine wpList_load_st 0 hS rfl rfl rfl rfl ?_ rfl ?_); focus (simp [scalarB, go_sem]; done)) | ((with_reducible refine wpList_loadall_st 0 hS rfl rfl rfl rfl ?_ (by kernel_rfl) ?_); focus (simp [rowB, go_sem]; done)) | ((with_reducible refine wpList_store_st 0 hS rfl rfl rfl rfl (by kernel_rfl) rfl rfl ?_); intro w1 hS1; clear hS; replace hS := hS1; clear hS1; try simp only [List.set_cons_zero, List.set_cons_succ, List.setIfInBounds_toArray, List.take_succ_cons, List.take_zero, List.drop_succ_cons, List.drop_zero, List.nil_append, List.cons_append, List.append_nil, List.drop_nil, List.take_nil, List.length_cons, List.length_nil, Nat.zero_add, Nat.add_zero, Nat.reduceAdd] at hS) | ((with_reducible refine wpList_storerow_st 0 hS rfl rfl rfl rfl (by kernel_rfl) rfl rfl rfl rfl ?_); intro w1 hS1; clear hS; replace hS := hS1; clear hS1; try simp only [List.set_cons_zero, List.set_cons_succ, List.setIfInBounds_toArray, List.take_succ_cons, List.take_zero, List.drop_succ_cons, List.drop_zero, List.nil_append, List.cons_append, List.append_nil, List.drop_nil, List.take_nil, List.length_cons, List.length_nil, Nat.zero_add, Nat.add_zero, Nat.reduceAdd] at hS))
      go_ret
      exact ⟨rfl, hS⟩

theorem rput_d (g : Nat) (sv wv : Value) (d : Dk) (i : Nat) (b : ByteArray) (s : Sc) (w : World) (h : St w (feet (rdk g sv wv d)) (rdk g sv wv d) w) (hi : i < d.sec.length) (hl : d.sec.length ≤ 100000) (hb : rsc s = .string b) :
    Calls Try.prog 80 #[.pointer (some ⟨g, 0, none⟩), .int .i64 i, .string b] w fun e w' => e = .returned (.tuple #[]) ∧ ∃ sv', St w (feet (rdk g sv wv d)) (rdk g sv' wv { d with sec := d.sec.set i s }) w' := by
  have hset : (d.sec.set i s).map rsc = (d.sec.map rsc).take i ++ .string b :: (d.sec.map rsc).drop (i + 1) := by
    rw [List.map_set, hb, List.set_eq_take_append_cons_drop, if_pos (by simpa using hi)]
  have hlen : (d.sec.map rsc).length = d.sec.length := List.length_map _
  have hone := rsc_all d.sec
  have hS := h
  generalize feet (rdk g sv wv d) = F at hS ⊢
  clear h hb
  unfold rdk at hS ⊢
  simp only [List.length_set]
  rw [hset]
  clear hset
  generalize d.sec.map rsc = R1 at *
  generalize (d.wait.map rwt).flatten = R2 at *
  generalize d.sec.length = n at *
  generalize d.wait.length = m at *
  generalize d.fuse = fu at *
  generalize d.dead = de at *
  obtain ⟨av, cs, rfl, -⟩ := hS.row 1 rfl
  replace hlen := Lib.hid hlen
  have ez := elem_str
  go_enter Try.func80, Try.ntmps80
  go_wp2_with (first
    | ((with_reducible refine wpList_build0_st hS rfl rfl Try.underlying26 elem_str ?_); intro g1 w3 hS1; clear hS; have hS := hS1; clear hS1)
    | ((with_reducible refine wpList_load_st 1 hS rfl rfl rfl rfl ?_ rfl ?_); focus (simp [scalarB, go_sem]; done))
    | (at_builtin; (with_reducible refine wpList_app_st 0 hS rfl rfl rfl Try.underlying26 elem_str rfl (Src.slice Try.underlying26 (hS.rowsl 2 rfl) (by rw [hlen.out, Nat.mul_one])) rfl hone (by omega) (by unfold maxLen; omega) ?_); intro v5 w3 hS1; clear hS; simp only [List.set_cons_zero, Nat.zero_add, List.nil_append] at hS1; have hS := hS1; clear hS1; obtain ⟨g5, c5, rfl, -⟩ := hS.rowat 0 rfl (by omega))
    | ((with_reducible refine wpList_storeelem1_st 0 i hS rfl rfl rfl rfl (by omega) (by kernel_rfl) rfl hi ?_); intro w6 hS1; clear hS; simp only [List.set_cons_zero] at hS1; have hS := hS1; clear hS1)
    | ((with_reducible refine wpList_store_st 1 hS rfl rfl rfl rfl (by kernel_rfl) rfl rfl ?_); intro w6 hS1; clear hS; have hS := hS1; clear hS1; try simp only [List.set_cons_zero, List.set_cons_succ, List.setIfInBounds_toArray, List.take_succ_cons, List.take_zero, List.drop_succ_cons, List.drop_zero, List.nil_append, List.cons_append, List.append_nil, List.drop_nil, List.take_nil, List.length_cons, List.length_nil, Nat.zero_add, Nat.add_zero, Nat.reduceAdd] at hS))
  simp only [List.append_assoc, List.singleton_append, List.cons_append, List.nil_append] at hS
  exact bodyPost_end (results_none rfl _ _ _) rfl ⟨rfl, _, hS.pick3 1 0 3 rfl rfl rfl (by omega)⟩

theorem rwrite_any (g : Nat) (sv wv : Value) (d : Dk) (i : Int) (b : ByteArray) (w : World) (h : St w (feet (rdk g sv wv d)) (rdk g sv wv d) w) (hbm : b.size ≤ maxLen) (hl : d.sec.length ≤ 100000) (hw : d.wait.length ≤ 100000) (hf : -9223372036854775808 ≤ d.fuse ∧ d.fuse ≤ 9223372036854775807) :
    Calls Try.prog 38 #[.pointer (some ⟨g, 0, none⟩), .int .i64 i, .string b] w fun e w' => e = .returned (.int .i64 (d.write i b.data.toList).2) ∧ ∃ wv', St w (feet (rdk g sv wv d)) (rdk g sv wv' (d.write i b.data.toList).1) w' := by
  unfold maxLen at hbm
  by_cases hr : d.ready i = 0
  · by_cases hb : b.size = 64
    · have hbl : b.data.toList.length = 64 := by rw [← ba_size]; exact hb
      have hd : d.write i b.data.toList = (Dk.step { d with wait := d.wait ++ [⟨i, b.data.toList⟩] }, if (Dk.step { d with wait := d.wait ++ [⟨i, b.data.toList⟩] }).dead then 15 else 0) := by rw [Dk.write, if_pos hr, if_pos hbl]
      rw [hd]
      obtain ⟨hdd, h0, h1⟩ := Dk.ready_zero hr
      have cS := fun (wv' : Value) (W : World) k => rstep_any g sv wv' { d with wait := d.wait ++ [⟨i, b.data.toList⟩] } W k hf hdd
      generalize Dk.step { d with wait := d.wait ++ [⟨i, b.data.toList⟩] } = d2 at cS ⊢
      obtain ⟨sd, hsd⟩ : ∃ x, d2.dead = x := ⟨_, rfl⟩
      simp only [hsd] at cS ⊢
      replace hsd := Lib.hid hsd
      have hlen := rwt_len d.wait
      have hone := rwt_all d.wait
      have e1 : (d.wait.map rwt).flatten ++ rwt ⟨i, b.data.toList⟩ = ((d.wait ++ [(⟨i, b.data.toList⟩ : Wt)]).map rwt).flatten := by simp
      have e2 : d.wait.length + 1 = (d.wait ++ [(⟨i, b.data.toList⟩ : Wt)]).length := by simp
      have hstr : str b.data.toList = b := by apply ba_ext; simp [str]
      generalize feet (rdk g sv wv d) = F at h ⊢
      have hS := h
      clear h hr hd hf hbl
      unfold rdk at hS
      rw [hdd] at hS
      obtain ⟨av, cs, rfl, -⟩ := hS.row 1 rfl
      obtain ⟨aw, cw, rfl, -⟩ := hS.row 2 rfl
      replace cS := Lib.hid cS
      replace hlen := Lib.hid hlen
      have hn64 : ((b.size : Int) != 64) = false := by simp [hb]
      replace e1 := Lib.hid e1
      replace e2 := Lib.hid e2
      replace hstr := Lib.hid hstr
      go_enter Try.func38, Try.ntmps38
      have hcl := hS.cell 0 rfl
      go_wp2_with (first
        | ((with_reducible refine wpList_build0_st hS rfl rfl Try.underlying27 elem_rwt ?_); intro g1 w3 hS1; clear hS; have hS := hS1; clear hS1)
        | ((with_reducible refine wpList_load_st 0 hS rfl rfl rfl rfl ?_ rfl ?_); focus (simp [scalarB, go_sem]; done))
        | ((with_reducible refine wpList_load_st 1 hS rfl rfl rfl rfl ?_ rfl ?_); focus (simp [scalarB, go_sem]; done))
        | (at_builtin; (with_reducible refine wpList_app_st 0 hS rfl rfl rfl Try.underlying27 elem_rwt rfl (Src.slice Try.underlying27 (hS.rowsl 3 rfl) hlen.out) rfl hone (by omega) (by unfold maxLen; omega) ?_); intro v5 w3 hS1; clear hS; simp only [List.set_cons_zero, Nat.zero_add, List.nil_append] at hS1; have hS := hS1; clear hS1; obtain ⟨a5, c5, rfl, -⟩ := hS.row 0 rfl)
        | (at_builtin; have hA := hS.alloc #[.int .i64 i, .string b] 141; clear hS; have hS := hA; clear hA; (with_reducible refine wpList_app_st 1 (news := [.int .i64 i, .string b]) hS rfl rfl rfl Try.underlying27 elem_rwt rfl (Src.slice Try.underlying27 (hS.blksl2 0 rfl) rfl) rfl (by simp [Value.oneCell']) (by omega) (by unfold maxLen; omega) ?_); intro v6 w5 hS1; clear hS; simp only [List.set_cons_zero, List.set_cons_succ] at hS1; have hS := hS1; clear hS1; obtain ⟨a6, c6, rfl, -⟩ := hS.row 1 rfl)
        | ((with_reducible refine wpList_store_st 2 hS rfl rfl rfl rfl (by kernel_rfl) rfl rfl ?_); intro w6 hS1; clear hS; have hS := hS1; clear hS1; try simp only [List.set_cons_zero, List.set_cons_succ, List.setIfInBounds_toArray, List.take_succ_cons, List.take_zero, List.drop_succ_cons, List.drop_zero, List.nil_append, List.cons_append, List.append_nil, List.drop_nil, List.take_nil, List.length_cons, List.length_nil, Nat.zero_add, Nat.add_zero, Nat.reduceAdd] at hS))
      have hS1 : St w F (rdk g (.slice av d.sec.length cs) (.slice a6 (d.wait.length + 1) c6) { d with wait := d.wait ++ [⟨i, b.data.toList⟩] }) w6 := by
        unfold rdk
        simp only []
        rw [← e1.out, ← e2.out, hdd, rwt, hstr.out]
        exact hS.pick3 2 3 1 rfl rfl rfl (by omega)
      clear hS
      have cT := cS.out _ _ hS1.pre0
      have hfr := fun (A' : List Ch) (W : World) k => hS1.call0 (A' := A') (w' := W) k
      replace cT := Lib.hid cT
      replace hfr := Lib.hid hfr
      clear hS1 cS e1 e2 hlen hone hstr
      cases sd
      all_goals
        go_wp2_with (go_at_call 81; (refine cT.out.mono ?_); rintro _ w4 ⟨rfl, hb3⟩; replace hb3 := hfr.out _ _ hb3; replace hb3 := Lib.hid hb3)
        go_ret
        exact ⟨rfl, _, hb3.out⟩
    · have hd : d.write i b.data.toList = (d, 1) := by rw [Dk.write, if_pos hr, if_neg (by rw [← ba_size]; exact hb)]
      rw [hd]
      obtain ⟨hdd, h0, h1⟩ := Dk.ready_zero hr
      have hS := h.pre0
      unfold rdk at hS
      rw [hdd] at hS
      obtain ⟨av, cs, rfl, -⟩ := hS.row 1 rfl
      obtain ⟨aw, cw, rfl, -⟩ := hS.row 2 rfl
      have c := hS.cell 0 rfl
      replace h := Lib.hid h
      clear hr hd hf hS
      have hb2 : ((b.size : Int) != 64) = true := by simp; omega
      go_enter Try.func38, Try.ntmps38
      go_wp2_with fail
      go_ret
      exact ⟨rfl, _, h.out⟩
  · have hd : d.write i b.data.toList = (d, d.ready i) := by rw [Dk.write, if_neg hr]
    rw [hd]
    have hS := h.pre0
    unfold rdk at hS
    obtain ⟨av, cs, rfl, -⟩ := hS.row 1 rfl
    obtain ⟨aw, cw, rfl, -⟩ := hS.row 2 rfl
    have c := hS.cell 0 rfl
    have hkeep := Lib.hid h
    clear h
    clear hd hf hS
    unfold Dk.ready at hr ⊢
    obtain ⟨n, hn⟩ : ∃ n, d.sec.length = n := ⟨_, rfl⟩
    rw [hn] at c hl hr ⊢
    obtain ⟨dd, hdd⟩ : ∃ n, d.dead = n := ⟨_, rfl⟩
    rw [hdd] at c hr ⊢
    replace hn := Lib.hid hn
    replace hdd := Lib.hid hdd
    cases dd with
    | true =>
      clear hr
      go_enter Try.func38, Try.ntmps38
      go_wp2_with fail
      go_ret
      exact ⟨rfl, _, by rw [← hn.out]; exact hkeep.out⟩
    | false =>
      rw [if_neg (by simp)] at hr ⊢
      by_cases h1 : i < 0
      · rw [if_pos (.inl h1)]
        clear hr
        go_enter Try.func38, Try.ntmps38
        go_wp2_with fail
        go_ret
        exact ⟨rfl, _, by rw [← hn.out]; exact hkeep.out⟩
      · by_cases h2 : (n : Int) ≤ i
        · rw [if_pos (.inr h2)]
          clear hr
          go_enter Try.func38, Try.ntmps38
          go_wp2_with fail
          go_ret
          exact ⟨rfl, _, by rw [← hn.out]; exact hkeep.out⟩
        · exact absurd (if_neg (by omega)) hr
end Go.Proofs.Ytlhpibniecfofaa
