/- Texts laid together: RootLaw1 DiskKeep DiskOpen Piece PieceRead RootAct RootFall Cut. -/
import Derived.ChangeSlices
import Derived.Test.YtlhpibniecfofaaM1
import Derived.Test.YtlhpibniecfofaaM2
import Derived.Test.YtlhpibniecfofaaM4
import Derived.Test.YtlhpibniecfofaaM7
section
/- The law RootSectors: the walk of it; roots opened. -/
set_option linter.unusedSimpArgs false
set_option linter.unusedVariables false
namespace Go.Proofs.Ytlhpibniecfofaa
open Go.RowKit Go.Ofp Go.WideShapes
set_option linter.unusedVariables false
set_option maxRecDepth 100000
set_option maxHeartbeats 4000000

theorem tto_any (x : Rt) (w : World) : Calls Try.prog 30 #[.agg #[.int .i64 x.seq, .int .i64 x.life, .int .i64 x.head]] w fun e w' => e = .returned (.agg #[.int .i64 x.seq, .int .i64 x.life, .int .i64 x.head]) ∧ Below w.heap.size w w' := by
  have hS := St.start w
  have ez := elem_root
  go_enter Try.func30, Try.ntmps30
  go_wp2_with (first | (with_reducible refine wpList_box_st hS rfl rfl rfl ?_; intro g1 w1 hS1; clear hS; replace hS := hS1; clear hS1) | (with_reducible refine wpList_box1_st hS rfl rfl rfl ?_; intro g1 w1 hS1; clear hS; replace hS := hS1; clear hS1) | (with_reducible refine wpList_alloc_st hS rfl rfl (by assumption) ?_; intro g1 w1 hS1; clear hS; replace hS := hS1; clear hS1) | (with_reducible refine wpList_alloc1_st hS rfl rfl (by assumption) rfl ?_; intro g1 w1 hS1; clear hS; replace hS := hS1; clear hS1) | ((with_reducible refine wpList_load_st 0 hS rfl rfl rfl rfl ?_ rfl ?_); focus (simp [scalarB, go_sem]; done)) | ((with_reducible refine wpList_loadall_st 0 hS rfl rfl rfl rfl ?_ (by kernel_rfl) ?_); focus (simp [rowB, go_sem]; done)) | ((with_reducible refine wpList_store_st 0 hS rfl rfl rfl rfl (by kernel_rfl) rfl rfl ?_); intro w1 hS1; clear hS; replace hS := hS1; clear hS1; try simp only [List.set_cons_zero, List.set_cons_succ, List.setIfInBounds_toArray, List.take_succ_cons, List.take_zero, List.drop_succ_cons, List.drop_zero, List.nil_append, List.cons_append, List.append_nil, List.drop_nil, List.take_nil, List.length_cons, List.length_nil, Nat.zero_add, Nat.add_zero, Nat.reduceAdd] at hS) | ((with_reducible refine wpList_storerow_st 0 hS rfl rfl rfl rfl (by kernel_rfl) rfl rfl rfl rfl ?_); intro w1 hS1; clear hS; replace hS := hS1; clear hS1; try simp only [List.set_cons_zero, List.set_cons_succ, List.setIfInBounds_toArray, List.take_succ_cons, List.take_zero, List.drop_succ_cons, List.drop_zero, List.nil_append, List.cons_append, List.append_nil, List.drop_nil, List.take_nil, List.length_cons, List.length_nil, Nat.zero_add, Nat.add_zero, Nat.reduceAdd] at hS) | ((with_reducible refine wpList_load_st 1 hS rfl rfl rfl rfl ?_ rfl ?_); focus (simp [scalarB, go_sem]; done)) | ((with_reducible refine wpList_loadall_st 1 hS rfl rfl rfl rfl ?_ (by kernel_rfl) ?_); focus (simp [rowB, go_sem]; done)) | ((with_reducible refine wpList_store_st 1 hS rfl rfl rfl rfl (by kernel_rfl) rfl rfl ?_); intro w1 hS1; clear hS; replace hS := hS1; clear hS1; try simp only [List.set_cons_zero, List.set_cons_succ, List.setIfInBounds_toArray, List.take_succ_cons, List.take_zero, List.drop_succ_cons, List.drop_zero, List.nil_append, List.cons_append, List.append_nil, List.drop_nil, List.take_nil, List.length_cons, List.length_nil, Nat.zero_add, Nat.add_zero, Nat.reduceAdd] at hS) | ((with_reducible refine wpList_storerow_st 1 hS rfl rfl rfl rfl (by kernel_rfl) rfl rfl rfl rfl ?_); intro w1 hS1; clear hS; replace hS := hS1; clear hS1; try simp only [List.set_cons_zero, List.set_cons_succ, List.setIfInBounds_toArray, List.take_succ_cons, List.take_zero, List.drop_succ_cons, List.drop_zero, List.nil_append, List.cons_append, List.append_nil, List.drop_nil, List.take_nil, List.length_cons, List.length_nil, Nat.zero_add, Nat.add_zero, Nat.reduceAdd] at hS))
  have c := hS.cell 0 rfl
  exact bodyPost_ret (v := .agg #[.int .i64 x.seq, .int .i64 x.life, .int .i64 x.head]) (by simp [results, Try.results30, go_sem, c]) rfl ⟨rfl, hS.below⟩
theorem tfrom_any (x : Rt) (w : World) : Calls Try.prog 34 #[.agg #[.int .i64 x.seq, .int .i64 x.life, .int .i64 x.head]] w fun e w' => e = .returned (.agg #[.int .i64 x.seq, .int .i64 x.life, .int .i64 x.head]) ∧ Below w.heap.size w w' := by
  have hS := St.start w
  have ez := elem_rroot
  go_enter Try.func34, Try.ntmps34
  go_wp2_with (first | (with_reducible refine wpList_box_st hS rfl rfl rfl ?_; intro g1 w1 hS1; clear hS; replace hS := hS1; clear hS1) | (with_reducible refine wpList_box1_st hS rfl rfl rfl ?_; intro g1 w1 hS1; clear hS; replace hS := hS1; clear hS1) | (with_reducible refine wpList_alloc_st hS rfl rfl (by assumption) ?_; intro g1 w1 hS1; clear hS; replace hS := hS1; clear hS1) | (with_reducible refine wpList_alloc1_st hS rfl rfl (by assumption) rfl ?_; intro g1 w1 hS1; clear hS; replace hS := hS1; clear hS1) | ((with_reducible refine wpList_load_st 0 hS rfl rfl rfl rfl ?_ rfl ?_); focus (simp [scalarB, go_sem]; done)) | ((with_reducible refine wpList_loadall_st 0 hS rfl rfl rfl rfl ?_ (by kernel_rfl) ?_); focus (simp [rowB, go_sem]; done)) | ((with_reducible refine wpList_store_st 0 hS rfl rfl rfl rfl (by kernel_rfl) rfl rfl ?_); intro w1 hS1; clear hS; replace hS := hS1; clear hS1; try simp only [List.set_cons_zero, List.set_cons_succ, List.setIfInBounds_toArray, List.take_succ_cons, List.take_zero, List.drop_succ_cons, List.drop_zero, List.nil_append, List.cons_append, List.append_nil, List.drop_nil, List.take_nil, List.length_cons, List.length_nil, Nat.zero_add, Nat.add_zero, Nat.reduceAdd] at hS) | ((with_reducible refine wpList_storerow_st 0 hS rfl rfl rfl rfl (by kernel_rfl) rfl rfl rfl rfl ?_); intro w1 hS1; clear hS; replace hS := hS1; clear hS1; try simp only [List.set_cons_zero, List.set_cons_succ, List.setIfInBounds_toArray, List.take_succ_cons, List.take_zero, List.drop_succ_cons, List.drop_zero, List.nil_append, List.cons_append, List.append_nil, List.drop_nil, List.take_nil, List.length_cons, List.length_nil, Nat.zero_add, Nat.add_zero, Nat.reduceAdd] at hS) | ((with_reducible refine wpList_load_st 1 hS rfl rfl rfl rfl ?_ rfl ?_); focus (simp [scalarB, go_sem]; done)) | ((with_reducible refine wpList_loadall_st 1 hS rfl rfl rfl rfl ?_ (by kernel_rfl) ?_); focus (simp [rowB, go_sem]; done)) | ((with_reducible refine wpList_store_st 1 hS rfl rfl rfl rfl (by kernel_rfl) rfl rfl ?_); intro w1 hS1; clear hS; replace hS := hS1; clear hS1; try simp only [List.set_cons_zero, List.set_cons_succ, List.setIfInBounds_toArray, List.take_succ_cons, List.take_zero, List.drop_succ_cons, List.drop_zero, List.nil_append, List.cons_append, List.append_nil, List.drop_nil, List.take_nil, List.length_cons, List.length_nil, Nat.zero_add, Nat.add_zero, Nat.reduceAdd] at hS) | ((with_reducible refine wpList_storerow_st 1 hS rfl rfl rfl rfl (by kernel_rfl) rfl rfl rfl rfl ?_); intro w1 hS1; clear hS; replace hS := hS1; clear hS1; try simp only [List.set_cons_zero, List.set_cons_succ, List.setIfInBounds_toArray, List.take_succ_cons, List.take_zero, List.drop_succ_cons, List.drop_zero, List.nil_append, List.cons_append, List.append_nil, List.drop_nil, List.take_nil, List.length_cons, List.length_nil, Nat.zero_add, Nat.add_zero, Nat.reduceAdd] at hS))
  have c := hS.cell 0 rfl
  exact bodyPost_ret (v := .agg #[.int .i64 x.seq, .int .i64 x.life, .int .i64 x.head]) (by simp [results, Try.results34, go_sem, c]) rfl ⟨rfl, hS.below⟩

theorem rt_fieldsOf {P : Program} {t : TypeId} {fs : Array Field} (h : P.underlying t = some (.struct fs)) : P.fieldsOf t = fs := by simp [Program.fieldsOf, h]
def rtBeq (p q : Rt) : Bool := p.seq == q.seq && (p.life == q.life && p.head == q.head)
theorem rtBeq_iff (p q : Rt) : rtBeq p q = true ↔ p = q := by
  obtain ⟨a, b, c⟩ := p
  obtain ⟨a', b', c'⟩ := q
  simp [rtBeq]
theorem equalIn_rroot (p q : Rt) (w : World) : (Op.equalIn 10000 49 (.agg #[.int .i64 p.seq, .int .i64 p.life, .int .i64 p.head]) (.agg #[.int .i64 q.seq, .int .i64 q.life, .int .i64 q.head])).run Try.prog w = .ok (rtBeq p q) w := by
  have hp : Try.prog.stoodInHeld 49 = false := by kernel_rfl
  have hf := rt_fieldsOf Try.underlying49
  have hu : Try.prog.underlying 49 = some (.struct (Try.prog.fieldsOf 49)) := by rw [hf, Try.underlying49]
  rw [run_equalIn_struct w 9999 _ _ _ hu hp, hf]
  obtain ⟨a, b, c⟩ := p
  obtain ⟨a', b', c'⟩ := q
  have h3 := Try.underlying3
  simp only [rtBeq]
  go_simp
  repeat' split
  all_goals simp_all
theorem eql_rroot (p q : Rt) (w : World) : (binOp .eql 49 (.agg #[.int .i64 p.seq, .int .i64 p.life, .int .i64 p.head]) (.agg #[.int .i64 q.seq, .int .i64 q.life, .int .i64 q.head])).run Try.prog w = .ok (.bool (rtBeq p q)) w := by
  rw [run_eql_struct, equalIn_rroot p q w]
  rfl
theorem neq_rroot (p q : Rt) (w : World) : (binOp .neq 49 (.agg #[.int .i64 p.seq, .int .i64 p.life, .int .i64 p.head]) (.agg #[.int .i64 q.seq, .int .i64 q.life, .int .i64 q.head])).run Try.prog w = .ok (.bool (!rtBeq p q)) w := by
  rw [run_neq_struct, equalIn_rroot p q w]
  rfl
theorem guard_rroot (op : BinOp) (x y : Operand) (xs ys : Array Value) (w : World) : (eqGuard op 49 x y (.agg xs) (.agg ys)).run Try.prog w = .ok () w :=
  run_eqGuard_agg w op _ x y xs ys (by kernel_rfl)
theorem equalIn_root (p q : Rt) (w : World) : (Op.equalIn 10000 50 (.agg #[.int .i64 p.seq, .int .i64 p.life, .int .i64 p.head]) (.agg #[.int .i64 q.seq, .int .i64 q.life, .int .i64 q.head])).run Try.prog w = .ok (rtBeq p q) w := by
  have hp : Try.prog.stoodInHeld 50 = false := by kernel_rfl
  have hf := rt_fieldsOf Try.underlying50
  have hu : Try.prog.underlying 50 = some (.struct (Try.prog.fieldsOf 50)) := by rw [hf, Try.underlying50]
  rw [run_equalIn_struct w 9999 _ _ _ hu hp, hf]
  obtain ⟨a, b, c⟩ := p
  obtain ⟨a', b', c'⟩ := q
  have h3 := Try.underlying3
  simp only [rtBeq]
  go_simp
  repeat' split
  all_goals simp_all
theorem eql_root (p q : Rt) (w : World) : (binOp .eql 50 (.agg #[.int .i64 p.seq, .int .i64 p.life, .int .i64 p.head]) (.agg #[.int .i64 q.seq, .int .i64 q.life, .int .i64 q.head])).run Try.prog w = .ok (.bool (rtBeq p q)) w := by
  rw [run_eql_struct, equalIn_root p q w]
  rfl
theorem neq_root (p q : Rt) (w : World) : (binOp .neq 50 (.agg #[.int .i64 p.seq, .int .i64 p.life, .int .i64 p.head]) (.agg #[.int .i64 q.seq, .int .i64 q.life, .int .i64 q.head])).run Try.prog w = .ok (.bool (!rtBeq p q)) w := by
  rw [run_neq_struct, equalIn_root p q w]
  rfl
theorem guard_root (op : BinOp) (x y : Operand) (xs ys : Array Value) (w : World) : (eqGuard op 50 x y (.agg xs) (.agg ys)).run Try.prog w = .ok () w :=
  run_eqGuard_agg w op _ x y xs ys (by kernel_rfl)
/-- What is known of a root that came in. -/
def RtIn (x : Rt) : Prop := (-9223372036854775808 ≤ x.seq ∧ x.seq ≤ 9223372036854775807) ∧ (-9223372036854775808 ≤ x.life ∧ x.life ≤ 9223372036854775807) ∧ (-9223372036854775808 ≤ x.head ∧ x.head ≤ 9223372036854775807)
section
variable {H : Type} {enc : TypeId × Value → H}
theorem read_rt {w : World} {base : Nat} {spare : Nat → Bool} {held : Bool} {cs : List Value} (h : ∃ fuel x, DataW.trod enc Try.prog w base spare held fuel 49 cs = some x) : ∃ p : Rt, cs = p.row ∧ RtIn p := by
  obtain ⟨fuel, x, h⟩ := h
  obtain ⟨hl, hf⟩ := field_read Try.underlying49 h
  have hc : Try.prog.cellsOf 49 = 3 := by kernel_rfl
  rw [hc] at hl
  obtain ⟨n0, y0, h0⟩ := hf 0 _ rfl
  obtain ⟨n1, y1, h1⟩ := hf 1 _ rfl
  obtain ⟨n2, y2, h2⟩ := hf 2 _ rfl
  obtain ⟨z0, e0, w0⟩ := field_int Try.underlying3 (by kernel_rfl) (by rw [hl]; decide) h0
  obtain ⟨z1, e1, w1⟩ := field_int Try.underlying3 (by kernel_rfl) (by rw [hl]; decide) h1
  obtain ⟨z2, e2, w2⟩ := field_int Try.underlying3 (by kernel_rfl) (by rw [hl]; decide) h2
  match cs, hl with
  | [c0, c1, c2], _ =>
    simp at e0 e1 e2
    exact ⟨⟨z0, z1, z2⟩, by rw [e0, e1, e2]; rfl, wf_i64 w0, wf_i64 w1, wf_i64 w2⟩
/-- A root that came in. -/
theorem open_rt {r : Reach} {b0 base : Nat} {spare : Nat → Bool} {held : Bool} {v : Value} {d : DataW H} {ms : List MemPlace} {w : World}
    (ho : Value.okWide Try.prog w r b0 49 v) (ht : DataW.Trod enc Try.prog w base spare held 49 v d ms) : ∃ p : Rt, v = .agg #[.int .i64 p.seq, .int .i64 p.life, .int .i64 p.head] ∧ RtIn p := by
  unfold Value.okWide at ho
  rw [Try.underlying49] at ho
  obtain ⟨cs, rfl, _⟩ := ho
  obtain ⟨fuel, hf⟩ := ht
  obtain ⟨p, hp, hin⟩ := read_rt ⟨fuel, _, hf⟩
  refine ⟨p, ?_, hin⟩
  congr 1
  apply Array.ext'
  simpa [Value.cells, Rt.row] using hp
end

theorem sectors38_main (x : Rt) (s : ByteArray) (w : World) (hs : s.size ≤ 200) :
    Calls Try.prog 4 #[.agg #[.int .i64 x.seq, .int .i64 x.life, .int .i64 x.head], .string s] w fun e w' => e = .returned (.bool true) ∧ Below w.heap.size w w' := by
  have hS := St.start w
  have ez := elem_root
  have ey := elem_rroot
  have cG := fun W => tget_any s W (by unfold maxLen; omega)
  have cH := fun W => rtget_any s W (by unfold maxLen; omega)
  obtain ⟨y, ok, hy⟩ : ∃ y ok, Rt.getB s.data.toList = (y, ok) := ⟨_, _, rfl⟩
  rw [hy] at cG cH
  simp only at cG cH
  have cT := fun W => tto_any x W
  have cF := fun W => tfrom_any y W
  have cK := fun W => tcheck_any x W
  have cL := fun W => rtcheck_any x W
  have cP := fun W => tput_any x W
  have cQ := fun W => rtput_any x W
  have hq := eql_rroot y y
  have hyy : rtBeq y y = true := (rtBeq_iff y y).2 rfl
  have hgu := guard_rroot
  have cA := awake38_any
  generalize x.ok = xo at *
  generalize str x.putB = xp at *
  clear hy
  replace cG := Lib.hid cG
  replace cH := Lib.hid cH
  replace cT := Lib.hid cT
  replace cF := Lib.hid cF
  replace cK := Lib.hid cK
  replace cL := Lib.hid cL
  replace cP := Lib.hid cP
  replace cQ := Lib.hid cQ
  replace cA := Lib.hid cA
  go_enter Try.func4, Try.ntmps4
  go_wp2_with (first
    | (go_at_call 27; (with_reducible refine (cG.out _).mono ?_); rintro _ w3 ⟨rfl, hb3⟩; have hS1 := hS.keepB hb3; clear hb3 hS; have hS := hS1; clear hS1)
    | (go_at_call 28; (with_reducible refine (cH.out _).mono ?_); rintro _ w3 ⟨rfl, hb3⟩; have hS1 := hS.keepB hb3; clear hb3 hS; have hS := hS1; clear hS1)
    | ((with_reducible refine wpList_alloc_st hS rfl rfl ez ?_); intro g4 w5 hS1; clear hS; have hS := hS1; clear hS1)
    | ((with_reducible refine wpList_alloc_st hS rfl rfl ey ?_); intro g5 w5 hS1; clear hS; have hS := hS1; clear hS1)
    | (with_reducible refine wpList_box_st hS rfl rfl rfl ?_; intro g1 w1 hS1; clear hS; replace hS := hS1; clear hS1) | (with_reducible refine wpList_box1_st hS rfl rfl rfl ?_; intro g1 w1 hS1; clear hS; replace hS := hS1; clear hS1) | (with_reducible refine wpList_alloc_st hS rfl rfl (by assumption) ?_; intro g1 w1 hS1; clear hS; replace hS := hS1; clear hS1) | (with_reducible refine wpList_alloc1_st hS rfl rfl (by assumption) rfl ?_; intro g1 w1 hS1; clear hS; replace hS := hS1; clear hS1) | ((with_reducible refine wpList_load_st 0 hS rfl rfl rfl rfl ?_ rfl ?_); focus (simp [scalarB, go_sem]; done)) | ((with_reducible refine wpList_loadall_st 0 hS rfl rfl rfl rfl ?_ (by kernel_rfl) ?_); focus (simp [rowB, go_sem]; done)) | ((with_reducible refine wpList_store_st 0 hS rfl rfl rfl rfl (by kernel_rfl) rfl rfl ?_); intro w1 hS1; clear hS; replace hS := hS1; clear hS1; try simp only [List.set_cons_zero, List.set_cons_succ, List.setIfInBounds_toArray, List.take_succ_cons, List.take_zero, List.drop_succ_cons, List.drop_zero, List.nil_append, List.cons_append, List.append_nil, List.drop_nil, List.take_nil, List.length_cons, List.length_nil, Nat.zero_add, Nat.add_zero, Nat.reduceAdd] at hS) | ((with_reducible refine wpList_storerow_st 0 hS rfl rfl rfl rfl (by kernel_rfl) rfl rfl rfl rfl ?_); intro w1 hS1; clear hS; replace hS := hS1; clear hS1; try simp only [List.set_cons_zero, List.set_cons_succ, List.setIfInBounds_toArray, List.take_succ_cons, List.take_zero, List.drop_succ_cons, List.drop_zero, List.nil_append, List.cons_append, List.append_nil, List.drop_nil, List.take_nil, List.length_cons, List.length_nil, Nat.zero_add, Nat.add_zero, Nat.reduceAdd] at hS) | ((with_reducible refine wpList_load_st 1 hS rfl rfl rfl rfl ?_ rfl ?_); focus (simp [scalarB, go_sem]; done)) | ((with_reducible refine wpList_loadall_st 1 hS rfl rfl rfl rfl ?_ (by kernel_rfl) ?_); focus (simp [rowB, go_sem]; done)) | ((with_reducible refine wpList_store_st 1 hS rfl rfl rfl rfl (by kernel_rfl) rfl rfl ?_); intro w1 hS1; clear hS; replace hS := hS1; clear hS1; try simp only [List.set_cons_zero, List.set_cons_succ, List.setIfInBounds_toArray, List.take_succ_cons, List.take_zero, List.drop_succ_cons, List.drop_zero, List.nil_append, List.cons_append, List.append_nil, List.drop_nil, List.take_nil, List.length_cons, List.length_nil, Nat.zero_add, Nat.add_zero, Nat.reduceAdd] at hS) | ((with_reducible refine wpList_storerow_st 1 hS rfl rfl rfl rfl (by kernel_rfl) rfl rfl rfl rfl ?_); intro w1 hS1; clear hS; replace hS := hS1; clear hS1; try simp only [List.set_cons_zero, List.set_cons_succ, List.setIfInBounds_toArray, List.take_succ_cons, List.take_zero, List.drop_succ_cons, List.drop_zero, List.nil_append, List.cons_append, List.append_nil, List.drop_nil, List.take_nil, List.length_cons, List.length_nil, Nat.zero_add, Nat.add_zero, Nat.reduceAdd] at hS) | ((with_reducible refine wpList_load_st 2 hS rfl rfl rfl rfl ?_ rfl ?_); focus (simp [scalarB, go_sem]; done)) | ((with_reducible refine wpList_loadall_st 2 hS rfl rfl rfl rfl ?_ (by kernel_rfl) ?_); focus (simp [rowB, go_sem]; done)) | ((with_reducible refine wpList_store_st 2 hS rfl rfl rfl rfl (by kernel_rfl) rfl rfl ?_); intro w1 hS1; clear hS; replace hS := hS1; clear hS1; try simp only [List.set_cons_zero, List.set_cons_succ, List.setIfInBounds_toArray, List.take_succ_cons, List.take_zero, List.drop_succ_cons, List.drop_zero, List.nil_append, List.cons_append, List.append_nil, List.drop_nil, List.take_nil, List.length_cons, List.length_nil, Nat.zero_add, Nat.add_zero, Nat.reduceAdd] at hS) | ((with_reducible refine wpList_storerow_st 2 hS rfl rfl rfl rfl (by kernel_rfl) rfl rfl rfl rfl ?_); intro w1 hS1; clear hS; replace hS := hS1; clear hS1; try simp only [List.set_cons_zero, List.set_cons_succ, List.setIfInBounds_toArray, List.take_succ_cons, List.take_zero, List.drop_succ_cons, List.drop_zero, List.nil_append, List.cons_append, List.append_nil, List.drop_nil, List.take_nil, List.length_cons, List.length_nil, Nat.zero_add, Nat.add_zero, Nat.reduceAdd] at hS))
  have k0 := hS.kblk 0 rfl
  have k1 := hS.kblk 1 rfl
  have k2 := hS.kblk 2 rfl
  refine mixs_begin (by kernel_rfl) hS ?_
  clear hS
  intro w6 hS
  refine mixs_take 0 (v := ?_) rfl (by kernel_rfl) (fun _ _ _ h => h) (by kernel_rfl) (by assumption) (fun s => ?hy) ?_; case hy => (go_simp <;> with_reducible rfl)
  try simp only [List.getElem_toArray, List.getElem_cons_succ, List.getElem_cons_zero, Act.put, List.setIfInBounds_toArray, List.set_cons_zero, List.set_cons_succ]
  refine mixs_take 3 (v := ?_) rfl (by kernel_rfl) (fun _ _ _ h => h) (by kernel_rfl) (by assumption) (fun s => ?hy) ?_; case hy => (go_simp <;> with_reducible rfl)
  try simp only [List.getElem_toArray, List.getElem_cons_succ, List.getElem_cons_zero, Act.put, List.setIfInBounds_toArray, List.set_cons_zero, List.set_cons_succ]
  refine mixs_one 1 (by kernel_rfl) rfl (fun K hK => ?_)
  go_simp
  ( first | (go_at_call 30; (with_reducible refine (cT.out _).mono ?_); rintro _ w3 ⟨rfl, hb3⟩; have hS1 := hS.keepB hb3; clear hb3 hS; have hS := hS1; clear hS1) | (go_at_call 34; (with_reducible refine (cF.out _).mono ?_); rintro _ w3 ⟨rfl, hb3⟩; have hS1 := hS.keepB hb3; clear hb3 hS; have hS := hS1; clear hS1) | (go_at_call 29; (with_reducible refine (cK.out _).mono ?_); rintro _ w3 ⟨rfl, hb3⟩; have hS1 := hS.keepB hb3; clear hb3 hS; have hS := hS1; clear hS1) | (go_at_call 31; (with_reducible refine (cL.out _).mono ?_); rintro _ w3 ⟨rfl, hb3⟩; have hS1 := hS.keepB hb3; clear hb3 hS; have hS := hS1; clear hS1) | (go_at_call 32; (with_reducible refine (cP.out _).mono ?_); rintro _ w3 ⟨rfl, hb3⟩; have hS1 := hS.keepB hb3; clear hb3 hS; have hS := hS1; clear hS1) | (go_at_call 33; (with_reducible refine (cQ.out _).mono ?_); rintro _ w3 ⟨rfl, hb3⟩; have hS1 := hS.keepB hb3; clear hb3 hS; have hS := hS1; clear hS1) | (go_at_call 26; (with_reducible refine (cA.out _).mono ?_); rintro _ w3 ⟨rfl, hb3⟩; have hS1 := hS.keepB hb3; clear hb3 hS; have hS := hS1; clear hS1) )
  try clear hC
  refine hK.out _ _ _ (fun _ h => h) (by first | exact hS | exact hS.drop | exact hS.drop.drop | exact hS.drop.drop.drop | exact hS.drop.drop.drop.drop | exact hS.empty | exact hS.one 0 rfl | exact hS.one 1 rfl | exact hS.one 2 rfl | exact hS.one 3 rfl | exact hS.one 4 rfl | exact hS.one 5 rfl | exact hS.one 6 rfl | exact hS.one 7 rfl | exact hS.one 8 rfl | exact hS.one 9 rfl | exact hS.one 10 rfl | exact hS.one 11 rfl) (fun hC => ?_)
  clear hK K
  try simp only [List.getElem_toArray, List.getElem_cons_succ, List.getElem_cons_zero, Act.put, List.setIfInBounds_toArray, List.set_cons_zero, List.set_cons_succ]
  refine mixs_one 2 (by kernel_rfl) rfl (fun K hK => ?_)
  go_simp
  ( first | (go_at_call 30; (with_reducible refine (cT.out _).mono ?_); rintro _ w3 ⟨rfl, hb3⟩; have hS1 := hS.keepB hb3; clear hb3 hS; have hS := hS1; clear hS1) | (go_at_call 34; (with_reducible refine (cF.out _).mono ?_); rintro _ w3 ⟨rfl, hb3⟩; have hS1 := hS.keepB hb3; clear hb3 hS; have hS := hS1; clear hS1) | (go_at_call 29; (with_reducible refine (cK.out _).mono ?_); rintro _ w3 ⟨rfl, hb3⟩; have hS1 := hS.keepB hb3; clear hb3 hS; have hS := hS1; clear hS1) | (go_at_call 31; (with_reducible refine (cL.out _).mono ?_); rintro _ w3 ⟨rfl, hb3⟩; have hS1 := hS.keepB hb3; clear hb3 hS; have hS := hS1; clear hS1) | (go_at_call 32; (with_reducible refine (cP.out _).mono ?_); rintro _ w3 ⟨rfl, hb3⟩; have hS1 := hS.keepB hb3; clear hb3 hS; have hS := hS1; clear hS1) | (go_at_call 33; (with_reducible refine (cQ.out _).mono ?_); rintro _ w3 ⟨rfl, hb3⟩; have hS1 := hS.keepB hb3; clear hb3 hS; have hS := hS1; clear hS1) | (go_at_call 26; (with_reducible refine (cA.out _).mono ?_); rintro _ w3 ⟨rfl, hb3⟩; have hS1 := hS.keepB hb3; clear hb3 hS; have hS := hS1; clear hS1) )
  try clear hC
  refine hK.out _ _ _ (fun _ h => h) (by first | exact hS | exact hS.drop | exact hS.drop.drop | exact hS.drop.drop.drop | exact hS.drop.drop.drop.drop | exact hS.empty | exact hS.one 0 rfl | exact hS.one 1 rfl | exact hS.one 2 rfl | exact hS.one 3 rfl | exact hS.one 4 rfl | exact hS.one 5 rfl | exact hS.one 6 rfl | exact hS.one 7 rfl | exact hS.one 8 rfl | exact hS.one 9 rfl | exact hS.one 10 rfl | exact hS.one 11 rfl) (fun hC => ?_)
  clear hK K
  try simp only [List.getElem_toArray, List.getElem_cons_succ, List.getElem_cons_zero, Act.put, List.setIfInBounds_toArray, List.set_cons_zero, List.set_cons_succ]
  refine mixs_one 4 (by kernel_rfl) rfl (fun K hK => ?_)
  go_simp
  ( first | (go_at_call 30; (with_reducible refine (cT.out _).mono ?_); rintro _ w3 ⟨rfl, hb3⟩; have hS1 := hS.keepB hb3; clear hb3 hS; have hS := hS1; clear hS1) | (go_at_call 34; (with_reducible refine (cF.out _).mono ?_); rintro _ w3 ⟨rfl, hb3⟩; have hS1 := hS.keepB hb3; clear hb3 hS; have hS := hS1; clear hS1) | (go_at_call 29; (with_reducible refine (cK.out _).mono ?_); rintro _ w3 ⟨rfl, hb3⟩; have hS1 := hS.keepB hb3; clear hb3 hS; have hS := hS1; clear hS1) | (go_at_call 31; (with_reducible refine (cL.out _).mono ?_); rintro _ w3 ⟨rfl, hb3⟩; have hS1 := hS.keepB hb3; clear hb3 hS; have hS := hS1; clear hS1) | (go_at_call 32; (with_reducible refine (cP.out _).mono ?_); rintro _ w3 ⟨rfl, hb3⟩; have hS1 := hS.keepB hb3; clear hb3 hS; have hS := hS1; clear hS1) | (go_at_call 33; (with_reducible refine (cQ.out _).mono ?_); rintro _ w3 ⟨rfl, hb3⟩; have hS1 := hS.keepB hb3; clear hb3 hS; have hS := hS1; clear hS1) | (go_at_call 26; (with_reducible refine (cA.out _).mono ?_); rintro _ w3 ⟨rfl, hb3⟩; have hS1 := hS.keepB hb3; clear hb3 hS; have hS := hS1; clear hS1) )
  try clear hC
  refine hK.out _ _ _ (fun _ h => h) (by first | exact hS | exact hS.drop | exact hS.drop.drop | exact hS.drop.drop.drop | exact hS.drop.drop.drop.drop | exact hS.empty | exact hS.one 0 rfl | exact hS.one 1 rfl | exact hS.one 2 rfl | exact hS.one 3 rfl | exact hS.one 4 rfl | exact hS.one 5 rfl | exact hS.one 6 rfl | exact hS.one 7 rfl | exact hS.one 8 rfl | exact hS.one 9 rfl | exact hS.one 10 rfl | exact hS.one 11 rfl) (fun hC => ?_)
  clear hK K
  try simp only [List.getElem_toArray, List.getElem_cons_succ, List.getElem_cons_zero, Act.put, List.setIfInBounds_toArray, List.set_cons_zero, List.set_cons_succ]
  refine mixs_take 5 (v := ?_) rfl (by kernel_rfl) (fun _ _ _ h => h) (by kernel_rfl) (by assumption) (fun s => ?hy) ?_; case hy => (go_simp <;> with_reducible rfl)
  try simp only [List.getElem_toArray, List.getElem_cons_succ, List.getElem_cons_zero, Act.put, List.setIfInBounds_toArray, List.set_cons_zero, List.set_cons_succ]
  refine mixs_take 6 (v := ?_) rfl (by kernel_rfl) (fun _ _ _ h => h) (by kernel_rfl) (by assumption) (fun s => ?hy) ?_; case hy => (go_simp <;> with_reducible rfl)
  try simp only [List.getElem_toArray, List.getElem_cons_succ, List.getElem_cons_zero, Act.put, List.setIfInBounds_toArray, List.set_cons_zero, List.set_cons_succ]
  refine mixs_take 7 (v := ?_) rfl (by kernel_rfl) (fun _ _ _ h => h) (by kernel_rfl) (by assumption) (fun s => ?hy) ?_; case hy => (go_simp <;> with_reducible rfl)
  try simp only [List.getElem_toArray, List.getElem_cons_succ, List.getElem_cons_zero, Act.put, List.setIfInBounds_toArray, List.set_cons_zero, List.set_cons_succ]
  refine mixs_take 10 (v := ?_) rfl (by kernel_rfl) (fun _ _ _ h => h) (by kernel_rfl) (by assumption) (fun s => ?hy) ?_; case hy => (go_simp <;> with_reducible rfl)
  try simp only [List.getElem_toArray, List.getElem_cons_succ, List.getElem_cons_zero, Act.put, List.setIfInBounds_toArray, List.set_cons_zero, List.set_cons_succ]
  refine mixs_one 8 (by kernel_rfl) rfl (fun K hK => ?_)
  go_simp
  ( first | (go_at_call 30; (with_reducible refine (cT.out _).mono ?_); rintro _ w3 ⟨rfl, hb3⟩; have hS1 := hS.keepB hb3; clear hb3 hS; have hS := hS1; clear hS1) | (go_at_call 34; (with_reducible refine (cF.out _).mono ?_); rintro _ w3 ⟨rfl, hb3⟩; have hS1 := hS.keepB hb3; clear hb3 hS; have hS := hS1; clear hS1) | (go_at_call 29; (with_reducible refine (cK.out _).mono ?_); rintro _ w3 ⟨rfl, hb3⟩; have hS1 := hS.keepB hb3; clear hb3 hS; have hS := hS1; clear hS1) | (go_at_call 31; (with_reducible refine (cL.out _).mono ?_); rintro _ w3 ⟨rfl, hb3⟩; have hS1 := hS.keepB hb3; clear hb3 hS; have hS := hS1; clear hS1) | (go_at_call 32; (with_reducible refine (cP.out _).mono ?_); rintro _ w3 ⟨rfl, hb3⟩; have hS1 := hS.keepB hb3; clear hb3 hS; have hS := hS1; clear hS1) | (go_at_call 33; (with_reducible refine (cQ.out _).mono ?_); rintro _ w3 ⟨rfl, hb3⟩; have hS1 := hS.keepB hb3; clear hb3 hS; have hS := hS1; clear hS1) | (go_at_call 26; (with_reducible refine (cA.out _).mono ?_); rintro _ w3 ⟨rfl, hb3⟩; have hS1 := hS.keepB hb3; clear hb3 hS; have hS := hS1; clear hS1) )
  try clear hC
  refine hK.out _ _ _ (fun _ h => h) (by first | exact hS | exact hS.drop | exact hS.drop.drop | exact hS.drop.drop.drop | exact hS.drop.drop.drop.drop | exact hS.empty | exact hS.one 0 rfl | exact hS.one 1 rfl | exact hS.one 2 rfl | exact hS.one 3 rfl | exact hS.one 4 rfl | exact hS.one 5 rfl | exact hS.one 6 rfl | exact hS.one 7 rfl | exact hS.one 8 rfl | exact hS.one 9 rfl | exact hS.one 10 rfl | exact hS.one 11 rfl) (fun hC => ?_)
  clear hK K
  try simp only [List.getElem_toArray, List.getElem_cons_succ, List.getElem_cons_zero, Act.put, List.setIfInBounds_toArray, List.set_cons_zero, List.set_cons_succ]
  refine mixs_one 9 (by kernel_rfl) rfl (fun K hK => ?_)
  go_simp
  ( first | (go_at_call 30; (with_reducible refine (cT.out _).mono ?_); rintro _ w3 ⟨rfl, hb3⟩; have hS1 := hS.keepB hb3; clear hb3 hS; have hS := hS1; clear hS1) | (go_at_call 34; (with_reducible refine (cF.out _).mono ?_); rintro _ w3 ⟨rfl, hb3⟩; have hS1 := hS.keepB hb3; clear hb3 hS; have hS := hS1; clear hS1) | (go_at_call 29; (with_reducible refine (cK.out _).mono ?_); rintro _ w3 ⟨rfl, hb3⟩; have hS1 := hS.keepB hb3; clear hb3 hS; have hS := hS1; clear hS1) | (go_at_call 31; (with_reducible refine (cL.out _).mono ?_); rintro _ w3 ⟨rfl, hb3⟩; have hS1 := hS.keepB hb3; clear hb3 hS; have hS := hS1; clear hS1) | (go_at_call 32; (with_reducible refine (cP.out _).mono ?_); rintro _ w3 ⟨rfl, hb3⟩; have hS1 := hS.keepB hb3; clear hb3 hS; have hS := hS1; clear hS1) | (go_at_call 33; (with_reducible refine (cQ.out _).mono ?_); rintro _ w3 ⟨rfl, hb3⟩; have hS1 := hS.keepB hb3; clear hb3 hS; have hS := hS1; clear hS1) | (go_at_call 26; (with_reducible refine (cA.out _).mono ?_); rintro _ w3 ⟨rfl, hb3⟩; have hS1 := hS.keepB hb3; clear hb3 hS; have hS := hS1; clear hS1) )
  try clear hC
  refine hK.out _ _ _ (fun _ h => h) (by first | exact hS | exact hS.drop | exact hS.drop.drop | exact hS.drop.drop.drop | exact hS.drop.drop.drop.drop | exact hS.empty | exact hS.one 0 rfl | exact hS.one 1 rfl | exact hS.one 2 rfl | exact hS.one 3 rfl | exact hS.one 4 rfl | exact hS.one 5 rfl | exact hS.one 6 rfl | exact hS.one 7 rfl | exact hS.one 8 rfl | exact hS.one 9 rfl | exact hS.one 10 rfl | exact hS.one 11 rfl) (fun hC => ?_)
  clear hK K
  try simp only [List.getElem_toArray, List.getElem_cons_succ, List.getElem_cons_zero, Act.put, List.setIfInBounds_toArray, List.set_cons_zero, List.set_cons_succ]
  refine mixs_one 11 (by kernel_rfl) rfl (fun K hK => ?_)
  go_simp
  ( first | (go_at_call 30; (with_reducible refine (cT.out _).mono ?_); rintro _ w3 ⟨rfl, hb3⟩; have hS1 := hS.keepB hb3; clear hb3 hS; have hS := hS1; clear hS1) | (go_at_call 34; (with_reducible refine (cF.out _).mono ?_); rintro _ w3 ⟨rfl, hb3⟩; have hS1 := hS.keepB hb3; clear hb3 hS; have hS := hS1; clear hS1) | (go_at_call 29; (with_reducible refine (cK.out _).mono ?_); rintro _ w3 ⟨rfl, hb3⟩; have hS1 := hS.keepB hb3; clear hb3 hS; have hS := hS1; clear hS1) | (go_at_call 31; (with_reducible refine (cL.out _).mono ?_); rintro _ w3 ⟨rfl, hb3⟩; have hS1 := hS.keepB hb3; clear hb3 hS; have hS := hS1; clear hS1) | (go_at_call 32; (with_reducible refine (cP.out _).mono ?_); rintro _ w3 ⟨rfl, hb3⟩; have hS1 := hS.keepB hb3; clear hb3 hS; have hS := hS1; clear hS1) | (go_at_call 33; (with_reducible refine (cQ.out _).mono ?_); rintro _ w3 ⟨rfl, hb3⟩; have hS1 := hS.keepB hb3; clear hb3 hS; have hS := hS1; clear hS1) | (go_at_call 26; (with_reducible refine (cA.out _).mono ?_); rintro _ w3 ⟨rfl, hb3⟩; have hS1 := hS.keepB hb3; clear hb3 hS; have hS := hS1; clear hS1) )
  try clear hC
  refine hK.out _ _ _ (fun _ h => h) (by first | exact hS | exact hS.drop | exact hS.drop.drop | exact hS.drop.drop.drop | exact hS.drop.drop.drop.drop | exact hS.empty | exact hS.one 0 rfl | exact hS.one 1 rfl | exact hS.one 2 rfl | exact hS.one 3 rfl | exact hS.one 4 rfl | exact hS.one 5 rfl | exact hS.one 6 rfl | exact hS.one 7 rfl | exact hS.one 8 rfl | exact hS.one 9 rfl | exact hS.one 10 rfl | exact hS.one 11 rfl) (fun hC => ?_)
  clear hK K
  try simp only [List.getElem_toArray, List.getElem_cons_succ, List.getElem_cons_zero, Act.put, List.setIfInBounds_toArray, List.set_cons_zero, List.set_cons_succ]
  refine mixs_take 12 (v := ?_) rfl (by kernel_rfl) (fun _ _ _ h => h) (by kernel_rfl) (by assumption) (fun s => ?hy) ?_; case hy => (go_simp <;> with_reducible rfl)
  try simp only [List.getElem_toArray, List.getElem_cons_succ, List.getElem_cons_zero, Act.put, List.setIfInBounds_toArray, List.set_cons_zero, List.set_cons_succ]
  refine mixs_take 13 (v := ?_) rfl (by kernel_rfl) (fun _ _ _ h => h) (by kernel_rfl) (by assumption) (fun s => ?hy) ?_; case hy => (go_simp <;> with_reducible rfl)
  try simp only [List.getElem_toArray, List.getElem_cons_succ, List.getElem_cons_zero, Act.put, List.setIfInBounds_toArray, List.set_cons_zero, List.set_cons_succ]
  refine mixs_take 14 (v := ?_) rfl (by kernel_rfl) (fun _ _ _ h => h) (by kernel_rfl) (by assumption) (fun s => ?hy) ?_; case hy => (go_simp <;> with_reducible rfl)
  try simp only [List.getElem_toArray, List.getElem_cons_succ, List.getElem_cons_zero, Act.put, List.setIfInBounds_toArray, List.set_cons_zero, List.set_cons_succ]
  refine mixs_take 15 (v := ?_) rfl (by kernel_rfl) (fun _ _ _ h => h) (by kernel_rfl) (by assumption) (fun s => ?hy) ?_; case hy => (go_simp <;> with_reducible rfl)
  try simp only [List.getElem_toArray, List.getElem_cons_succ, List.getElem_cons_zero, Act.put, List.setIfInBounds_toArray, List.set_cons_zero, List.set_cons_succ]
  refine mixs_take 17 (v := ?_) rfl (by kernel_rfl) (fun _ _ _ h => h) (by kernel_rfl) (by assumption) (fun s => ?hy) ?_; case hy => (go_simp <;> with_reducible rfl)
  try simp only [List.getElem_toArray, List.getElem_cons_succ, List.getElem_cons_zero, Act.put, List.setIfInBounds_toArray, List.set_cons_zero, List.set_cons_succ]
  refine mixs_one 16 (by kernel_rfl) rfl (fun K hK => ?_)
  go_simp
  ( first | (go_at_call 30; (with_reducible refine (cT.out _).mono ?_); rintro _ w3 ⟨rfl, hb3⟩; have hS1 := hS.keepB hb3; clear hb3 hS; have hS := hS1; clear hS1) | (go_at_call 34; (with_reducible refine (cF.out _).mono ?_); rintro _ w3 ⟨rfl, hb3⟩; have hS1 := hS.keepB hb3; clear hb3 hS; have hS := hS1; clear hS1) | (go_at_call 29; (with_reducible refine (cK.out _).mono ?_); rintro _ w3 ⟨rfl, hb3⟩; have hS1 := hS.keepB hb3; clear hb3 hS; have hS := hS1; clear hS1) | (go_at_call 31; (with_reducible refine (cL.out _).mono ?_); rintro _ w3 ⟨rfl, hb3⟩; have hS1 := hS.keepB hb3; clear hb3 hS; have hS := hS1; clear hS1) | (go_at_call 32; (with_reducible refine (cP.out _).mono ?_); rintro _ w3 ⟨rfl, hb3⟩; have hS1 := hS.keepB hb3; clear hb3 hS; have hS := hS1; clear hS1) | (go_at_call 33; (with_reducible refine (cQ.out _).mono ?_); rintro _ w3 ⟨rfl, hb3⟩; have hS1 := hS.keepB hb3; clear hb3 hS; have hS := hS1; clear hS1) | (go_at_call 26; (with_reducible refine (cA.out _).mono ?_); rintro _ w3 ⟨rfl, hb3⟩; have hS1 := hS.keepB hb3; clear hb3 hS; have hS := hS1; clear hS1) )
  try clear hC
  refine hK.out _ _ _ (fun _ h => h) (by first | exact hS | exact hS.drop | exact hS.drop.drop | exact hS.drop.drop.drop | exact hS.drop.drop.drop.drop | exact hS.empty | exact hS.one 0 rfl | exact hS.one 1 rfl | exact hS.one 2 rfl | exact hS.one 3 rfl | exact hS.one 4 rfl | exact hS.one 5 rfl | exact hS.one 6 rfl | exact hS.one 7 rfl | exact hS.one 8 rfl | exact hS.one 9 rfl | exact hS.one 10 rfl | exact hS.one 11 rfl) (fun hC => ?_)
  clear hK K
  try simp only [List.getElem_toArray, List.getElem_cons_succ, List.getElem_cons_zero, Act.put, List.setIfInBounds_toArray, List.set_cons_zero, List.set_cons_succ]
  refine mixs_take 18 (v := ?_) rfl (by kernel_rfl) (fun _ _ _ h => h) (by kernel_rfl) (by assumption) (fun s => ?hy) ?_; case hy => (go_simp <;> with_reducible rfl)
  try simp only [List.getElem_toArray, List.getElem_cons_succ, List.getElem_cons_zero, Act.put, List.setIfInBounds_toArray, List.set_cons_zero, List.set_cons_succ]
  refine mixs_take 19 (v := ?_) rfl (by kernel_rfl) (fun _ _ _ h => h) (by kernel_rfl) (by assumption) (fun s => ?hy) ?_; case hy => (go_simp <;> with_reducible rfl)
  try simp only [List.getElem_toArray, List.getElem_cons_succ, List.getElem_cons_zero, Act.put, List.setIfInBounds_toArray, List.set_cons_zero, List.set_cons_succ]
  refine mixs_take 20 (v := ?_) rfl (by kernel_rfl) (fun _ _ _ h => h) (by kernel_rfl) (by assumption) (fun s => ?hy) ?_; case hy => (go_simp <;> with_reducible rfl)
  try simp only [List.getElem_toArray, List.getElem_cons_succ, List.getElem_cons_zero, Act.put, List.setIfInBounds_toArray, List.set_cons_zero, List.set_cons_succ]
  refine mixs_take 21 (v := ?_) rfl (by kernel_rfl) (fun _ _ _ h => h) (by kernel_rfl) (by assumption) (fun s => ?hy) ?_; case hy => (go_simp <;> with_reducible rfl)
  try simp only [List.getElem_toArray, List.getElem_cons_succ, List.getElem_cons_zero, Act.put, List.setIfInBounds_toArray, List.set_cons_zero, List.set_cons_succ]
  refine mixs_take 22 (v := ?_) rfl (by kernel_rfl) (fun _ _ _ h => h) (by kernel_rfl) (by assumption) (fun s => ?hy) ?_; case hy => (go_simp <;> with_reducible rfl)
  try simp only [List.getElem_toArray, List.getElem_cons_succ, List.getElem_cons_zero, Act.put, List.setIfInBounds_toArray, List.set_cons_zero, List.set_cons_succ]
  refine mixs_take 23 (v := ?_) rfl (by kernel_rfl) (fun _ _ _ h => h) (by kernel_rfl) (by assumption) (fun s => ?hy) ?_; case hy => (go_simp <;> with_reducible rfl)
  try simp only [List.getElem_toArray, List.getElem_cons_succ, List.getElem_cons_zero, Act.put, List.setIfInBounds_toArray, List.set_cons_zero, List.set_cons_succ]
  refine mixs_take 24 (v := ?_) rfl (by kernel_rfl) (fun _ _ _ h => h) (by kernel_rfl) (by assumption) (fun s => ?hy) ?_; case hy => (go_simp <;> with_reducible rfl)
  try simp only [List.getElem_toArray, List.getElem_cons_succ, List.getElem_cons_zero, Act.put, List.setIfInBounds_toArray, List.set_cons_zero, List.set_cons_succ]
  refine mixs_take 25 (v := ?_) rfl (by kernel_rfl) (fun _ _ _ h => h) (by kernel_rfl) (by assumption) (fun s => ?hy) ?_; case hy => (go_simp <;> with_reducible rfl)
  try simp only [List.getElem_toArray, List.getElem_cons_succ, List.getElem_cons_zero, Act.put, List.setIfInBounds_toArray, List.set_cons_zero, List.set_cons_succ]
  refine mixs_one 26 (by kernel_rfl) rfl (fun K hK => ?_)
  go_simp
  ( first | (go_at_call 30; (with_reducible refine (cT.out _).mono ?_); rintro _ w3 ⟨rfl, hb3⟩; have hS1 := hS.keepB hb3; clear hb3 hS; have hS := hS1; clear hS1) | (go_at_call 34; (with_reducible refine (cF.out _).mono ?_); rintro _ w3 ⟨rfl, hb3⟩; have hS1 := hS.keepB hb3; clear hb3 hS; have hS := hS1; clear hS1) | (go_at_call 29; (with_reducible refine (cK.out _).mono ?_); rintro _ w3 ⟨rfl, hb3⟩; have hS1 := hS.keepB hb3; clear hb3 hS; have hS := hS1; clear hS1) | (go_at_call 31; (with_reducible refine (cL.out _).mono ?_); rintro _ w3 ⟨rfl, hb3⟩; have hS1 := hS.keepB hb3; clear hb3 hS; have hS := hS1; clear hS1) | (go_at_call 32; (with_reducible refine (cP.out _).mono ?_); rintro _ w3 ⟨rfl, hb3⟩; have hS1 := hS.keepB hb3; clear hb3 hS; have hS := hS1; clear hS1) | (go_at_call 33; (with_reducible refine (cQ.out _).mono ?_); rintro _ w3 ⟨rfl, hb3⟩; have hS1 := hS.keepB hb3; clear hb3 hS; have hS := hS1; clear hS1) | (go_at_call 26; (with_reducible refine (cA.out _).mono ?_); rintro _ w3 ⟨rfl, hb3⟩; have hS1 := hS.keepB hb3; clear hb3 hS; have hS := hS1; clear hS1) )
  try clear hC
  refine hK.out _ _ _ (fun _ h => h) (by first | exact hS | exact hS.drop | exact hS.drop.drop | exact hS.drop.drop.drop | exact hS.drop.drop.drop.drop | exact hS.empty | exact hS.one 0 rfl | exact hS.one 1 rfl | exact hS.one 2 rfl | exact hS.one 3 rfl | exact hS.one 4 rfl | exact hS.one 5 rfl | exact hS.one 6 rfl | exact hS.one 7 rfl | exact hS.one 8 rfl | exact hS.one 9 rfl | exact hS.one 10 rfl | exact hS.one 11 rfl) (fun hC => ?_)
  clear hK K
  try simp only [List.getElem_toArray, List.getElem_cons_succ, List.getElem_cons_zero, Act.put, List.setIfInBounds_toArray, List.set_cons_zero, List.set_cons_succ]
  refine mixs_take 27 (v := ?_) rfl (by kernel_rfl) (fun _ _ _ h => h) (by kernel_rfl) (by assumption) (fun s => ?hy) ?_; case hy => (go_simp <;> with_reducible rfl)
  try simp only [List.getElem_toArray, List.getElem_cons_succ, List.getElem_cons_zero, Act.put, List.setIfInBounds_toArray, List.set_cons_zero, List.set_cons_succ]
  refine mixs_take 28 (v := ?_) rfl (by kernel_rfl) (fun _ _ _ h => h) (by kernel_rfl) (by assumption) (fun s => ?hy) ?_; case hy => (go_simp <;> with_reducible rfl)
  try simp only [List.getElem_toArray, List.getElem_cons_succ, List.getElem_cons_zero, Act.put, List.setIfInBounds_toArray, List.set_cons_zero, List.set_cons_succ]
  refine wpAnyH_done (by kernel_rfl) ?_ _
  try clear hC
  go_wp2_with fail
  go_ret
  exact ⟨rfl, hS.below⟩

theorem sectors38_any (x : Rt) (s : ByteArray) (w : World) (hsm : s.size ≤ maxLen) :
    Calls Try.prog 4 #[.agg #[.int .i64 x.seq, .int .i64 x.life, .int .i64 x.head], .string s] w fun e w' => e = .returned (.bool true) ∧ Below w.heap.size w w' := by
  by_cases hs : s.size ≤ 200
  · exact sectors38_main x s w hs
  · have hS := St.start w
    have cA := awake38_any
    replace cA := Lib.hid cA
    have h2 : 200 < s.size := by omega
    unfold maxLen at hsm
    go_enter Try.func4, Try.ntmps4
    go_wp2_with (first
      | (with_reducible refine wpList_box_st hS rfl rfl rfl ?_; intro g1 w1 hS1; clear hS; replace hS := hS1; clear hS1) | (with_reducible refine wpList_box1_st hS rfl rfl rfl ?_; intro g1 w1 hS1; clear hS; replace hS := hS1; clear hS1) | (with_reducible refine wpList_alloc_st hS rfl rfl (by assumption) ?_; intro g1 w1 hS1; clear hS; replace hS := hS1; clear hS1) | (with_reducible refine wpList_alloc1_st hS rfl rfl (by assumption) rfl ?_; intro g1 w1 hS1; clear hS; replace hS := hS1; clear hS1) | ((with_reducible refine wpList_load_st 0 hS rfl rfl rfl rfl ?_ rfl ?_); focus (simp [scalarB, go_sem]; done)) | ((with_reducible refine wpList_loadall_st 0 hS rfl rfl rfl rfl ?_ (by kernel_rfl) ?_); focus (simp [rowB, go_sem]; done)) | ((with_reducible refine wpList_store_st 0 hS rfl rfl rfl rfl (by kernel_rfl) rfl rfl ?_); intro w1 hS1; clear hS; replace hS := hS1; clear hS1; try simp only [List.set_cons_zero, List.set_cons_succ, List.setIfInBounds_toArray, List.take_succ_cons, List.take_zero, List.drop_succ_cons, List.drop_zero, List.nil_append, List.cons_append, List.append_nil, List.drop_nil, List.take_nil, List.length_cons, List.length_nil, Nat.zero_add, Nat.add_zero, Nat.reduceAdd] at hS) | ((with_reducible refine wpList_storerow_st 0 hS rfl rfl rfl rfl (by kernel_rfl) rfl rfl rfl rfl ?_); intro w1 hS1; clear hS; replace hS := hS1; clear hS1; try simp only [List.set_cons_zero, List.set_cons_succ, List.setIfInBounds_toArray, List.take_succ_cons, List.take_zero, List.drop_succ_cons, List.drop_zero, List.nil_append, List.cons_append, List.append_nil, List.drop_nil, List.take_nil, List.length_cons, List.length_nil, Nat.zero_add, Nat.add_zero, Nat.reduceAdd] at hS)
      | (go_at_call 26; (with_reducible refine (cA.out _).mono ?_); rintro _ w3 ⟨rfl, hb3⟩; have hS1 := hS.keepB hb3; clear hb3 hS; have hS := hS1; clear hS1))
    go_ret
    exact ⟨rfl, hS.below⟩
end Go.Proofs.Ytlhpibniecfofaa
end

section
/- DiskKeeps: plain law. -/
set_option linter.unusedSimpArgs false
set_option linter.unusedVariables false
namespace Go.Ofp
/-- An act: what it does, where, a number, a byte, what stays. -/
structure Ac where
  kind : Int
  place : Int
  n : Int
  c : UInt8
  a : Option Go.Addr
  kc : Nat
  keep : List Int
namespace Dk
/-- A disk whose power is there, with what waits. -/
def dk (S : List Sc) (W : List Wt) : Dk := ⟨S, W, -1, false⟩
def waits (l : List Ac) : List Wt := l.filterMap fun a => if 0 ≤ a.place ∧ a.place < 8 then some ⟨a.place, List.replicate 64 a.c⟩ else none
def was1 (ws : List (List UInt8)) (a : Ac) : List (List UInt8) := if 0 ≤ a.place ∧ a.place < 8 then ws.set a.place.toNat (List.replicate 64 a.c) else ws
def clean (b : List UInt8) : Sc := ⟨b, false⟩
theorem dk_ready {S : List Sc} {W : List Wt} (hS : S.length = 8) (i : Int) : (dk S W).ready i = if 0 ≤ i ∧ i < 8 then 0 else 1 := by
  unfold ready dk
  simp only [hS, Bool.false_eq_true, if_false]
  split
  · rw [if_neg (by omega)]
  · rw [if_pos (by omega)]
theorem dk_step (S : List Sc) (W : List Wt) : (dk S W).step = dk S W := by
  unfold step dk
  simp
theorem dk_write {S : List Sc} {W : List Wt} (hS : S.length = 8) (i : Int) (c : UInt8) : (dk S W).write i (List.replicate 64 c) = if 0 ≤ i ∧ i < 8 then (dk S (W ++ [⟨i, List.replicate 64 c⟩]), 0) else (dk S W, 1) := by
  unfold write
  rw [dk_ready hS]
  split
  · rw [if_pos rfl, if_pos (by simp)]
    have : (dk S (W ++ [⟨i, List.replicate 64 c⟩])).step = dk S (W ++ [⟨i, List.replicate 64 c⟩]) := dk_step _ _
    show (step (dk S (W ++ [⟨i, List.replicate 64 c⟩])), _) = _
    rw [this]
    rfl
  · rw [if_neg (by omega)]
theorem waits_snoc (l : List Ac) (a : Ac) : waits (l ++ [a]) = waits l ++ (if 0 ≤ a.place ∧ a.place < 8 then [⟨a.place, List.replicate 64 a.c⟩] else []) := by
  unfold waits
  rw [List.filterMap_append]
  congr 1
  by_cases h : 0 ≤ a.place ∧ a.place < 8
  · simp [h]
  · simp [h]
theorem dk_write_next {S : List Sc} (hS : S.length = 8) (l : List Ac) (a : Ac) : ((dk S (waits l)).write a.place (List.replicate 64 a.c)).1 = dk S (waits (l ++ [a])) := by
  rw [dk_write hS, waits_snoc]
  split
  · rfl
  · rw [List.append_nil]
theorem dk_sync {S : List Sc} {W : List Wt} (hS : S.length = 8) : (dk S W).sync = (dk (done S W) [], 0) := by
  unfold sync
  rw [dk_ready hS, if_pos (by omega), dk_step, if_neg (by simp [dk])]
  rfl
theorem done_was (l : List Ac) : ∀ ws : List (List UInt8), done (ws.map clean) (waits l) = (l.foldl was1 ws).map clean := by
  induction l with
  | nil => intro ws; rfl
  | cons a l ih =>
    intro ws
    rw [List.foldl_cons, ← ih]
    unfold waits
    rw [List.filterMap_cons]
    unfold was1
    split
    · rename_i h
      split at h
      · cases h
      · rename_i h2; rw [if_neg h2]
    · rename_i x h
      split at h
      · rename_i h2
        cases h
        rw [if_pos h2, List.map_set]
        rfl
      · cases h
theorem dk_crash (S : List Sc) (W : List Wt) (keep : List Int) : (dk S W).crash keep = dk (fall keep 0 S W) [] := rfl
theorem dk_read {T : List Sc} (hT : T.length = 8) (k : Nat) (hk : k < 8) : (dk T []).read k = if (T[k]'(by omega)).bad then ([], 16) else ((T[k]'(by omega)).b, 0) := by
  unfold read
  rw [dk_ready hT, if_pos (by omega)]
  have : (dk T []).see k = T[k]'(by omega) := by
    show T.getD (k : Int).toNat ⟨[], true⟩ = _
    rw [List.getD_eq_getElem?_getD, Int.toNat_natCast, List.getElem?_eq_getElem (by omega)]
    rfl
  rw [this]

/-- What a sector may be behind a fall. -/
def May (S : List Sc) (W : List Wt) (T : List Sc) : Prop := ∀ (k : Nat) (s : Sc), T[k]? = some s → S[k]? = some s ∨ ∃ x ∈ W, x.place = (k : Int) ∧ (s.bad = true ∨ s = ⟨x.b, false⟩)
theorem may_fall1 {S T : List Sc} {W : List Wt} (keep : List Int) (i : Nat) (x : Wt) (hx : x ∈ W) (hp : 0 ≤ x.place) (h : May S W T) : May S W (fall1 keep T i x) := by
  intro k s hs
  unfold fall1 at hs
  obtain ⟨q, hq⟩ := Int.eq_ofNat_of_zero_le hp
  rw [hq, Int.toNat_natCast] at hs
  split at hs
  · rw [List.getElem?_set] at hs
    split at hs
    · rename_i e
      subst e
      split at hs
      · cases hs; exact .inr ⟨x, hx, hq, .inr rfl⟩
      · cases hs
    · exact h k s hs
  · split at hs
    · rw [List.getElem?_modify] at hs
      cases e2 : T[k]? with
      | none => rw [e2] at hs; cases hs
      | some t =>
        rw [e2] at hs
        by_cases e : q = k
        · subst e
          have e3 : { t with bad := true } = s := by simpa using hs
          subst e3
          exact .inr ⟨x, hx, hq, .inl rfl⟩
        · have e3 : t = s := by simpa [e] using hs
          subst e3
          exact h k _ e2
    · exact h k s hs
theorem may_fall {S : List Sc} {W : List Wt} (hW : ∀ x ∈ W, 0 ≤ x.place) (keep : List Int) (l : List Wt) : ∀ (i : Nat) (T : List Sc), (∀ x ∈ l, x ∈ W) → May S W T → May S W (fall keep i T l) := by
  induction l with
  | nil => intro i T _ h; exact h
  | cons x l ih =>
    intro i T hl h
    rw [fall]
    exact ih (i + 1) _ (fun y hy => hl y (by simp [hy])) (may_fall1 keep i x (hl x (by simp)) (hW x (hl x (by simp))) h)

/-- Is a sector what it was, or what a write that waited wrote, or bad? -/
def okB (s : List UInt8) (e : Int) (w : List UInt8) (k : Int) (l : List Ac) : Bool := (s == w) || l.any fun a => (a.place == k) && ((s == List.replicate 64 a.c) || (e == 16))
def touchB (k : Int) (l : List Ac) : Bool := l.any fun a => a.place == k
theorem okB_snoc (s : List UInt8) (e : Int) (w : List UInt8) (k : Int) (l : List Ac) (a : Ac) : okB s e w k (l ++ [a]) = (okB s e w k l || ((a.place == k) && ((s == List.replicate 64 a.c) || (e == 16)))) := by
  simp [okB, Bool.or_assoc]
theorem touchB_snoc (k : Int) (l : List Ac) (a : Ac) : touchB k (l ++ [a]) = (touchB k l || (a.place == k)) := by
  simp [touchB]

theorem keeps_law (ws : List (List UInt8)) (hws : ws.length = 8) (rest : List Ac) (keep : List Int) (k : Nat) (hk : k < 8) :
    okB ((dk (fall keep 0 (ws.map clean) (waits rest)) []).read k).1 ((dk (fall keep 0 (ws.map clean) (waits rest)) []).read k).2 (ws[k]'(by omega)) k rest = true ∧
    (touchB k rest = true ∨ ((dk (fall keep 0 (ws.map clean) (waits rest)) []).read k).2 = 0) := by
  have hWm : ∀ x ∈ waits rest, ∃ a ∈ rest, 0 ≤ a.place ∧ a.place < 8 ∧ x = ⟨a.place, List.replicate 64 a.c⟩ := by
    intro x hx
    unfold waits at hx
    obtain ⟨a, ha, h⟩ := List.mem_filterMap.1 hx
    split at h
    · rename_i h2; cases h; exact ⟨a, ha, h2.1, h2.2, rfl⟩
    · cases h
  have hlen : (fall keep 0 (ws.map clean) (waits rest)).length = 8 := by
    have : ∀ (l : List Wt) (i : Nat) (T : List Sc), (fall keep i T l).length = T.length := by
      intro l
      induction l with
      | nil => intro i T; rfl
      | cons x l ih =>
        intro i T
        rw [fall, ih]
        unfold fall1
        split
        · exact List.length_set ..
        · split
          · exact List.length_modify ..
          · rfl
    rw [this, List.length_map, hws]
  have hmay : May (ws.map clean) (waits rest) (fall keep 0 (ws.map clean) (waits rest)) :=
    may_fall (fun x hx => by obtain ⟨a, -, h1, -, rfl⟩ := hWm x hx; exact h1) keep _ 0 _ (fun _ h => h) (fun k s h => .inl h)
  rw [dk_read hlen k hk]
  have hk2 := hmay k _ (List.getElem?_eq_getElem (by omega))
  generalize (fall keep 0 (ws.map clean) (waits rest))[k]'(by omega) = s at hk2 ⊢
  rcases hk2 with h | ⟨x, hx, hxp, h⟩
  · rw [List.getElem?_map, List.getElem?_eq_getElem (by omega)] at h
    cases h
    simp [clean, okB]
  · obtain ⟨a, ha, h1, h2, rfl⟩ := hWm x hx
    have ht : touchB k rest = true := by
      rw [touchB, List.any_eq_true]
      exact ⟨a, ha, by simpa using hxp⟩
    refine ⟨?_, .inl ht⟩
    unfold okB
    rw [Bool.or_eq_true, List.any_eq_true]
    refine .inr ⟨a, ha, ?_⟩
    have hp : (a.place == (k : Int)) = true := by simpa using hxp
    rcases h with h | rfl
    · simp [hp, h]
    · simp [hp]
end Dk
end Go.Ofp
end

section
/- Acts of disks in memory, and opened. -/
set_option linter.unusedSimpArgs false
set_option linter.unusedVariables false
namespace Go.Proofs.Ytlhpibniecfofaa
open Go.RowKit Go.Ofp Go.WideShapes
set_option linter.unusedVariables false
set_option maxRecDepth 100000

theorem row_ints {w : World} {a : Option Addr} {len cap : Nat} {zs : List Int} (h : (a = none ∧ len = 0 ∧ cap = 0 ∧ zs = []) ∨
    ∃ x, a = some x ∧ len ≤ cap ∧ cap ≤ maxLen ∧ zs.length = cap ∧ (∀ i, i < zs.length → w.cell? (x.add i) = some (.int .i64 (zs.getD i 0))) ∧ ∀ n ∈ zs, (Lit.int .i64 n).wf = true) :
    ∃ l : List Int, l.length = len ∧ Sl w a (l.map vi) ∧ len ≤ cap ∧ cap ≤ maxLen ∧ ∀ x ∈ l, -9223372036854775808 ≤ x ∧ x ≤ 9223372036854775807 := by
  rcases h with ⟨rfl, rfl, rfl, rfl⟩ | ⟨x, rfl, h1, h2, h3, h4, h5⟩
  · exact ⟨[], rfl, Sl.nil _ _, Nat.le_refl _, Nat.zero_le _, by simp⟩
  · refine ⟨zs.take len, by rw [List.length_take]; omega, ?_, h1, h2, fun z hz => wf_i64 (h5 z (List.mem_of_mem_take hz))⟩
    intro i hi
    have hi' : i < len := by simp at hi; omega
    have hc := h4 i (by omega)
    obtain ⟨b, off, spot⟩ := x
    have hs : spot = none := by
      have := h4 0 (by omega)
      simpa [Addr.add] using World.cell?_spot this
    subst hs
    refine ⟨b, off, rfl, ?_⟩
    rw [Addr.add_lit] at hc
    rw [hc]
    simp [vi, List.getElem?_eq_getElem (show i < zs.length by omega)]

def acRow (x : Ac) : List Value := [.int .i64 x.kind, .int .i64 x.place, .int .i64 x.n, .int .u8 x.c.toNat, .slice x.a x.keep.length x.kc]
/-- What an act keeps lies there. -/
structure AcMem (w : World) (x : Ac) : Prop where
  sl : Sl w x.a (x.keep.map vi)
  le : x.keep.length ≤ x.kc
  cm : x.kc ≤ maxLen
  keep : ∀ z ∈ x.keep, -9223372036854775808 ≤ z ∧ z ≤ 9223372036854775807
  place : -9223372036854775808 ≤ x.place ∧ x.place ≤ 9223372036854775807
  n : -9223372036854775808 ≤ x.n ∧ x.n ≤ 9223372036854775807
theorem AcMem.below {w w' : World} {x : Ac} (h : AcMem w x) (hb : Below w.heap.size w w') : AcMem w' x := ⟨h.sl.below hb, h.le, h.cm, h.keep, h.place, h.n⟩
/-- Acts lie there. -/
structure Acs (w : World) (a : Option Addr) (n c : Nat) (l : List Ac) : Prop where
  sl : Sl w a (l.map acRow).flatten
  len : l.length = n
  le : n ≤ c
  cm : c ≤ maxLen
  mem : ∀ x ∈ l, AcMem w x
theorem Acs.below {w w' : World} {a : Option Addr} {n c : Nat} {l : List Ac} (h : Acs w a n c l) (hb : Below w.heap.size w w') : Acs w' a n c l :=
  ⟨h.sl.below hb, h.len, h.le, h.cm, fun x hx => (h.mem x hx).below hb⟩
theorem Acs.get {w : World} {a : Option Addr} {n c : Nat} {l : List Ac} (h : Acs w a n c l) (j : Nat) (hj : j < l.length) :
    ∃ b off, a = some ⟨b, off, none⟩ ∧ ∀ t v, (acRow l[j])[t]? = some v → w.cell? ⟨b, off + (j * 5 + t), none⟩ = some v := by
  have hr : Rw w a 5 (l.map acRow) := ⟨h.sl, fun r hr => by obtain ⟨p, _, rfl⟩ := List.mem_map.1 hr; rfl⟩
  obtain ⟨b, off, rfl, hc⟩ := hr.get j (by simpa using hj) (by decide)
  refine ⟨b, off, rfl, fun t v hv => hc t v ?_⟩
  rw [List.getElem_map]
  exact hv

section
variable {H : Type} {enc : TypeId × Value → H}
theorem read_ac {w : World} {cs : List Value} (h : ∃ fuel x, DataW.trod enc Try.prog w 0 (fun _ => true) true fuel 35 cs = some x) : ∃ x : Ac, cs = acRow x ∧ AcMem w x := by
  obtain ⟨fuel, x, h⟩ := h
  obtain ⟨hl, hf⟩ := field_read Try.underlying35 h
  have hc : Try.prog.cellsOf 35 = 5 := by kernel_rfl
  have hc1 : Try.prog.cellsOf 33 = 1 := by kernel_rfl
  rw [hc] at hl
  obtain ⟨n0, y0, h0⟩ := hf 0 _ rfl
  obtain ⟨n1, y1, h1⟩ := hf 1 _ rfl
  obtain ⟨n2, y2, h2⟩ := hf 2 _ rfl
  obtain ⟨n3, y3, h3⟩ := hf 3 _ rfl
  obtain ⟨n4, y4, h4⟩ := hf 4 _ rfl
  obtain ⟨z0, e0, w0⟩ := field_int Try.underlying3 (by kernel_rfl) (by rw [hl]; decide) h0
  obtain ⟨z1, e1, w1⟩ := field_int Try.underlying3 (by kernel_rfl) (by rw [hl]; decide) h1
  obtain ⟨z2, e2, w2⟩ := field_int Try.underlying3 (by kernel_rfl) (by rw [hl]; decide) h2
  obtain ⟨z3, e3, w3⟩ := field_int Try.underlying5 (by kernel_rfl) (by rw [hl]; decide) h3
  have h4' : DataW.trod enc Try.prog w 0 (fun _ => true) true n4 33 ((cs.drop 4).take (Try.prog.cellsOf 33)) = some y4 := h4
  rw [hc1] at h4'
  obtain ⟨c3, rfl⟩ := wf_u8 w3
  match cs, hl with
  | [c0, c1, c2, c3', c4], _ =>
    simp at e0 e1 e2 e3 h4'
    subst e0 e1 e2 e3
    obtain ⟨d4, p4⟩ := y4
    rcases Go.ChangeShapes.open_ints Try.underlying33 Try.underlying3 (by kernel_rfl) h4' with ⟨hcs, _⟩ | ⟨x, l, c, zs, hcs, _, hl', hm, hz, _, hcell, hwz⟩
    · simp only [List.cons.injEq, and_true] at hcs
      subst hcs
      exact ⟨⟨z0, z1, z2, c3, none, 0, []⟩, rfl, ⟨Sl.nil _ _, Nat.le_refl _, Nat.zero_le _, by simp, wf_i64 w1, wf_i64 w2⟩⟩
    · simp only [List.cons.injEq, and_true] at hcs
      subst hcs
      obtain ⟨m, hml, hms, h5, h6, h7⟩ := row_ints (w := w) (a := some x) (len := l) (cap := c) (zs := zs) (.inr ⟨x, rfl, hl', hm, by simpa using hz, hcell, hwz⟩)
      subst hml
      exact ⟨⟨z0, z1, z2, c3, some x, c, m⟩, rfl, ⟨hms, h5, h6, h7, wf_i64 w1, wf_i64 w2⟩⟩

theorem acs_of {w : World} {rows : List (List Value)} (h : ∀ cs ∈ rows, ∃ x : Ac, cs = acRow x ∧ AcMem w x) : ∃ l : List Ac, rows = l.map acRow ∧ ∀ x ∈ l, AcMem w x := by
  induction rows with
  | nil => exact ⟨[], rfl, by simp⟩
  | cons c cs ih =>
    obtain ⟨p, rfl, hp⟩ := h c (by simp)
    obtain ⟨ps, rfl, hps⟩ := ih (fun x hx => h x (by simp [hx]))
    refine ⟨p :: ps, rfl, ?_⟩
    intro q hq
    rcases List.mem_cons.1 hq with rfl | hq
    · exact hp
    · exact hps q hq

theorem open_acs {r : Reach} {b0 : Nat} {v : Value} {d : DataW H} {ms : List MemPlace} {w : World}
    (ho : Value.okWide Try.prog w r b0 22 v) (ht : DataW.Trod enc Try.prog w 0 (fun _ => true) true 22 v d ms) :
    ∃ a n cap l, v = .slice a n cap ∧ Acs w a n cap l := by
  have hc : Try.prog.cellsOf 35 = 5 := by kernel_rfl
  obtain ⟨b, n, cb, rfl, hn, hm, rows, hrl, hrw, hrd⟩ := open_rows Try.underlying22 ho ht (by rw [hc]; decide)
  obtain ⟨qs, rfl, hqs⟩ := acs_of fun cs h => read_ac (hrd cs h)
  rw [List.length_map] at hrl
  exact ⟨b, n, cb, qs, rfl, ⟨hrw.sl, hrl, hn, hm, hqs⟩⟩
end
end Go.Proofs.Ytlhpibniecfofaa
end

section
/- The walks of pieces: which may be, how many there are, and what lists of pieces are in memory. -/
set_option linter.unusedSimpArgs false
set_option linter.unusedVariables false
namespace Go.Proofs.Ytlhpibniecfofaa
open Go.RowKit Go.Ofp
set_option linter.unusedVariables false
set_option maxRecDepth 100000
set_option maxHeartbeats 4000000

theorem many_any (n : Nat) (w : World) (hn : n ≤ maxLen) : Calls Try.prog 83 #[.int .i64 n] w fun e w' => e = .returned (.int .i64 (manyB n)) ∧ w = w' := by
  unfold maxLen at hn
  rcases manyB_eq n with ⟨h, e⟩ | ⟨h, e⟩
  · rw [e]
    go_enter Try.func83, Try.ntmps83
    go_wp2_with fail
    go_ret
    exact ⟨rfl, rfl⟩
  · rw [e]
    go_enter Try.func83, Try.ntmps83
    go_wp2_with fail
    go_ret
    have e2 : ((n - 1 : Nat) : Int) = (n : Int) - 1 := by omega
    refine ⟨congrArg (fun z => Ending.returned (.int .i64 z)) ?_, rfl⟩
    have e3 : (((n - 1) / 52 + 1 : Nat) : Int) = (n - 1 : Nat) / 52 + 1 := by omega
    rw [e3, e2]
    omega

theorem rmany_any (n : Nat) (w : World) (hn : n ≤ maxLen) : Calls Try.prog 114 #[.int .i64 n] w fun e w' => e = .returned (.int .i64 (manyB n)) ∧ w = w' := by
  unfold maxLen at hn
  rcases manyB_eq n with ⟨h, e⟩ | ⟨h, e⟩
  · rw [e]
    go_enter Try.func114, Try.ntmps114
    go_wp2_with fail
    go_ret
    exact ⟨rfl, rfl⟩
  · rw [e]
    go_enter Try.func114, Try.ntmps114
    go_wp2_with fail
    go_ret
    have e2 : ((n - 1 : Nat) : Int) = (n : Int) - 1 := by omega
    refine ⟨congrArg (fun z => Ending.returned (.int .i64 z)) ?_, rfl⟩
    have e3 : (((n - 1) / 52 + 1 : Nat) : Int) = (n - 1 : Nat) / 52 + 1 := by omega
    rw [e3, e2]

theorem check_any (p : Pc) (w : World) : Calls Try.prog 101 #[p.val] w fun e w' => e = .returned (.bool p.ok) ∧ Below w.heap.size w w' := by
  have hok := Pc.ok_iff p
  generalize p.ok = b at hok ⊢
  obtain ⟨life, place, first, last, body⟩ := p
  simp only [Pc.val, Pc.row] at hok ⊢
  replace hok := Lib.hid hok
  go_enter Try.func101, Try.ntmps101
  go_wp2_with fail
  all_goals
    go_ret
    refine ⟨?_, (Below.refl _ _).alloc (Nat.le_refl _) _⟩
    refine congrArg (fun z => Ending.returned (.bool z)) ?_
    rw [Bool.eq_iff_iff, hok.out]
    simp
    omega

theorem rcheck_any (p : Pc) (w : World) : Calls Try.prog 115 #[p.val] w fun e w' => e = .returned (.bool p.ok) ∧ Below w.heap.size w w' := by
  have hok := Pc.ok_iff p
  generalize p.ok = b at hok ⊢
  obtain ⟨life, place, first, last, body⟩ := p
  simp only [Pc.val, Pc.row] at hok ⊢
  replace hok := Lib.hid hok
  go_enter Try.func115, Try.ntmps115
  go_wp2_with fail
  all_goals
    go_ret
    refine ⟨?_, (Below.refl _ _).alloc (Nat.le_refl _) _⟩
    refine congrArg (fun z => Ending.returned (.bool z)) ?_
    rw [Bool.eq_iff_iff, hok.out]
    simp
    omega

theorem owns_below {w w' : World} {base e size n : Nat} {v : Value} {xs : List Value} (h : w.ownsRow base e size v n xs) (hb : Below w.heap.size w w') : w'.ownsRow base e size v n xs :=
  owns_kept h fun row => grown_below hb row

/-- A list of pieces in memory. -/
def Ps (w : World) (a : Option Addr) (ps : List Pc) : Prop := Sl w a (ps.map Pc.row).flatten

theorem rows_len (ps : List Pc) : (ps.map Pc.row).flatten.length = ps.length * 5 := by
  induction ps with
  | nil => rfl
  | cons p ps ih => rw [List.map_cons, List.flatten_cons, List.length_append, ih, Pc.row_length, List.length_cons]; omega

theorem rows_one (ps : List Pc) : ∀ u ∈ (ps.map Pc.row).flatten, u.oneCell' = true := by
  intro u hu
  obtain ⟨r, hr, hu⟩ := List.mem_flatten.1 hu
  obtain ⟨p, _, rfl⟩ := List.mem_map.1 hr
  simp only [Pc.row, List.mem_cons, List.not_mem_nil, or_false] at hu
  rcases hu with rfl | rfl | rfl | rfl | rfl <;> rfl

theorem row_one (p : Pc) : ∀ u ∈ p.row, u.oneCell' = true := by
  have := rows_one [p]
  simpa using this

theorem Ps.below {w w' : World} {a : Option Addr} {ps : List Pc} (h : Ps w a ps) (hb : Below w.heap.size w w') : Ps w' a ps := Sl.below h hb

theorem Ps.get {w : World} {a : Option Addr} {ps : List Pc} (h : Ps w a ps) (j : Nat) (p : Pc) (hj : ps[j]? = some p) :
    ∃ b off, a = some ⟨b, off, none⟩ ∧ w.cell? ⟨b, off + j * 5, none⟩ = some (.int .i64 p.life) ∧ w.cell? ⟨b, off + j * 5 + 1, none⟩ = some (.int .i64 p.place) ∧
      w.cell? ⟨b, off + j * 5 + 2, none⟩ = some (.bool p.first) ∧ w.cell? ⟨b, off + j * 5 + 3, none⟩ = some (.bool p.last) ∧ w.cell? ⟨b, off + j * 5 + 4, none⟩ = some (.string p.body) := by
  obtain ⟨hl, rfl⟩ := List.getElem?_eq_some_iff.1 hj
  have hr : Rw w a 5 (ps.map Pc.row) := ⟨h, fun r hr => by obtain ⟨p, _, rfl⟩ := List.mem_map.1 hr; rfl⟩
  obtain ⟨b, off, rfl, hc⟩ := hr.get j (by simpa using hl) (by decide)
  simp only [List.getElem_map] at hc
  refine ⟨b, off, rfl, ?_, ?_, ?_, ?_, ?_⟩
  · exact hc 0 _ rfl
  · exact hc 1 _ rfl
  · exact hc 2 _ rfl
  · exact hc 3 _ rfl
  · exact hc 4 _ rfl

theorem elem_pc : Elem Try.prog 148 (.agg #[.int .i64 0, .int .i64 0, .bool false, .bool false, .string ⟨#[]⟩]) 5 40 := Elem.mk (by kernel_rfl) (by rfl) (by decide)
theorem elem_rpc : Elem Try.prog 181 (.agg #[.int .i64 0, .int .i64 0, .bool false, .bool false, .string ⟨#[]⟩]) 5 40 := Elem.mk (by kernel_rfl) (by rfl) (by decide)

end Go.Proofs.Ytlhpibniecfofaa
end

section
/- Pieces that came in, opened. -/
set_option linter.unusedSimpArgs false
set_option linter.unusedVariables false
namespace Go.Ofp
open Go.RowKit Go.WideShapes

section
variable {H : Type} {enc : TypeId × Value → H} {P : Program} {w : World} {base : Nat} {spare : Nat → Bool} {held : Bool}

theorem field_bool {f : TypeId} {o n : Nat} {cs : List Value} {y : DataW H × List MemPlace} (hf : P.underlying f = some .bool) (hc : P.cellsOf f = 1) (ho : o < cs.length)
    (h : DataW.trod enc P w base spare held n f ((cs.drop o).take (P.cellsOf f)) = some y) : ∃ z, cs[o]? = some (.bool z) := by
  obtain ⟨z, hz, _⟩ := DataW.trod_bool hf h
  rw [hc, List.drop_eq_getElem_cons ho] at hz
  simp only [List.take_succ_cons, List.take_zero, List.cons.injEq, and_true] at hz
  exact ⟨z, by rw [List.getElem?_eq_getElem ho, hz]⟩

theorem field_string {f : TypeId} {o n : Nat} {cs : List Value} {y : DataW H × List MemPlace} (hf : P.underlying f = some .string) (hc : P.cellsOf f = 1) (ho : o < cs.length)
    (h : DataW.trod enc P w base spare held n f ((cs.drop o).take (P.cellsOf f)) = some y) : ∃ s : ByteArray, cs[o]? = some (.string s) ∧ s.size ≤ maxLen := by
  obtain ⟨z, hz, _, hs⟩ := DataW.trod_string hf h
  rw [hc, List.drop_eq_getElem_cons ho] at hz
  simp only [List.take_succ_cons, List.take_zero, List.cons.injEq, and_true] at hz
  exact ⟨z, by rw [List.getElem?_eq_getElem ho, hz], hs⟩
end
end Go.Ofp

set_option maxRecDepth 100000
namespace Go.Proofs.Ytlhpibniecfofaa
open Go.RowKit Go.Ofp

/-- What is known of a piece that came in. -/
def PcIn (p : Pc) : Prop := ((-9223372036854775808 ≤ p.life ∧ p.life ≤ 9223372036854775807) ∧ (-9223372036854775808 ≤ p.place ∧ p.place ≤ 9223372036854775807)) ∧ p.body.size ≤ maxLen

section
variable {H : Type} {enc : TypeId × Value → H}
theorem read_pc {w : World} {base : Nat} {spare : Nat → Bool} {held : Bool} {cs : List Value} (h : ∃ fuel x, DataW.trod enc Try.prog w base spare held fuel 181 cs = some x) : ∃ p : Pc, cs = p.row ∧ PcIn p := by
  obtain ⟨fuel, x, h⟩ := h
  obtain ⟨hl, hf⟩ := field_read Try.underlying181 h
  have hc : Try.prog.cellsOf 181 = 5 := by kernel_rfl
  rw [hc] at hl
  obtain ⟨n0, y0, h0⟩ := hf 0 _ rfl
  obtain ⟨n1, y1, h1⟩ := hf 1 _ rfl
  obtain ⟨n2, y2, h2⟩ := hf 2 _ rfl
  obtain ⟨n3, y3, h3⟩ := hf 3 _ rfl
  obtain ⟨n4, y4, h4⟩ := hf 4 _ rfl
  obtain ⟨z0, e0, w0⟩ := field_int Try.underlying3 (by kernel_rfl) (by rw [hl]; decide) h0
  obtain ⟨z1, e1, w1⟩ := field_int Try.underlying3 (by kernel_rfl) (by rw [hl]; decide) h1
  obtain ⟨z2, e2⟩ := field_bool Try.underlying4 (by kernel_rfl) (by rw [hl]; decide) h2
  obtain ⟨z3, e3⟩ := field_bool Try.underlying4 (by kernel_rfl) (by rw [hl]; decide) h3
  obtain ⟨z4, e4, w4⟩ := field_string Try.underlying9 (by kernel_rfl) (by rw [hl]; decide) h4
  match cs, hl with
  | [c0, c1, c2, c3, c4], _ =>
    simp at e0 e1 e2 e3 e4
    exact ⟨⟨z0, z1, z2, z3, z4⟩, by rw [e0, e1, e2, e3, e4]; rfl, ⟨wf_i64 w0, wf_i64 w1⟩, w4⟩

theorem pcs_of {rows : List (List Value)} (h : ∀ cs ∈ rows, ∃ p : Pc, cs = p.row ∧ PcIn p) : ∃ ps : List Pc, rows = ps.map Pc.row ∧ ∀ p ∈ ps, PcIn p := by
  induction rows with
  | nil => exact ⟨[], rfl, by simp⟩
  | cons c cs ih =>
    obtain ⟨p, rfl, hp⟩ := h c (by simp)
    obtain ⟨ps, rfl, hps⟩ := ih (fun x hx => h x (by simp [hx]))
    refine ⟨p :: ps, rfl, ?_⟩
    intro q hq
    rcases List.mem_cons.1 hq with rfl | hq
    · exact hp
    · exact hps q hq

/-- A slice of pieces that came in. -/
theorem open_pcs {r : Reach} {b0 base : Nat} {spare : Nat → Bool} {held : Bool} {v : Value} {d : DataW H} {ms : List MemPlace} {w : World}
    (ho : Value.okWide Try.prog w r b0 179 v) (ht : DataW.Trod enc Try.prog w base spare held 179 v d ms) :
    ∃ a n cap, v = .slice a n cap ∧ n ≤ cap ∧ cap ≤ maxLen ∧ ∃ ps : List Pc, n = ps.length ∧ Ps w a ps ∧ ∀ p ∈ ps, PcIn p := by
  have hc : Try.prog.cellsOf 181 = 5 := by kernel_rfl
  obtain ⟨b, n, cb, rfl, hn, hm, rows, hrl, hrw, hrd⟩ := open_rows Try.underlying179 ho ht (by rw [hc]; decide)
  obtain ⟨qs, rfl, hqs⟩ := pcs_of fun cs h => read_pc (hrd cs h)
  rw [List.length_map] at hrl
  exact ⟨b, n, cb, rfl, hn, hm, qs, hrl.symm, hrw.sl, hqs⟩

/-- A piece that came in. -/
theorem open_pc {r : Reach} {b0 base : Nat} {spare : Nat → Bool} {held : Bool} {v : Value} {d : DataW H} {ms : List MemPlace} {w : World}
    (ho : Value.okWide Try.prog w r b0 181 v) (ht : DataW.Trod enc Try.prog w base spare held 181 v d ms) : ∃ p : Pc, v = p.val ∧ PcIn p := by
  unfold Value.okWide at ho
  rw [Try.underlying181] at ho
  obtain ⟨cs, rfl, _⟩ := ho
  obtain ⟨fuel, hf⟩ := ht
  obtain ⟨p, hp, hin⟩ := read_pc ⟨fuel, _, hf⟩
  refine ⟨p, ?_, hin⟩
  unfold Pc.val
  congr 1
  apply Array.ext'
  simpa [Value.cells] using hp
end

end Go.Proofs.Ytlhpibniecfofaa
end

section
/- Acts on roots in memory, and opened. -/
set_option linter.unusedSimpArgs false
set_option linter.unusedVariables false
namespace Go.Proofs.Ytlhpibniecfofaa
open Go.RowKit Go.Ofp Go.WideShapes
set_option linter.unusedVariables false
set_option maxRecDepth 100000

/-- An act. -/
structure Ra where
  kind : Int
  n : Int
  x : Rt
  a : Option Addr
  kc : Nat
  keep : List Int
  s : ByteArray
def raRow (x : Ra) : List Value := [.int .i64 x.kind, .int .i64 x.n, .int .i64 x.x.seq, .int .i64 x.x.life, .int .i64 x.x.head, .slice x.a x.keep.length x.kc, .string x.s]
/-- What an act keeps lies there. -/
structure RaMem (w : World) (x : Ra) : Prop where
  sl : Sl w x.a (x.keep.map vi)
  le : x.keep.length ≤ x.kc
  cm : x.kc ≤ maxLen
  keep : ∀ z ∈ x.keep, -9223372036854775808 ≤ z ∧ z ≤ 9223372036854775807
  n : -9223372036854775808 ≤ x.n ∧ x.n ≤ 9223372036854775807
  root : RtIn x.x
  text : x.s.size ≤ maxLen
/-- Acts lie there. -/
structure Ras (w : World) (a : Option Addr) (n c : Nat) (l : List Ra) : Prop where
  sl : Sl w a (l.map raRow).flatten
  len : l.length = n
  le : n ≤ c
  cm : c ≤ maxLen
  mem : ∀ x ∈ l, RaMem w x
theorem Ras.get {w : World} {a : Option Addr} {n c : Nat} {l : List Ra} (h : Ras w a n c l) (j : Nat) (hj : j < l.length) :
    ∃ b off, a = some ⟨b, off, none⟩ ∧ ∀ t v, (raRow l[j])[t]? = some v → w.cell? ⟨b, off + (j * 7 + t), none⟩ = some v := by
  have hr : Rw w a 7 (l.map raRow) := ⟨h.sl, fun r hr => by obtain ⟨p, _, rfl⟩ := List.mem_map.1 hr; rfl⟩
  obtain ⟨b, off, rfl, hc⟩ := hr.get j (by simpa using hj) (by decide)
  refine ⟨b, off, rfl, fun t v hv => hc t v ?_⟩
  rw [List.getElem_map]
  exact hv

section
variable {H : Type} {enc : TypeId × Value → H}
theorem read_ra {w : World} {cs : List Value} (h : ∃ fuel x, DataW.trod enc Try.prog w 0 (fun _ => true) true fuel 64 cs = some x) : ∃ x : Ra, cs = raRow x ∧ RaMem w x := by
  obtain ⟨fuel, x, h⟩ := h
  obtain ⟨hl, hf⟩ := field_read Try.underlying64 h
  have hc : Try.prog.cellsOf 64 = 7 := by kernel_rfl
  have hc1 : Try.prog.cellsOf 33 = 1 := by kernel_rfl
  have hc3 : Try.prog.cellsOf 49 = 3 := by kernel_rfl
  rw [hc] at hl
  obtain ⟨n0, y0, h0⟩ := hf 0 _ rfl
  obtain ⟨n1, y1, h1⟩ := hf 1 _ rfl
  obtain ⟨n2, y2, h2⟩ := hf 2 _ rfl
  obtain ⟨n3, y3, h3⟩ := hf 3 _ rfl
  obtain ⟨n4, y4, h4⟩ := hf 4 _ rfl
  obtain ⟨z0, e0, w0⟩ := field_int Try.underlying3 (by kernel_rfl) (by rw [hl]; decide) h0
  obtain ⟨z1, e1, w1⟩ := field_int Try.underlying3 (by kernel_rfl) (by rw [hl]; decide) h1
  have h2' : DataW.trod enc Try.prog w 0 (fun _ => true) true n2 49 ((cs.drop 2).take (Try.prog.cellsOf 49)) = some y2 := h2
  obtain ⟨p, hp, hin⟩ := read_rt ⟨_, _, h2'⟩
  rw [hc3] at hp
  have h3' : DataW.trod enc Try.prog w 0 (fun _ => true) true n3 33 ((cs.drop 5).take (Try.prog.cellsOf 33)) = some y3 := h3
  rw [hc1] at h3'
  obtain ⟨z4, e4, w4⟩ := field_string (o := 6) Try.underlying9 (by kernel_rfl) (by rw [hl]; decide) h4
  match cs, hl with
  | [c0, c1, c2, c3, c4, c5, c6], _ =>
    simp [Rt.row] at e0 e1 hp h3' e4
    obtain ⟨rfl, rfl, rfl⟩ := hp
    subst e0 e1 e4
    obtain ⟨d4, p4⟩ := y3
    rcases Go.ChangeShapes.open_ints Try.underlying33 Try.underlying3 (by kernel_rfl) h3' with ⟨hcs, _⟩ | ⟨x, l, c, zs, hcs, _, hl', hm, hz, _, hcell, hwz⟩
    · simp only [List.cons.injEq, and_true] at hcs
      subst hcs
      exact ⟨⟨z0, z1, p, none, 0, [], z4⟩, rfl, ⟨Sl.nil _ _, Nat.le_refl _, Nat.zero_le _, by simp, wf_i64 w1, hin, w4⟩⟩
    · simp only [List.cons.injEq, and_true] at hcs
      subst hcs
      obtain ⟨m, hml, hms, h5, h6, h7⟩ := row_ints (w := w) (a := some x) (len := l) (cap := c) (zs := zs) (.inr ⟨x, rfl, hl', hm, by simpa using hz, hcell, hwz⟩)
      subst hml
      exact ⟨⟨z0, z1, p, some x, c, m, z4⟩, rfl, ⟨hms, h5, h6, h7, wf_i64 w1, hin, w4⟩⟩
theorem ras_of {w : World} {rows : List (List Value)} (h : ∀ cs ∈ rows, ∃ x : Ra, cs = raRow x ∧ RaMem w x) : ∃ l : List Ra, rows = l.map raRow ∧ ∀ x ∈ l, RaMem w x := by
  induction rows with
  | nil => exact ⟨[], rfl, by simp⟩
  | cons c cs ih =>
    obtain ⟨p, rfl, hp⟩ := h c (by simp)
    obtain ⟨ps, rfl, hps⟩ := ih (fun x hx => h x (by simp [hx]))
    refine ⟨p :: ps, rfl, ?_⟩
    intro q hq
    rcases List.mem_cons.1 hq with rfl | hq
    · exact hp
    · exact hps q hq
theorem open_ras {r : Reach} {b0 : Nat} {v : Value} {d : DataW H} {ms : List MemPlace} {w : World}
    (ho : Value.okWide Try.prog w r b0 62 v) (ht : DataW.Trod enc Try.prog w 0 (fun _ => true) true 62 v d ms) :
    ∃ a n cap l, v = .slice a n cap ∧ Ras w a n cap l := by
  have hc : Try.prog.cellsOf 64 = 7 := by kernel_rfl
  obtain ⟨b, n, cb, rfl, hn, hm, rows, hrl, hrw, hrd⟩ := open_rows Try.underlying62 ho ht (by rw [hc]; decide)
  obtain ⟨qs, rfl, hqs⟩ := ras_of fun cs h => read_ra (hrd cs h)
  rw [List.length_map] at hrl
  exact ⟨b, n, cb, qs, rfl, ⟨hrw.sl, hrl, hn, hm, hqs⟩⟩
end
end Go.Proofs.Ytlhpibniecfofaa
end

section
/- Roots: what stays when the power goes in a Store: plain law. -/
set_option linter.unusedSimpArgs false
set_option linter.unusedVariables false
namespace Go.Ofp
namespace Dk
/-- What a sector has is no root, or one of less. -/
def Less (s : Sc) (x : Rt) : Prop := (rootOf s).2 = true → (rootOf s).1.seq < x.seq
/-- The root lies on the sector that is its, and the other has less. -/
def Holds (a b : Sc) (x : Rt) : Prop := x.ok = true ∧ ((x.seq % 2 = 0 ∧ a = ⟨x.secB, false⟩ ∧ Less b x) ∨ (x.seq % 2 = 1 ∧ b = ⟨x.secB, false⟩ ∧ Less a x))
theorem Holds.load {a b : Sc} {x : Rt} (h : Holds a b x) : (two a b).load = (x, 0) := by
  obtain ⟨hx, h⟩ := h
  have h1 := (x.ok_iff.1 hx).1
  have e : over1 (over1 Rt.none (rootOf a)) (rootOf b) = x := by
    rcases h with ⟨-, rfl, hl⟩ | ⟨-, rfl, hl⟩
    · rw [rootOf_sec x hx]
      have e1 : over1 Rt.none (x, true) = x := by
        rw [over1, if_pos]
        exact ⟨rfl, by simp [Rt.none]; omega⟩
      rw [e1, over1, if_neg]
      rintro ⟨k1, k2⟩
      have := hl k1
      omega
    · rw [rootOf_sec x hx]
      have e1 : (over1 Rt.none (rootOf a)).seq < x.seq := by
        unfold over1
        split
        · rename_i k; exact hl k.1
        · simp [Rt.none]; omega
      rw [over1, if_pos ⟨rfl, e1⟩]
  rw [two_load, e, if_neg (by omega)]
theorem Less.bad {s : Sc} {x : Rt} : Less { s with bad := true } x := by
  intro h
  rw [rootOf, if_pos rfl] at h
  cases h
theorem Less.mono {s : Sc} {x y : Rt} (h : Less s x) (hxy : x.seq ≤ y.seq) : Less s y := fun k => by have := h k; omega
theorem Less.sec {x y : Rt} (hx : x.ok = true) (hxy : x.seq < y.seq) : Less ⟨x.secB, false⟩ y := by
  intro _
  rw [rootOf_sec x hx]
  exact hxy
theorem fate_cases (keep : List Int) (i : Nat) : fate keep i = 0 ∨ fate keep i = 1 ∨ fate keep i = 2 := by
  unfold fate
  split
  · omega
  · omega
theorem fall_one (keep : List Int) (l : List Sc) (x : Wt) : fall keep 0 l [x] = fall1 keep l 0 x := rfl

/-- A Store with a fuse, and a crash behind it. -/
theorem falls (a b : Sc) (now next : Rt) (f : Int) (keep : List Int) (h : Holds a b now) (hn : next.ok = true) (hs : next.seq = now.seq + 1) (hf : 0 ≤ f ∧ f < 4) :
    ∃ a' b' now', (({ two a b with fuse := f } : Dk).store next).1.crash keep = two a' b' ∧ Holds a' b' now' ∧ (now' = now ∨ now' = next) ∧
      ((({ two a b with fuse := f } : Dk).store next).2 = 0 ∧ now' = next ∨ (({ two a b with fuse := f } : Dk).store next).2 = 15) := by
  obtain ⟨hx, h⟩ := h
  have hp : next.putB = next.secB := if_pos hn
  have hl := next.secB_length
  have hf4 : f = 0 ∨ f = 1 ∨ f = 2 ∨ f = 3 := by omega
  have hk := fate_cases keep 0
  rcases h with ⟨h0, ha, hb⟩ | ⟨h1, hb, ha⟩
  · have hs1 : next.seq % 2 = 1 := by omega
    have g0 : Holds a b now := ⟨hx, .inl ⟨h0, ha, hb⟩⟩
    have g1 : Holds a ⟨next.secB, false⟩ next := ⟨hn, .inr ⟨hs1, rfl, by rw [ha]; exact Less.sec hx (by omega)⟩⟩
    have g2 : Holds a { b with bad := true } now := ⟨hx, .inl ⟨h0, ha, Less.bad⟩⟩
    have est : ({ two a b with fuse := f } : Dk).store next = if f = 0 then (⟨[a, b], [⟨1, next.secB⟩], 0, true⟩, 15) else if f = 1 then (⟨[a, b], [⟨1, next.secB⟩], 0, true⟩, 15) else (⟨[a, ⟨next.secB, false⟩], [], f - 2, false⟩, 0) := by
      rw [store, if_neg (by simp [hn, two]), hs1, hp]
      rcases hf4 with rfl | rfl | rfl | rfl <;> simp [write, two, ready, step, hl, sync, done]
    rw [est]
    rcases hf4 with rfl | rfl | rfl | rfl
    · rcases hk with hk | hk | hk
      · exact ⟨a, b, now, by simp [crash, fall_one, fall1, hk, two], g0, .inl rfl, .inr (by simp)⟩
      · exact ⟨a, _, next, by simp [crash, fall_one, fall1, hk, two], g1, .inr rfl, .inr (by simp)⟩
      · exact ⟨a, _, now, by simp [crash, fall_one, fall1, hk, two], g2, .inl rfl, .inr (by simp)⟩
    · rcases hk with hk | hk | hk
      · exact ⟨a, b, now, by simp [crash, fall_one, fall1, hk, two], g0, .inl rfl, .inr (by simp)⟩
      · exact ⟨a, _, next, by simp [crash, fall_one, fall1, hk, two], g1, .inr rfl, .inr (by simp)⟩
      · exact ⟨a, _, now, by simp [crash, fall_one, fall1, hk, two], g2, .inl rfl, .inr (by simp)⟩
    · exact ⟨a, _, next, by simp [crash, fall, two], g1, .inr rfl, .inl (by simp)⟩
    · exact ⟨a, _, next, by simp [crash, fall, two], g1, .inr rfl, .inl (by simp)⟩
  · have hs1 : next.seq % 2 = 0 := by omega
    have g0 : Holds a b now := ⟨hx, .inr ⟨h1, hb, ha⟩⟩
    have g1 : Holds ⟨next.secB, false⟩ b next := ⟨hn, .inl ⟨hs1, rfl, by rw [hb]; exact Less.sec hx (by omega)⟩⟩
    have g2 : Holds { a with bad := true } b now := ⟨hx, .inr ⟨h1, hb, Less.bad⟩⟩
    have est : ({ two a b with fuse := f } : Dk).store next = if f = 0 then (⟨[a, b], [⟨0, next.secB⟩], 0, true⟩, 15) else if f = 1 then (⟨[a, b], [⟨0, next.secB⟩], 0, true⟩, 15) else (⟨[⟨next.secB, false⟩, b], [], f - 2, false⟩, 0) := by
      rw [store, if_neg (by simp [hn, two]), hs1, hp]
      rcases hf4 with rfl | rfl | rfl | rfl <;> simp [write, two, ready, step, hl, sync, done]
    rw [est]
    rcases hf4 with rfl | rfl | rfl | rfl
    · rcases hk with hk | hk | hk
      · exact ⟨a, b, now, by simp [crash, fall_one, fall1, hk, two], g0, .inl rfl, .inr (by simp)⟩
      · exact ⟨_, b, next, by simp [crash, fall_one, fall1, hk, two], g1, .inr rfl, .inr (by simp)⟩
      · exact ⟨_, b, now, by simp [crash, fall_one, fall1, hk, two], g2, .inl rfl, .inr (by simp)⟩
    · rcases hk with hk | hk | hk
      · exact ⟨a, b, now, by simp [crash, fall_one, fall1, hk, two], g0, .inl rfl, .inr (by simp)⟩
      · exact ⟨_, b, next, by simp [crash, fall_one, fall1, hk, two], g1, .inr rfl, .inr (by simp)⟩
      · exact ⟨_, b, now, by simp [crash, fall_one, fall1, hk, two], g2, .inl rfl, .inr (by simp)⟩
    · exact ⟨_, b, next, by simp [crash, fall, two], g1, .inr rfl, .inl (by simp)⟩
    · exact ⟨_, b, next, by simp [crash, fall, two], g1, .inr rfl, .inl (by simp)⟩
end Dk
end Go.Ofp
end

section
/- A region that draws its order ends in one form: its tail is walked once. -/
set_option linter.unusedSimpArgs false
set_option linter.unusedVariables false
namespace Go.Ofp
open Go.RowKit
/-- Behind a region nothing but its common end. -/
@[reducible] def CutQ (S : Act → World → Prop) : Exit → Act → World → Prop
  | .normal, a, w => S a w
  | _, _, _ => False
section
variable {P : Program} {c : Code} {Q : Exit → Act → World → Prop} {a : Act} {w w0 : World} {F : List Nat}
theorem wp_cutQ {S : Act → World → Prop} (h : c.wp P (CutQ S) a w) (k : ∀ a w, S a w → Q .normal a w) : c.wp P Q a w := by
  refine Code.wp_mono (fun e a w q => ?_) h
  cases e with
  | normal => exact k a w q
  | _ => exact q.elim
/-- No new block. -/
theorem wp_cut0 {L0 : List Ch} {T : Act} {L : List Ch} (h : St w0 F L0 w → c.wp P (CutQ fun a w => a = T ∧ St w0 F L w) a w) (k : ∀ w, St w0 F L w → Q .normal T w) : St w0 F L0 w → c.wp P Q a w := fun h0 =>
  wp_cutQ (h h0) fun _ w h => h.1 ▸ k w h.2
/-- One new block. -/
theorem wp_cut1 {L0 : List Ch} {T : Nat → Act} {L : Nat → List Ch} (h : St w0 F L0 w → c.wp P (CutQ fun a w => ∃ g, a = T g ∧ St w0 F (L g) w) a w) (k : ∀ g w, St w0 F (L g) w → Q .normal (T g) w) : St w0 F L0 w → c.wp P Q a w := fun h0 =>
  wp_cutQ (h h0) fun _ w ⟨g, h, hS⟩ => h ▸ k g w hS
/-- Two new blocks. -/
theorem wp_cut2 {L0 : List Ch} {T : Nat → Nat → Act} {L : Nat → Nat → List Ch} (h : St w0 F L0 w → c.wp P (CutQ fun a w => ∃ g1 g2, a = T g1 g2 ∧ St w0 F (L g1 g2) w) a w) (k : ∀ g1 g2 w, St w0 F (L g1 g2) w → Q .normal (T g1 g2) w) : St w0 F L0 w → c.wp P Q a w := fun h0 =>
  wp_cutQ (h h0) fun _ w ⟨g1, g2, h, hS⟩ => h ▸ k g1 g2 w hS
/-- Three new blocks. -/
theorem wp_cut3 {L0 : List Ch} {T : Nat → Nat → Nat → Act} {L : Nat → Nat → Nat → List Ch} (h : St w0 F L0 w → c.wp P (CutQ fun a w => ∃ g1 g2 g3, a = T g1 g2 g3 ∧ St w0 F (L g1 g2 g3) w) a w) (k : ∀ g1 g2 g3 w, St w0 F (L g1 g2 g3) w → Q .normal (T g1 g2 g3) w) : St w0 F L0 w → c.wp P Q a w := fun h0 =>
  wp_cutQ (h h0) fun _ w ⟨g1, g2, g3, h, hS⟩ => h ▸ k g1 g2 g3 w hS
/-- One new value. -/
theorem wp_cutv {L0 : List Ch} {T : Value → Act} {L : Value → List Ch} (h : St w0 F L0 w → c.wp P (CutQ fun a w => ∃ g, a = T g ∧ St w0 F (L g) w) a w) (k : ∀ g w, St w0 F (L g) w → Q .normal (T g) w) : St w0 F L0 w → c.wp P Q a w := fun h0 =>
  wp_cutQ (h h0) fun _ w ⟨g, h, hS⟩ => h ▸ k g w hS
/-- Two new values, three. -/
theorem wp_cutv2 {T : Value → Value → Act} {L0 : List Ch} {L : Value → Value → List Ch} (h : St w0 F L0 w → c.wp P (CutQ fun a w => ∃ u v, a = T u v ∧ St w0 F (L u v) w) a w) (k : ∀ u v w, St w0 F (L u v) w → Q .normal (T u v) w) : St w0 F L0 w → c.wp P Q a w := fun h0 =>
  wp_cutQ (h h0) fun _ w ⟨u, v, h, hS⟩ => h ▸ k u v w hS
theorem wp_cutv3 {T : Value → Value → Value → Act} {L0 : List Ch} {L : Value → Value → Value → List Ch} (h : St w0 F L0 w → c.wp P (CutQ fun a w => ∃ u v x, a = T u v x ∧ St w0 F (L u v x) w) a w) (k : ∀ u v x w, St w0 F (L u v x) w → Q .normal (T u v x) w) : St w0 F L0 w → c.wp P Q a w := fun h0 =>
  wp_cutQ (h h0) fun _ w ⟨u, v, x, h, hS⟩ => h ▸ k u v x w hS
end
end Go.Ofp
end
