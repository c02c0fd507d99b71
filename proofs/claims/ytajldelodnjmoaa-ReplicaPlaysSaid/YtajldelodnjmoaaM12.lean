/- Texts laid together: CardSame TransRow KeysLay Keys Trans3. -/
import Derived.Shelf.SlIterI.Nil
import Derived.Shelf.SortM.Plain
import Derived.Shelf.SortM.SortNone
import Derived.Test.YtajldelodnjmoaaProg
import Derived.Test.YtajldelodnjmoaaM11
import Derived.Test.YtajldelodnjmoaaM3
import Derived.Test.YtajldelodnjmoaaM4
import Derived.Test.YtajldelodnjmoaaM5
import Derived.Test.YtajldelodnjmoaaM6
section
/- Lists of cards that are the same. -/
set_option linter.unusedSimpArgs false
set_option linter.unusedVariables false
namespace Go.Ofp
open Go.RowKit
theorem sl_range {w : World} {g off j n : Nat} {l vs : List Value} (h : Sl w (some ⟨g, off, none⟩) l) (hv : (l.drop j).take n = vs) : w.rangeAt g (off + j) vs := by
  intro k v hk
  rw [← hv, List.getElem?_take] at hk
  split at hk
  · rw [List.getElem?_drop] at hk
    have := h.add (j + k) v hk
    rwa [Addr.add_lit, ← Nat.add_assoc] at this
  · cases hk
theorem sl_range0 {w : World} {g j n : Nat} {l vs : List Value} (h : Sl w (some ⟨g, 0, none⟩) l) (hv : (l.drop j).take n = vs) : w.rangeAt g j vs := by
  have := sl_range h hv
  rwa [Nat.zero_add] at this
/-- A struct or an array out of old memory. -/
theorem wpList_rangerow {P : Program} {w : World} {ops : Array Oper} {rest : List Oper} {o : Oper} {a : Act} {Q : Exit → Act → World → Prop} {g j n : Nat} {vs : List Value} (hc : w.rangeAt g j vs) (hgd : o.guard = none) {t : TypeId} {x : Operand} (ho : o.op = .load t x) (hx : a.eval x = .pointer (some ⟨g, j, none⟩))
    (hu : rowB P t = true) (hsz : sizeB P t n = true) (hl : vs.length = n) (h : wpList P ops Q rest (a.put o.dst (.agg vs.toArray)) w) : wpList P ops Q (o :: rest) a w := by
  refine wpList_plain hgd fun K hK => ?_
  have hr := run_loadrow (P := P) hu hsz hl hc
  unfold Oper.wp execOp
  simp only [ho, hx, Sem.run_bind, hr, Result.andThen_ok, Sem.run_pure]
  exact hK _ _ h
end Go.Ofp
namespace Go.Proofs.Ytajldelodnjmoaa
open Go.RowKit Go.Ofp
set_option linter.unusedVariables false
set_option maxRecDepth 100000
set_option maxHeartbeats 4000000

theorem vlRow_one (v : Vl) : (vlRow v).all Value.oneCell' = true := rfl
theorem flRow_one (f : List Vl) : (flRow f).all Value.oneCell' = true := by
  rw [List.all_eq_true]
  intro u hu
  obtain ⟨v, -, hv⟩ := List.mem_flatMap.1 hu
  exact List.all_eq_true.1 (vlRow_one v) u hv
theorem cdRow_one (c : Cd) : (cdRow c).all Value.oneCell' = true := by
  simp only [cdRow, List.all_cons]
  rw [flRow_one]
  rfl
end Go.Proofs.Ytajldelodnjmoaa
end

section
/- Rows of slices that came in; maps of turns. -/
set_option linter.unusedSimpArgs false
set_option linter.unusedVariables false
namespace Go.Ofp
open Go.RowKit
theorem Lst.base {α : Type} {row : α → List Value} {In : α → Prop} {w : World} {a : Option Addr} {n c : Nat} {l : List α} (h : Lst row In w a n c l) {k : Nat} (hk : 0 < k) (hr : ∀ x ∈ l, (row x).length = k) (hl : 0 < n) : ∃ b off, a = some ⟨b, off, none⟩ := by
  refine h.sl.cells fun e => ?_
  have h1 := flat_len2 k (l.map row) (by simpa using hr)
  rw [e, List.length_map, h.len] at h1
  have := Nat.mul_pos hl hk
  simp at h1
  omega
theorem Lst.rowb {α : Type} {row : α → List Value} {In : α → Prop} {w : World} {b off n c : Nat} {l : List α} (h : Lst row In w (some ⟨b, off, none⟩) n c l) {k : Nat} (hr : ∀ x ∈ l, (row x).length = k) (i : Nat) (hi : i < l.length) : w.rangeAt b (off + i * k) (row l[i]) := by
  refine sl_range h.sl (n := k) ?_
  have := flat_elem k (l.map row) (by simpa using hr) i (by simpa using hi)
  simpa using this
theorem Lst.below {α : Type} {row : α → List Value} {In : α → Prop} {w w' : World} {a : Option Addr} {n c : Nat} {l : List α} (h : Lst row In w a n c l) (hb : Below w.heap.size w w') : Lst row In w' a n c l := ⟨h.sl.below hb, h.len, h.le, h.cm, h.mem⟩
theorem range_old {w0 w : World} {L : List Ch} (hS : St w0 [] L w) {g j : Nat} {vs : List Value} (h : w0.rangeAt g j vs) : w.rangeAt g j vs := fun i v hv => hS.old (h i v hv) (by simp)
theorem St.kold_row {P : Program} {w0 w : World} {L : List Ch} (_ : St w0 [] L w) {b j n : Nat} {vs : List Value} {t : TypeId} (h : w0.rangeAt b j vs) (hu : rowB P t = true) (hsz : sizeB P t n = true) (hl : vs.length = n) :
    ∀ s : Cl w0 [] L, (Instr.loadAt t (.pointer (some ⟨b, j, none⟩))).run P s.1 = .ok (.agg vs.toArray) s.1 := fun s => run_loadrow hu hsz hl (range_old s.2 h)
end Go.Ofp
end

section
/- The library's contracts of maps.Keys at whole numbers and slices.Sorted, laid at this seat (written by laykeys.py; numbers hold for one seat alone: run it anew in another). -/
set_option linter.unusedSimpArgs false
set_option linter.unusedVariables false
namespace Go.Proofs
open Go.Shelf
def Try.keys62_ren : Go.Shelf.Ren := ⟨fun | 7 => 62 | 10 => 74 | n => n, fun | 23 => 95 | 26 => 3 | 3 => 41 | 28 => 91 | 0 => 0 | 27 => 90 | 33 => 104 | 4 => 4 | n => n, fun | n => n⟩
theorem Try.keys62 : Go.Proofs.SlLaysZI.n7 Try.prog Try.keys62_ren := {
  mixed := by kernel_rfl
  f7 := ⟨Try.f62.name, by decide, Try.func62.trans (congrArg some (by kernel_rfl))⟩
  f10 := ⟨Try.f74.name, by decide, Try.func74.trans (congrArg some (by kernel_rfl))⟩
  t0 := Try.underlying0
  a0 := Try.isAgg0
  z0 := Try.sizeOf0
  v0 := Try.zeroValue0
  t4 := Try.underlying4
  a4 := Try.isAgg4
  z4 := Try.sizeOf4
  v4 := Try.zeroValue4
  t23 := Try.underlying95
  a23 := Try.isAgg95
  z23 := Try.sizeOf95
  v23 := Try.zeroValue95
  t26 := Try.underlying3
  a26 := Try.isAgg3
  z26 := Try.sizeOf3
  v26 := Try.zeroValue3
  t27 := Try.underlying90
  a27 := Try.isAgg90
  z27 := Try.sizeOf90
  v27 := Try.zeroValue90
  t28 := Try.underlying91
  a28 := Try.isAgg91
  z28 := Try.sizeOf91
  v28 := Try.zeroValue91
  t33 := Try.underlying104
  a33 := Try.isAgg104
  z33 := Try.sizeOf104
  v33 := Try.zeroValue104 }
def Try.sorted57_ren : Go.Shelf.Ren := ⟨fun | 6 => 57 | 8 => 70 | 9 => 71 | 11 => 82 | 13 => 84 | 12 => 83 | 23 => 95 | 24 => 96 | 14 => 86 | 15 => 87 | 16 => 88 | 17 => 89 | 18 => 90 | 19 => 91 | 20 => 92 | 21 => 93 | 22 => 94 | 25 => 97 | 26 => 98 | 27 => 99 | 28 => 100 | 29 => 101 | 30 => 102 | 31 => 103 | n => n, fun | 26 => 3 | 28 => 91 | 24 => 88 | 0 => 0 | 3 => 3 | 37 => 106 | 48 => 36 | 50 => 126 | 4 => 4 | 40 => 119 | 39 => 118 | 45 => 82 | 5 => 5 | 9 => 9 | 51 => 127 | 55 => 131 | 57 => 133 | 58 => 134 | 33 => 104 | n => n, fun | n => n⟩
theorem Try.sorted57 : Go.Proofs.SlLaysZI.n6 Try.prog Try.sorted57_ren := {
  mixed := by kernel_rfl
  f6 := ⟨Try.f57.name, by decide, Try.func57.trans (congrArg some (by kernel_rfl))⟩
  f8 := ⟨Try.f70.name, by decide, Try.func70.trans (congrArg some (by kernel_rfl))⟩
  f11 := ⟨Try.f82.name, by decide, Try.func82.trans (congrArg some (by kernel_rfl))⟩
  t0 := Try.underlying0
  a0 := Try.isAgg0
  z0 := Try.sizeOf0
  v0 := Try.zeroValue0
  t24 := Try.underlying88
  a24 := Try.isAgg88
  z24 := Try.sizeOf88
  v24 := Try.zeroValue88
  t26 := Try.underlying3
  a26 := Try.isAgg3
  z26 := Try.sizeOf3
  v26 := Try.zeroValue3
  t28 := Try.underlying91
  a28 := Try.isAgg91
  z28 := Try.sizeOf91
  v28 := Try.zeroValue91
  i26 := by kernel_rfl }
def Try.sort71_ren : Go.Shelf.Ren := ⟨fun | 5 => 71 | 8 => 84 | 7 => 83 | 19 => 95 | 20 => 96 | 10 => 86 | 11 => 87 | 12 => 88 | 13 => 89 | 14 => 90 | 15 => 91 | 16 => 92 | 17 => 93 | 18 => 94 | 30 => 97 | 31 => 98 | 32 => 99 | 33 => 100 | 34 => 101 | 35 => 102 | 40 => 103 | n => n, fun | 23 => 88 | 25 => 3 | 3 => 3 | 32 => 106 | 22 => 88 | 0 => 0 | 44 => 36 | 46 => 126 | 4 => 4 | 36 => 119 | 35 => 118 | 41 => 82 | 5 => 5 | 9 => 9 | 53 => 127 | 57 => 131 | 63 => 133 | 64 => 134 | n => n, fun | n => n⟩
theorem Try.sort71 : Go.Proofs.SlLaysM.n5 Try.prog Try.sort71_ren := {
  mixed := by kernel_rfl
  f5 := ⟨Try.f71.name, by decide, Try.func71.trans (congrArg some (by kernel_rfl))⟩
  f7 := ⟨Try.f83.name, by decide, Try.func83.trans (congrArg some (by kernel_rfl))⟩
  f8 := Try.func84.trans (congrArg some (by kernel_rfl))
  f10 := ⟨Try.f86.name, by decide, Try.func86.trans (congrArg some (by kernel_rfl))⟩
  f11 := ⟨Try.f87.name, by decide, Try.func87.trans (congrArg some (by kernel_rfl))⟩
  f12 := ⟨Try.f88.name, by decide, Try.func88.trans (congrArg some (by kernel_rfl))⟩
  f13 := ⟨Try.f89.name, by decide, Try.func89.trans (congrArg some (by kernel_rfl))⟩
  f14 := ⟨Try.f90.name, by decide, Try.func90.trans (congrArg some (by kernel_rfl))⟩
  f15 := ⟨Try.f91.name, by decide, Try.func91.trans (congrArg some (by kernel_rfl))⟩
  f16 := ⟨Try.f92.name, by decide, Try.func92.trans (congrArg some (by kernel_rfl))⟩
  f17 := ⟨Try.f93.name, by decide, Try.func93.trans (congrArg some (by kernel_rfl))⟩
  f18 := ⟨Try.f94.name, by decide, Try.func94.trans (congrArg some (by kernel_rfl))⟩
  f19 := Try.func95.trans (congrArg some (by kernel_rfl))
  f20 := Try.func96.trans (congrArg some (by kernel_rfl))
  f30 := ⟨Try.f97.name, by decide, Try.func97.trans (congrArg some (by kernel_rfl))⟩
  f31 := Try.func98.trans (congrArg some (by kernel_rfl))
  f32 := Try.func99.trans (congrArg some (by kernel_rfl))
  f33 := ⟨Try.f100.name, by decide, Try.func100.trans (congrArg some (by kernel_rfl))⟩
  f34 := ⟨Try.f101.name, by decide, Try.func101.trans (congrArg some (by kernel_rfl))⟩
  f35 := ⟨Try.f102.name, by decide, Try.func102.trans (congrArg some (by kernel_rfl))⟩
  f40 := ⟨Try.f103.name, by decide, Try.func103.trans (congrArg some (by kernel_rfl))⟩
  t0 := Try.underlying0
  a0 := Try.isAgg0
  z0 := Try.sizeOf0
  v0 := Try.zeroValue0
  t3 := Try.underlying3
  a3 := Try.isAgg3
  z3 := Try.sizeOf3
  v3 := Try.zeroValue3
  t4 := Try.underlying4
  a4 := Try.isAgg4
  z4 := Try.sizeOf4
  v4 := Try.zeroValue4
  t5 := Try.underlying5
  a5 := Try.isAgg5
  z5 := Try.sizeOf5
  v5 := Try.zeroValue5
  t9 := Try.underlying9
  a9 := Try.isAgg9
  z9 := Try.sizeOf9
  v9 := Try.zeroValue9
  t22 := Try.underlying88
  a22 := Try.isAgg88
  z22 := Try.sizeOf88
  v22 := Try.zeroValue88
  t23 := Try.underlying88
  a23 := Try.isAgg88
  z23 := Try.sizeOf88
  v23 := Try.zeroValue88
  t25 := Try.underlying3
  a25 := Try.isAgg3
  z25 := Try.sizeOf3
  v25 := Try.zeroValue3
  t32 := Try.underlying106
  a32 := Try.isAgg106
  z32 := Try.sizeOf106
  v32 := Try.zeroValue106
  t35 := Try.underlying118
  a35 := Try.isAgg118
  z35 := Try.sizeOf118
  v35 := Try.zeroValue118
  t36 := Try.underlying119
  a36 := Try.isAgg119
  z36 := Try.sizeOf119
  v36 := Try.zeroValue119
  t41 := Try.underlying82
  a41 := Try.isAgg82
  z41 := Try.sizeOf82
  v41 := Try.zeroValue82
  t44 := Try.underlying36
  a44 := Try.isAgg36
  z44 := Try.sizeOf36
  v44 := Try.zeroValue36
  t46 := Try.underlying126
  a46 := Try.isAgg126
  z46 := Try.sizeOf126
  v46 := Try.zeroValue126
  t53 := Try.underlying127
  a53 := Try.isAgg127
  z53 := Try.sizeOf127
  v53 := Try.zeroValue127
  t57 := Try.underlying131
  a57 := Try.isAgg131
  z57 := Try.sizeOf131
  v57 := Try.zeroValue131
  t63 := Try.underlying133
  a63 := Try.isAgg133
  z63 := Try.sizeOf133
  v63 := Try.zeroValue133
  t64 := Try.underlying134
  a64 := Try.isAgg134
  z64 := Try.sizeOf134
  v64 := Try.zeroValue134 }
end Go.Proofs
end

section
/- slices.Sorted(maps.Keys(m)) at a map of the call's own, keyed by whole numbers. -/
set_option linter.unusedSimpArgs false
set_option linter.unusedVariables false
namespace Go.Proofs.Ytajldelodnjmoaa
open Go.RowKit Go.Ofp Go.Maps Go.Sort Go.Shelf Go.Proofs
set_option linter.unusedVariables false
set_option maxHeartbeats 2000000

theorem sortsA (m : Nat) : AnyZI.SortsIn Try.prog Try.sorted57_ren Fence.wide m :=
  ⟨fun blk off cap ss W hH hblk hsz => callsIn_wide.2 (AnyM.slices_Sort_int Try.sort71 blk off cap ss W hH hblk hsz),
   fun p cap W => callsIn_wide.2 (AnyM.slices_Sort_int_none Try.sort71 p cap W)⟩

theorem ckeys_any (mb : Option Nat) (W : World) : Calls Try.prog 62 #[.map mb] W fun e w' => e = .returned (.func (.func 74) #[] #[.pointer (some ⟨W.heap.size, 0, none⟩)]) ∧ w' = W.alloc (.cells #[.map mb] 95) :=
  callsIn_wide.1 (AnyZI.keys_in Try.keys62 Fence.wide 5 trivial rfl mb W)

theorem csorted_any (B b n : Nat) (f : Int → Option Value) (W : World) (hm : W.cell? ⟨B, 0, none⟩ = some (.map (some b))) (h : IMap Try.prog 3 W b n f) (hn : n ≤ 100000) :
    Calls Try.prog 57 #[.func (.func 74) #[] #[.pointer (some ⟨B, 0, none⟩)]] W fun e w' => ∃ v ks, e = .returned v ∧ IsKeys f ks ∧ ks.length ≤ n ∧ w'.ownsRow W.heap.size 3 1 v ks.length (ks.map (Value.int .i64)) ∧ Below W.heap.size W w' := by
  obtain ⟨D, hown, hsz, hkeys⟩ := h.keys Try.underlying3
  have hseq : SeqGives Fence.wide 2 Try.prog 74 #[.pointer (some ⟨B, 0, none⟩)] encZ (fun ss => ss.Perm (intKeys D)) (Maps.size D) W :=
    AnyZI.keys_gives (ρ := Try.keys62_ren) { Try.keys62 with } Fence.wide _ trivial rfl (by omega) B b n D W (World.block_lt_of_cell? W _ hm) hm hown
  have cS := AnyZI.sorted_in Try.sorted57 Fence.wide 5 trivial trivial trivial trivial rfl (by omega) (sortsA _) (enters_of Try.func71 (by kernel_rfl) rfl) 74 #[.pointer (some ⟨B, 0, none⟩)] trivial (enters_of Try.func74 (by kernel_rfl) rfl) _ _ (by unfold maxLen; omega) (by omega) _ hseq
  refine (callsIn_wide.1 cS).mono ?_
  rintro e w' ⟨v, ss, rfl, hp, hrow, -, hb⟩
  obtain ⟨h1, h2⟩ := hkeys ss hp
  have hl : (ss.mergeSort fun x y => decide (x ≤ y)).length = ss.length := List.length_mergeSort ss
  exact ⟨v, _, rfl, h1, by rw [hl]; exact h2, by rw [hl]; exact hrow, hb⟩
end Go.Proofs.Ytajldelodnjmoaa
end

section
/- Do turns go on: the program's. -/
set_option linter.unusedSimpArgs false
set_option linter.unusedVariables false
namespace Go.Proofs.Ytajldelodnjmoaa
open Go.RowKit Go.Ofp
set_option linter.unusedVariables false
set_option maxRecDepth 100000
set_option maxHeartbeats 4000000

end Go.Proofs.Ytajldelodnjmoaa
end
