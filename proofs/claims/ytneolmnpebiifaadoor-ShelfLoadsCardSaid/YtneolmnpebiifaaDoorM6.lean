/- Texts laid together: TransRow KeysLay Keys Trans3 Trans5 Trans6 CardLaw1 Trans7 Trans4 TransItem TransOnce TransEq TransOf TransFst TransRNet TransSame TransNets TransAp Shelf1 Shelf2. -/
import Derived.Shelf.SlIterI.Nil
import Derived.Shelf.SortM.Plain
import Derived.Shelf.SortM.SortNone
import Derived.Test.YtneolmnpebiifaaDoorProg
import Derived.Test.YtneolmnpebiifaaDoorM2
import Derived.Test.YtneolmnpebiifaaDoorM3
import Derived.Test.YtneolmnpebiifaaDoorM4
import Derived.Test.YtneolmnpebiifaaDoorM5
section
/- Rows of slices that came in; maps of turns. -/
set_option linter.unusedSimpArgs false
set_option linter.unusedVariables false
namespace Go.Ofp
open Go.RowKit
theorem Lst.base {α : Type} {row : α → List Value} {In : α → Prop} {w : World} {a : Option Addr} {n c : Nat} {l : List α} (h : Lst row In w a n c l) {k : Nat} (hk : 0 < k) (hr : ∀ x ∈ l, (row x).length = k) (hl : 0 < n) : ∃ b off, a = some ⟨b, off, none⟩ := by
  refine h.sl.cells fun e => ?_
  have h1 := flat_len2 k (l.map row) (by simpa using hr)
  rw [e, List.length_map, h.len] at h1
  have := Nat.mul_pos hl hk
  simp at h1
  omega
theorem Lst.rowb {α : Type} {row : α → List Value} {In : α → Prop} {w : World} {b off n c : Nat} {l : List α} (h : Lst row In w (some ⟨b, off, none⟩) n c l) {k : Nat} (hr : ∀ x ∈ l, (row x).length = k) (i : Nat) (hi : i < l.length) : w.rangeAt b (off + i * k) (row l[i]) := by
  refine sl_range h.sl (n := k) ?_
  have := flat_elem k (l.map row) (by simpa using hr) i (by simpa using hi)
  simpa using this
theorem Lst.below {α : Type} {row : α → List Value} {In : α → Prop} {w w' : World} {a : Option Addr} {n c : Nat} {l : List α} (h : Lst row In w a n c l) (hb : Below w.heap.size w w') : Lst row In w' a n c l := ⟨h.sl.below hb, h.len, h.le, h.cm, h.mem⟩
theorem range_old {w0 w : World} {L : List Ch} (hS : St w0 [] L w) {g j : Nat} {vs : List Value} (h : w0.rangeAt g j vs) : w.rangeAt g j vs := fun i v hv => hS.old (h i v hv) (by simp)
theorem St.kold_row {P : Program} {w0 w : World} {L : List Ch} (_ : St w0 [] L w) {b j n : Nat} {vs : List Value} {t : TypeId} (h : w0.rangeAt b j vs) (hu : rowB P t = true) (hsz : sizeB P t n = true) (hl : vs.length = n) :
    ∀ s : Cl w0 [] L, (Instr.loadAt t (.pointer (some ⟨b, j, none⟩))).run P s.1 = .ok (.agg vs.toArray) s.1 := fun s => run_loadrow hu hsz hl (range_old s.2 h)
end Go.Ofp
end

section
/- The library's contracts of maps.Keys at whole numbers and slices.Sorted, laid at this seat (written by laykeys.py; numbers hold for one seat alone: run it anew in another). -/
set_option linter.unusedSimpArgs false
set_option linter.unusedVariables false
namespace Go.Proofs
open Go.Shelf
def Tryd.keys23_ren : Go.Shelf.Ren := ⟨fun | 7 => 23 | 10 => 46 | n => n, fun | 23 => 61 | 26 => 3 | 3 => 38 | 28 => 67 | 0 => 0 | 27 => 66 | 33 => 85 | 4 => 4 | n => n, fun | n => n⟩
theorem Tryd.keys23 : Go.Proofs.SlLaysZI.n7 Tryd.prog Tryd.keys23_ren := {
  mixed := by kernel_rfl
  f7 := ⟨Tryd.f23.name, by decide, Tryd.func23.trans (congrArg some (by kernel_rfl))⟩
  f10 := ⟨Tryd.f46.name, by decide, Tryd.func46.trans (congrArg some (by kernel_rfl))⟩
  t0 := Tryd.underlying0
  a0 := Tryd.isAgg0
  z0 := Tryd.sizeOf0
  v0 := Tryd.zeroValue0
  t4 := Tryd.underlying4
  a4 := Tryd.isAgg4
  z4 := Tryd.sizeOf4
  v4 := Tryd.zeroValue4
  t23 := Tryd.underlying61
  a23 := Tryd.isAgg61
  z23 := Tryd.sizeOf61
  v23 := Tryd.zeroValue61
  t26 := Tryd.underlying3
  a26 := Tryd.isAgg3
  z26 := Tryd.sizeOf3
  v26 := Tryd.zeroValue3
  t27 := Tryd.underlying66
  a27 := Tryd.isAgg66
  z27 := Tryd.sizeOf66
  v27 := Tryd.zeroValue66
  t28 := Tryd.underlying67
  a28 := Tryd.isAgg67
  z28 := Tryd.sizeOf67
  v28 := Tryd.zeroValue67
  t33 := Tryd.underlying85
  a33 := Tryd.isAgg85
  z33 := Tryd.sizeOf85
  v33 := Tryd.zeroValue85 }
def Tryd.sorted22_ren : Go.Shelf.Ren := ⟨fun | 6 => 22 | 8 => 44 | 9 => 45 | 11 => 57 | 13 => 59 | 12 => 58 | 23 => 73 | 24 => 74 | 14 => 64 | 15 => 65 | 16 => 66 | 17 => 67 | 18 => 68 | 19 => 69 | 20 => 70 | 21 => 71 | 22 => 72 | 25 => 77 | 26 => 78 | 27 => 79 | 28 => 80 | 29 => 81 | 30 => 82 | 31 => 83 | n => n, fun | 26 => 3 | 28 => 67 | 24 => 64 | 0 => 0 | 3 => 3 | 37 => 86 | 48 => 25 | 50 => 109 | 4 => 4 | 40 => 100 | 39 => 99 | 45 => 105 | 5 => 5 | 9 => 9 | 51 => 110 | 55 => 114 | 57 => 117 | 58 => 118 | 33 => 85 | n => n, fun | n => n⟩
theorem Tryd.sorted22 : Go.Proofs.SlLaysZI.n6 Tryd.prog Tryd.sorted22_ren := {
  mixed := by kernel_rfl
  f6 := ⟨Tryd.f22.name, by decide, Tryd.func22.trans (congrArg some (by kernel_rfl))⟩
  f8 := ⟨Tryd.f44.name, by decide, Tryd.func44.trans (congrArg some (by kernel_rfl))⟩
  f11 := ⟨Tryd.f57.name, by decide, Tryd.func57.trans (congrArg some (by kernel_rfl))⟩
  t0 := Tryd.underlying0
  a0 := Tryd.isAgg0
  z0 := Tryd.sizeOf0
  v0 := Tryd.zeroValue0
  t24 := Tryd.underlying64
  a24 := Tryd.isAgg64
  z24 := Tryd.sizeOf64
  v24 := Tryd.zeroValue64
  t26 := Tryd.underlying3
  a26 := Tryd.isAgg3
  z26 := Tryd.sizeOf3
  v26 := Tryd.zeroValue3
  t28 := Tryd.underlying67
  a28 := Tryd.isAgg67
  z28 := Tryd.sizeOf67
  v28 := Tryd.zeroValue67
  i26 := by kernel_rfl }
def Tryd.sort45_ren : Go.Shelf.Ren := ⟨fun | 5 => 45 | 8 => 59 | 7 => 58 | 19 => 73 | 20 => 74 | 10 => 64 | 11 => 65 | 12 => 66 | 13 => 67 | 14 => 68 | 15 => 69 | 16 => 70 | 17 => 71 | 18 => 72 | 30 => 77 | 31 => 78 | 32 => 79 | 33 => 80 | 34 => 81 | 35 => 82 | 40 => 83 | n => n, fun | 23 => 64 | 25 => 3 | 3 => 3 | 32 => 86 | 22 => 64 | 0 => 0 | 44 => 25 | 46 => 109 | 4 => 4 | 36 => 100 | 35 => 99 | 41 => 105 | 5 => 5 | 9 => 9 | 53 => 110 | 57 => 114 | 63 => 117 | 64 => 118 | n => n, fun | n => n⟩
theorem Tryd.sort45 : Go.Proofs.SlLaysM.n5 Tryd.prog Tryd.sort45_ren := {
  mixed := by kernel_rfl
  f5 := ⟨Tryd.f45.name, by decide, Tryd.func45.trans (congrArg some (by kernel_rfl))⟩
  f7 := ⟨Tryd.f58.name, by decide, Tryd.func58.trans (congrArg some (by kernel_rfl))⟩
  f8 := Tryd.func59.trans (congrArg some (by kernel_rfl))
  f10 := ⟨Tryd.f64.name, by decide, Tryd.func64.trans (congrArg some (by kernel_rfl))⟩
  f11 := ⟨Tryd.f65.name, by decide, Tryd.func65.trans (congrArg some (by kernel_rfl))⟩
  f12 := ⟨Tryd.f66.name, by decide, Tryd.func66.trans (congrArg some (by kernel_rfl))⟩
  f13 := ⟨Tryd.f67.name, by decide, Tryd.func67.trans (congrArg some (by kernel_rfl))⟩
  f14 := ⟨Tryd.f68.name, by decide, Tryd.func68.trans (congrArg some (by kernel_rfl))⟩
  f15 := ⟨Tryd.f69.name, by decide, Tryd.func69.trans (congrArg some (by kernel_rfl))⟩
  f16 := ⟨Tryd.f70.name, by decide, Tryd.func70.trans (congrArg some (by kernel_rfl))⟩
  f17 := ⟨Tryd.f71.name, by decide, Tryd.func71.trans (congrArg some (by kernel_rfl))⟩
  f18 := ⟨Tryd.f72.name, by decide, Tryd.func72.trans (congrArg some (by kernel_rfl))⟩
  f19 := Tryd.func73.trans (congrArg some (by kernel_rfl))
  f20 := Tryd.func74.trans (congrArg some (by kernel_rfl))
  f30 := ⟨Tryd.f77.name, by decide, Tryd.func77.trans (congrArg some (by kernel_rfl))⟩
  f31 := Tryd.func78.trans (congrArg some (by kernel_rfl))
  f32 := Tryd.func79.trans (congrArg some (by kernel_rfl))
  f33 := ⟨Tryd.f80.name, by decide, Tryd.func80.trans (congrArg some (by kernel_rfl))⟩
  f34 := ⟨Tryd.f81.name, by decide, Tryd.func81.trans (congrArg some (by kernel_rfl))⟩
  f35 := ⟨Tryd.f82.name, by decide, Tryd.func82.trans (congrArg some (by kernel_rfl))⟩
  f40 := ⟨Tryd.f83.name, by decide, Tryd.func83.trans (congrArg some (by kernel_rfl))⟩
  t0 := Tryd.underlying0
  a0 := Tryd.isAgg0
  z0 := Tryd.sizeOf0
  v0 := Tryd.zeroValue0
  t3 := Tryd.underlying3
  a3 := Tryd.isAgg3
  z3 := Tryd.sizeOf3
  v3 := Tryd.zeroValue3
  t4 := Tryd.underlying4
  a4 := Tryd.isAgg4
  z4 := Tryd.sizeOf4
  v4 := Tryd.zeroValue4
  t5 := Tryd.underlying5
  a5 := Tryd.isAgg5
  z5 := Tryd.sizeOf5
  v5 := Tryd.zeroValue5
  t9 := Tryd.underlying9
  a9 := Tryd.isAgg9
  z9 := Tryd.sizeOf9
  v9 := Tryd.zeroValue9
  t22 := Tryd.underlying64
  a22 := Tryd.isAgg64
  z22 := Tryd.sizeOf64
  v22 := Tryd.zeroValue64
  t23 := Tryd.underlying64
  a23 := Tryd.isAgg64
  z23 := Tryd.sizeOf64
  v23 := Tryd.zeroValue64
  t25 := Tryd.underlying3
  a25 := Tryd.isAgg3
  z25 := Tryd.sizeOf3
  v25 := Tryd.zeroValue3
  t32 := Tryd.underlying86
  a32 := Tryd.isAgg86
  z32 := Tryd.sizeOf86
  v32 := Tryd.zeroValue86
  t35 := Tryd.underlying99
  a35 := Tryd.isAgg99
  z35 := Tryd.sizeOf99
  v35 := Tryd.zeroValue99
  t36 := Tryd.underlying100
  a36 := Tryd.isAgg100
  z36 := Tryd.sizeOf100
  v36 := Tryd.zeroValue100
  t41 := Tryd.underlying105
  a41 := Tryd.isAgg105
  z41 := Tryd.sizeOf105
  v41 := Tryd.zeroValue105
  t44 := Tryd.underlying25
  a44 := Tryd.isAgg25
  z44 := Tryd.sizeOf25
  v44 := Tryd.zeroValue25
  t46 := Tryd.underlying109
  a46 := Tryd.isAgg109
  z46 := Tryd.sizeOf109
  v46 := Tryd.zeroValue109
  t53 := Tryd.underlying110
  a53 := Tryd.isAgg110
  z53 := Tryd.sizeOf110
  v53 := Tryd.zeroValue110
  t57 := Tryd.underlying114
  a57 := Tryd.isAgg114
  z57 := Tryd.sizeOf114
  v57 := Tryd.zeroValue114
  t63 := Tryd.underlying117
  a63 := Tryd.isAgg117
  z63 := Tryd.sizeOf117
  v63 := Tryd.zeroValue117
  t64 := Tryd.underlying118
  a64 := Tryd.isAgg118
  z64 := Tryd.sizeOf118
  v64 := Tryd.zeroValue118 }
end Go.Proofs
end

section
/- slices.Sorted(maps.Keys(m)) at a map of the call's own, keyed by whole numbers. -/
set_option linter.unusedSimpArgs false
set_option linter.unusedVariables false
namespace Go.Proofs.YtneolmnpebiifaaDoor
open Go.RowKit Go.Ofp Go.Maps Go.Sort Go.Shelf Go.Proofs
set_option linter.unusedVariables false
set_option maxHeartbeats 2000000

theorem sortsA (m : Nat) : AnyZI.SortsIn Tryd.prog Tryd.sorted22_ren Fence.wide m :=
  ⟨fun blk off cap ss W hH hblk hsz => callsIn_wide.2 (AnyM.slices_Sort_int Tryd.sort45 blk off cap ss W hH hblk hsz),
   fun p cap W => callsIn_wide.2 (AnyM.slices_Sort_int_none Tryd.sort45 p cap W)⟩

theorem ckeys_any (mb : Option Nat) (W : World) : Calls Tryd.prog 23 #[.map mb] W fun e w' => e = .returned (.func (.func 46) #[] #[.pointer (some ⟨W.heap.size, 0, none⟩)]) ∧ w' = W.alloc (.cells #[.map mb] 61) :=
  callsIn_wide.1 (AnyZI.keys_in Tryd.keys23 Fence.wide 5 trivial rfl mb W)

theorem csorted_any (B b n : Nat) (f : Int → Option Value) (W : World) (hm : W.cell? ⟨B, 0, none⟩ = some (.map (some b))) (h : IMap Tryd.prog 3 W b n f) (hn : n ≤ 100000) :
    Calls Tryd.prog 22 #[.func (.func 46) #[] #[.pointer (some ⟨B, 0, none⟩)]] W fun e w' => ∃ v ks, e = .returned v ∧ IsKeys f ks ∧ ks.length ≤ n ∧ w'.ownsRow W.heap.size 3 1 v ks.length (ks.map (Value.int .i64)) ∧ Below W.heap.size W w' := by
  obtain ⟨D, hown, hsz, hkeys⟩ := h.keys Tryd.underlying3
  have hseq : SeqGives Fence.wide 2 Tryd.prog 46 #[.pointer (some ⟨B, 0, none⟩)] encZ (fun ss => ss.Perm (intKeys D)) (Maps.size D) W :=
    AnyZI.keys_gives (ρ := Tryd.keys23_ren) { Tryd.keys23 with } Fence.wide _ trivial rfl (by omega) B b n D W (World.block_lt_of_cell? W _ hm) hm hown
  have cS := AnyZI.sorted_in Tryd.sorted22 Fence.wide 5 trivial trivial trivial trivial rfl (by omega) (sortsA _) (enters_of Tryd.func45 (by kernel_rfl) rfl) 46 #[.pointer (some ⟨B, 0, none⟩)] trivial (enters_of Tryd.func46 (by kernel_rfl) rfl) _ _ (by unfold maxLen; omega) (by omega) _ hseq
  refine (callsIn_wide.1 cS).mono ?_
  rintro e w' ⟨v, ss, rfl, hp, hrow, -, hb⟩
  obtain ⟨h1, h2⟩ := hkeys ss hp
  have hl : (ss.mergeSort fun x y => decide (x ≤ y)).length = ss.length := List.length_mergeSort ss
  exact ⟨v, _, rfl, h1, by rw [hl]; exact h2, by rw [hl]; exact hrow, hb⟩
end Go.Proofs.YtneolmnpebiifaaDoor
end

section
/- Do turns go on: the program's. -/
set_option linter.unusedSimpArgs false
set_option linter.unusedVariables false
namespace Go.Proofs.YtneolmnpebiifaaDoor
open Go.RowKit Go.Ofp
set_option linter.unusedVariables false
set_option maxRecDepth 100000
set_option maxHeartbeats 4000000

end Go.Proofs.YtneolmnpebiifaaDoor
end

section
/- What a card's first and last turn come to. -/
set_option linter.unusedSimpArgs false
set_option linter.unusedVariables false
namespace Go.Ofp
open Go.RowKit
/-- Two results: one in a block of the call's own. -/
theorem results_blk_tmp {P : Program} {fn : Func} {a b : Tmp} {t : TypeId} (h : fn.results = #[.cell a t, .tmp b]) {tmps : Array Value} {g : Nat} (ht : tmps.getD a undef = .pointer (some ⟨g, 0, none⟩)) {w0 w : World} {F : List Nat} {L : List Ch} (hS : St w0 F L w) (i : Nat) {T : TypeId} {cs : Array Value}
    (hi : L[i]? = some (Ch.blk g T cs)) (hu : rowB P t = true) (hsz : sizeB P t cs.size = true) {v : Value} (hv : tmps.getD b undef = v) : (results fn tmps).run P w = .ok (.tuple #[.agg cs, v]) w := by
  have hr := run_loadrow (P := P) (w := w) hu hsz (g := g) (j := 0) (vs := cs.toList) (by simp) (Whole.range (hS.get i hi) 0 fun k v hk => by simpa using hk)
  have hl : (loadVar t ⟨g, 0, none⟩).run P w = .ok (.agg cs) w := by simpa [Instr.loadAt, Instr.sureAddr] using hr
  have ht' : tmps[a]?.getD undef = .pointer (some ⟨g, 0, none⟩) := by simpa using ht
  have hv' : tmps[b]?.getD undef = v := by simpa using hv
  unfold results
  simp [h, ht', asAddr, hl, hv']
end Go.Ofp
namespace Go.Proofs.YtneolmnpebiifaaDoor
open Go.RowKit Go.Ofp
set_option linter.unusedVariables false
set_option maxRecDepth 100000
set_option maxHeartbeats 4000000
end Go.Proofs.YtneolmnpebiifaaDoor
end

section
/- What turns come to: the program's. -/
set_option linter.unusedSimpArgs false
set_option linter.unusedVariables false
namespace Go.Ofp
open Go.RowKit
end Go.Ofp
namespace Go.Proofs.YtneolmnpebiifaaDoor
open Go.RowKit Go.Ofp
set_option linter.unusedVariables false
set_option maxRecDepth 100000
set_option maxHeartbeats 4000000

end Go.Proofs.YtneolmnpebiifaaDoor
end

section
/- The law CardShows: what is looked at; the walk. -/
set_option linter.unusedSimpArgs false
set_option linter.unusedVariables false
namespace Go.Ofp
/-- Texts that are longer than is looked at. -/
def largeF (f : List Vl) : Bool := f.any fun v => decide (200 < v.s.size)
end Go.Ofp
namespace Go.Proofs.YtneolmnpebiifaaDoor
open Go.RowKit Go.Ofp
set_option linter.unusedVariables false
set_option maxRecDepth 100000
set_option maxHeartbeats 4000000

theorem fl_str (f : List Vl) (k : Nat) (v : Vl) (hv : f[k]? = some v) : (flRow f)[k * 3 + 2]? = some (.string v.s) := by
  have h := fl_at [] f k v hv
  simp only [List.nil_append, List.length_nil, Nat.zero_add] at h
  have := congrArg (fun l => l[2]?) h
  simpa [List.getElem?_take, List.getElem?_drop, vlRow] using this
theorem large6_any (f : List Vl) (hf : f.length = 8) (w : World) : Calls Tryd.prog 7 #[.agg (flRow f).toArray] w fun e w' => e = .returned (.bool (largeF f)) ∧ Below w.heap.size w w' := by
  have hS := St.start w
  go_enter Tryd.func7, Tryd.ntmps7
  go_wp2_with (first
    | (with_reducible refine wpList_box_st (L := []) hS rfl rfl rfl ?_; intro gc w1 hS1; clear hS; have hS := hS1; clear hS1))
  go_loopg [3] 8 (fun gk vx wr => ∃ k : Nat, k + gk = 8 ∧ vx = .int .i64 k ∧ Hid (largeF (f.take k) = false) ∧ wr = w1)
  case atStart => exact ⟨0, Nat.zero_add _, rfl, Lib.hid rfl, rfl⟩
  case round =>
    obtain ⟨k, hk, rfl, hr, rfl⟩ := hrel
    have hc := hS.cell 0 rfl (k * 3 + 2)
    by_cases hlt : k < 8
    · obtain ⟨v, hv⟩ : ∃ v, f[k]? = some v := ⟨_, List.getElem?_eq_getElem (by omega)⟩
      rw [List.getElem?_toArray, fl_str f k v hv] at hc
      by_cases hx : 200 < v.s.size
      · go_wp2_with fail
        go_ret
        have : largeF f = true := by
          rw [largeF, List.any_eq_true]
          exact ⟨v, List.mem_of_getElem? hv, decide_eq_true hx⟩
        exact ⟨by rw [this]; rfl, hS.below⟩
      · have hnext : largeF (f.take (k + 1)) = false := by
          obtain ⟨h1, h2⟩ := List.getElem?_eq_some_iff.1 hv
          rw [List.take_succ_eq_append_getElem h1, largeF, List.any_append, h2]
          have := hr.out
          rw [largeF] at this
          rw [this]
          simpa using hx
        replace hnext := Lib.hid hnext
        have hxb : decide ((200 : Int) < (v.s.size : Int)) = false := decide_eq_false (by omega)
        clear hx hr
        go_wp2_with fail
        go_roundg (8 - (k + 1))
        case measure => omega
        case rel => exact ⟨k + 1, by omega, by go_num, hnext, rfl⟩
    · obtain rfl : k = 8 := by omega
      have hr2 := hr.out
      rw [List.take_of_length_le (by omega)] at hr2
      clear hc
      go_wp2_with fail
      go_ret
      exact ⟨by rw [hr2]; rfl, hS.below⟩

end Go.Proofs.YtneolmnpebiifaaDoor
end

section
/- Turns that are long; the chapter's example. -/
set_option linter.unusedSimpArgs false
set_option linter.unusedVariables false
namespace Go.Proofs.YtneolmnpebiifaaDoor
open Go.RowKit Go.Ofp
set_option linter.unusedVariables false
set_option maxRecDepth 100000
set_option maxHeartbeats 4000000

end Go.Proofs.YtneolmnpebiifaaDoor
end

section
/- Do turns go on: the document's. -/
set_option linter.unusedSimpArgs false
set_option linter.unusedVariables false
namespace Go.Proofs.YtneolmnpebiifaaDoor
open Go.RowKit Go.Ofp
set_option linter.unusedVariables false
set_option maxRecDepth 100000
set_option maxHeartbeats 4000000

end Go.Proofs.YtneolmnpebiifaaDoor
end

section
/- Which items may be: plain law. -/
set_option linter.unusedSimpArgs false
set_option linter.unusedVariables false
namespace Go.Ofp

/-- May an item be? -/
def It.may (ok : Cd → Bool) (x : It) : Bool :=
  if x.kind = 1 ∨ x.kind = 3 then ok x.c else if x.kind = 2 then decide (x.c = Cd.none x.c.id) else false
section
variable {ok : Cd → Bool}
end
end Go.Ofp
end

section
/- The law TransOnce. -/
set_option linter.unusedSimpArgs false
set_option linter.unusedVariables false
namespace Go.Proofs.YtneolmnpebiifaaDoor
open Go.RowKit Go.Ofp
set_option linter.unusedVariables false
set_option maxRecDepth 100000
set_option maxHeartbeats 4000000

end Go.Proofs.YtneolmnpebiifaaDoor
end

section
/- Turns and items, compared. -/
set_option linter.unusedSimpArgs false
set_option linter.unusedVariables false
namespace Go.Proofs.YtneolmnpebiifaaDoor
open Go.RowKit Go.Ofp
set_option linter.unusedVariables false
set_option maxRecDepth 100000
set_option maxHeartbeats 4000000
theorem part_i (R : List Value) (j : Nat) (x : Int) (h : R[j]? = some (.int .i64 x)) (w : World) : (part 3 R.toArray j).run Tryd.prog w = .ok (.int .i64 x) w := by
  have h' : R.toArray[j]? = some (.int .i64 x) := by simpa using h
  unfold part
  go_simp
end Go.Proofs.YtneolmnpebiifaaDoor
end

section
/- A card's turn: the program's and the document's. -/
set_option linter.unusedSimpArgs false
set_option linter.unusedVariables false
namespace Go.Ofp
open Go.RowKit
end Go.Ofp
namespace Go.Proofs.YtneolmnpebiifaaDoor
open Go.RowKit Go.Ofp
set_option linter.unusedVariables false
set_option maxRecDepth 100000
set_option maxHeartbeats 4000000
end Go.Proofs.YtneolmnpebiifaaDoor
end

section
/- The document's net, first part: whether a turn is a card's first; items with one more. -/
set_option linter.unusedSimpArgs false
set_option linter.unusedVariables false
namespace Go.Ofp
open Go.RowKit
end Go.Ofp
namespace Go.Proofs.YtneolmnpebiifaaDoor
open Go.RowKit Go.Ofp
set_option linter.unusedVariables false
set_option maxRecDepth 100000
set_option maxHeartbeats 4000000

end Go.Proofs.YtneolmnpebiifaaDoor
end

section
/- The document's net. -/
set_option linter.unusedSimpArgs false
set_option linter.unusedVariables false
namespace Go.Ofp
open Go.RowKit
end Go.Ofp
namespace Go.Proofs.YtneolmnpebiifaaDoor
open Go.RowKit Go.Ofp
set_option linter.unusedVariables false
set_option maxRecDepth 100000
set_option maxHeartbeats 4000000

end Go.Proofs.YtneolmnpebiifaaDoor
end

section
/- Lists of items and of cards compared. -/
set_option linter.unusedSimpArgs false
set_option linter.unusedVariables false
namespace Go.Ofp
open Go.RowKit
theorem Lst.imp {α : Type} {row : α → List Value} {In In' : α → Prop} {w : World} {a : Option Addr} {n c : Nat} {l : List α} (h : Lst row In w a n c l) (f : ∀ x, In x → In' x) : Lst row In' w a n c l := ⟨h.sl, h.len, h.le, h.cm, fun x hx => f x (h.mem x hx)⟩
end Go.Ofp
namespace Go.Proofs.YtneolmnpebiifaaDoor
open Go.RowKit Go.Ofp
set_option linter.unusedVariables false
set_option maxRecDepth 100000
set_option maxHeartbeats 4000000

theorem csame_any (a b : Option Addr) (n m ca cb : Nat) (l k : List Cd) (w : World) (hl : Lst cdRow (fun x => x.f.length = 8) w a n ca l) (hk : Lst cdRow (fun x => x.f.length = 8) w b m cb k) (hn : n ≤ 50000) (hm : m ≤ 50000) :
    Calls Tryd.prog 37 #[.slice a n ca, .slice b m cb] w fun e w' => e = .returned (.bool (decide (l = k))) ∧ Below w.heap.size w w' := by
  have hS := St.start w
  have hG := guard_cd
  have hln := Lib.hid hl.len
  have hkn := Lib.hid hk.len
  have hll := Lib.hid (show ∀ x ∈ l, (cdRow x).length = 27 from fun x hx => cdRow_lenT _ (hl.mem x hx))
  have hkl := Lib.hid (show ∀ x ∈ k, (cdRow x).length = 27 from fun x hx => cdRow_lenT _ (hk.mem x hx))
  have hlb := Lib.hid (hl.base (by decide) hll.out)
  have hkb := Lib.hid (hk.base (by decide) hkl.out)
  have hE0 := Lib.hid fun (x y : Cd) (hx : x ∈ l) (hy : y ∈ k) (W : World) => neq_cd x y (hl.mem x hx) (hk.mem y hy) W
  by_cases hnm : n = m
  · subst hnm
    obtain ⟨R, hR⟩ : ∃ R, decide (l = k) = R := ⟨_, rfl⟩
    rw [hR]
    replace hR := Lib.hid hR
    replace hl := Lib.hid hl
    replace hk := Lib.hid hk
    go_enter Tryd.func37, Tryd.ntmps37
    go_wp2_with fail
    go_loopg [5] n (fun gk vx wr => ∃ j : Nat, j + gk = n ∧ vx = .int .i64 j ∧ Hid (l.take j = k.take j) ∧ St w [] [] wr)
    case atStart => exact ⟨0, Nat.zero_add _, rfl, Lib.hid rfl, hS⟩
    case round =>
      clear hS
      obtain ⟨j, hj, rfl, hr, hS⟩ := hrel
      by_cases hlt : j < n
      · have hjl : j < l.length := by rw [hln.out]; exact hlt
        have hjk : j < k.length := by rw [hkn.out]; exact hlt
        obtain ⟨b1, o1, rfl⟩ := hlb.out (by omega)
        obtain ⟨b2, o2, rfl⟩ := hkb.out (by omega)
        have hE := hE0.out l[j] k[j] (List.getElem_mem hjl) (List.getElem_mem hjk)
        have r1 := hl.out.rowb hll.out j hjl
        have r2 := hk.out.rowb hkl.out j hjk
        have l1 := hll.out _ (List.getElem_mem hjl)
        have l2 := hkl.out _ (List.getElem_mem hjk)
        have hsz : sizeB Tryd.prog 38 27 = true := by kernel_rfl
        have kR1 := hS.kold_row (P := Tryd.prog) (t := 38) r1 (by kernel_rfl) hsz l1
        have kR2 := hS.kold_row (P := Tryd.prog) (t := 38) r2 (by kernel_rfl) hsz l2
        clear r1 r2 l1 l2
        by_cases hx : l[j] = k[j]
        · have hr2 : l.take (j + 1) = k.take (j + 1) := by rw [List.take_succ_eq_append_getElem hjl, List.take_succ_eq_append_getElem hjk, hr.out, hx]
          rw [decide_eq_true hx] at hE
          simp only [Bool.not_true] at hE
          replace hr2 := Lib.hid hr2
          clear hx
          generalize cdRow l[j] = R1 at *
          generalize cdRow k[j] = R2 at *
          go_wp2_with fail
          refine mixs_begin (by kernel_rfl) hS ?_
          clear hS
          intro w2 hS
          refine mixs_take 0 (v := ?_) rfl (by kernel_rfl) (fun _ _ _ h => h) (by kernel_rfl) (by assumption) (fun s => ?hy) ?_; case hy => (go_simp <;> with_reducible rfl)
          try simp only [List.getElem_toArray, List.getElem_cons_succ, List.getElem_cons_zero, Act.put, List.setIfInBounds_toArray, List.set_cons_zero, List.set_cons_succ]
          refine mixs_take 1 (v := ?_) rfl (by kernel_rfl) (fun _ _ _ h => h) (by kernel_rfl) (by assumption) (fun s => ?hy) ?_; case hy => (go_simp <;> with_reducible rfl)
          try simp only [List.getElem_toArray, List.getElem_cons_succ, List.getElem_cons_zero, Act.put, List.setIfInBounds_toArray, List.set_cons_zero, List.set_cons_succ]
          refine mixs_take 2 (v := ?_) rfl (by kernel_rfl) (fun _ _ _ h => h) (by kernel_rfl) (by assumption) (fun s => ?hy) ?_; case hy => (go_simp <;> with_reducible rfl)
          try simp only [List.getElem_toArray, List.getElem_cons_succ, List.getElem_cons_zero, Act.put, List.setIfInBounds_toArray, List.set_cons_zero, List.set_cons_succ]
          refine mixs_take 3 (v := ?_) rfl (by kernel_rfl) (fun _ _ _ h => h) (by kernel_rfl) (by assumption) (fun s => ?hy) ?_; case hy => (refine Eq.trans (take_loadrow s rfl rfl kR1) ?_; with_reducible rfl)
          try simp only [List.getElem_toArray, List.getElem_cons_succ, List.getElem_cons_zero, Act.put, List.setIfInBounds_toArray, List.set_cons_zero, List.set_cons_succ]
          refine mixs_take 4 (v := ?_) rfl (by kernel_rfl) (fun _ _ _ h => h) (by kernel_rfl) (by assumption) (fun s => ?hy) ?_; case hy => (go_simp <;> with_reducible rfl)
          try simp only [List.getElem_toArray, List.getElem_cons_succ, List.getElem_cons_zero, Act.put, List.setIfInBounds_toArray, List.set_cons_zero, List.set_cons_succ]
          refine mixs_take 5 (v := ?_) rfl (by kernel_rfl) (fun _ _ _ h => h) (by kernel_rfl) (by assumption) (fun s => ?hy) ?_; case hy => (go_simp <;> with_reducible rfl)
          try simp only [List.getElem_toArray, List.getElem_cons_succ, List.getElem_cons_zero, Act.put, List.setIfInBounds_toArray, List.set_cons_zero, List.set_cons_succ]
          refine mixs_take 6 (v := ?_) rfl (by kernel_rfl) (fun _ _ _ h => h) (by kernel_rfl) (by assumption) (fun s => ?hy) ?_; case hy => (go_simp <;> with_reducible rfl)
          try simp only [List.getElem_toArray, List.getElem_cons_succ, List.getElem_cons_zero, Act.put, List.setIfInBounds_toArray, List.set_cons_zero, List.set_cons_succ]
          refine mixs_take 7 (v := ?_) rfl (by kernel_rfl) (fun _ _ _ h => h) (by kernel_rfl) (by assumption) (fun s => ?hy) ?_; case hy => (refine Eq.trans (take_loadrow s rfl rfl kR2) ?_; with_reducible rfl)
          try simp only [List.getElem_toArray, List.getElem_cons_succ, List.getElem_cons_zero, Act.put, List.setIfInBounds_toArray, List.set_cons_zero, List.set_cons_succ]
          refine mixs_take 8 (v := ?_) rfl (by kernel_rfl) (fun _ _ _ h => h) (by kernel_rfl) (by assumption) (fun s => ?hy) ?_; case hy => (go_simp <;> with_reducible rfl)
          try simp only [List.getElem_toArray, List.getElem_cons_succ, List.getElem_cons_zero, Act.put, List.setIfInBounds_toArray, List.set_cons_zero, List.set_cons_succ]
          refine wpAnyH_done (by kernel_rfl) ?_ _
          clear kR1 kR2
          go_wp2_with fail
          go_roundg (n - (j + 1))
          case measure => omega
          case rel => exact ⟨j + 1, by omega, by go_num, hr2, hS⟩
        · have hR2 : R = false := by
            rw [← hR.out, decide_eq_false_iff_not]
            intro e
            subst e
            exact hx rfl
          rw [decide_eq_false hx] at hE
          simp only [Bool.not_false] at hE
          replace hR2 := Lib.hid hR2
          clear hx
          generalize cdRow l[j] = R1 at *
          generalize cdRow k[j] = R2 at *
          go_wp2_with fail
          refine mixs_begin (by kernel_rfl) hS ?_
          clear hS
          intro w2 hS
          refine mixs_take 0 (v := ?_) rfl (by kernel_rfl) (fun _ _ _ h => h) (by kernel_rfl) (by assumption) (fun s => ?hy) ?_; case hy => (go_simp <;> with_reducible rfl)
          try simp only [List.getElem_toArray, List.getElem_cons_succ, List.getElem_cons_zero, Act.put, List.setIfInBounds_toArray, List.set_cons_zero, List.set_cons_succ]
          refine mixs_take 1 (v := ?_) rfl (by kernel_rfl) (fun _ _ _ h => h) (by kernel_rfl) (by assumption) (fun s => ?hy) ?_; case hy => (go_simp <;> with_reducible rfl)
          try simp only [List.getElem_toArray, List.getElem_cons_succ, List.getElem_cons_zero, Act.put, List.setIfInBounds_toArray, List.set_cons_zero, List.set_cons_succ]
          refine mixs_take 2 (v := ?_) rfl (by kernel_rfl) (fun _ _ _ h => h) (by kernel_rfl) (by assumption) (fun s => ?hy) ?_; case hy => (go_simp <;> with_reducible rfl)
          try simp only [List.getElem_toArray, List.getElem_cons_succ, List.getElem_cons_zero, Act.put, List.setIfInBounds_toArray, List.set_cons_zero, List.set_cons_succ]
          refine mixs_take 3 (v := ?_) rfl (by kernel_rfl) (fun _ _ _ h => h) (by kernel_rfl) (by assumption) (fun s => ?hy) ?_; case hy => (refine Eq.trans (take_loadrow s rfl rfl kR1) ?_; with_reducible rfl)
          try simp only [List.getElem_toArray, List.getElem_cons_succ, List.getElem_cons_zero, Act.put, List.setIfInBounds_toArray, List.set_cons_zero, List.set_cons_succ]
          refine mixs_take 4 (v := ?_) rfl (by kernel_rfl) (fun _ _ _ h => h) (by kernel_rfl) (by assumption) (fun s => ?hy) ?_; case hy => (go_simp <;> with_reducible rfl)
          try simp only [List.getElem_toArray, List.getElem_cons_succ, List.getElem_cons_zero, Act.put, List.setIfInBounds_toArray, List.set_cons_zero, List.set_cons_succ]
          refine mixs_take 5 (v := ?_) rfl (by kernel_rfl) (fun _ _ _ h => h) (by kernel_rfl) (by assumption) (fun s => ?hy) ?_; case hy => (go_simp <;> with_reducible rfl)
          try simp only [List.getElem_toArray, List.getElem_cons_succ, List.getElem_cons_zero, Act.put, List.setIfInBounds_toArray, List.set_cons_zero, List.set_cons_succ]
          refine mixs_take 6 (v := ?_) rfl (by kernel_rfl) (fun _ _ _ h => h) (by kernel_rfl) (by assumption) (fun s => ?hy) ?_; case hy => (go_simp <;> with_reducible rfl)
          try simp only [List.getElem_toArray, List.getElem_cons_succ, List.getElem_cons_zero, Act.put, List.setIfInBounds_toArray, List.set_cons_zero, List.set_cons_succ]
          refine mixs_take 7 (v := ?_) rfl (by kernel_rfl) (fun _ _ _ h => h) (by kernel_rfl) (by assumption) (fun s => ?hy) ?_; case hy => (refine Eq.trans (take_loadrow s rfl rfl kR2) ?_; with_reducible rfl)
          try simp only [List.getElem_toArray, List.getElem_cons_succ, List.getElem_cons_zero, Act.put, List.setIfInBounds_toArray, List.set_cons_zero, List.set_cons_succ]
          refine mixs_take 8 (v := ?_) rfl (by kernel_rfl) (fun _ _ _ h => h) (by kernel_rfl) (by assumption) (fun s => ?hy) ?_; case hy => (go_simp <;> with_reducible rfl)
          try simp only [List.getElem_toArray, List.getElem_cons_succ, List.getElem_cons_zero, Act.put, List.setIfInBounds_toArray, List.set_cons_zero, List.set_cons_succ]
          refine wpAnyH_done (by kernel_rfl) ?_ _
          clear kR1 kR2
          go_wp2_with fail
          go_ret
          exact ⟨by rw [hR2.out]; rfl, hS.below⟩
      · obtain rfl : j = n := by omega
        have hR2 : R = true := by
          rw [← hR.out, decide_eq_true_iff]
          have e1 := hr.out
          rwa [List.take_of_length_le (by rw [hln.out]; exact Nat.le_refl _), List.take_of_length_le (by rw [hkn.out]; exact Nat.le_refl _)] at e1
        replace hR2 := Lib.hid hR2
        go_wp2_with fail
        go_ret
        exact ⟨by rw [hR2.out]; rfl, hS.below⟩
  · have e : decide (l = k) = false := by rw [decide_eq_false_iff_not]; intro e; subst e; exact hnm (hln.out.symm.trans hkn.out)
    have hb : ((n : Int) != (m : Int)) = true := by simp; omega
    rw [e]
    replace hl := Lib.hid hl
    replace hk := Lib.hid hk
    clear hnm e
    go_enter Tryd.func37, Tryd.ntmps37
    go_wp2_with fail
    go_ret
    exact ⟨rfl, hS.below⟩

end Go.Proofs.YtneolmnpebiifaaDoor
end

section
/- The law TransNets. -/
set_option linter.unusedSimpArgs false
set_option linter.unusedVariables false
namespace Go.Ofp
open Go.RowKit
theorem St.lst {α : Type} {row : α → List Value} {In : α → Prop} {w0 w : World} {F : List Nat} {L : List Ch} {e size n c : Nat} {a : Option Addr} {l : List α} (h : St w0 F L w) (i : Nat) (hi : L[i]? = some (Ch.row e size (.slice a n c) n (l.map row).flatten)) (hl : l.length = n) (hm : ∀ x ∈ l, In x) : Lst row In w a n c l := by
  obtain ⟨a', cap, e', hs, -, h1, h2⟩ := h.row i hi
  cases e'
  exact ⟨hs, hl, h1, h2, hm⟩
end Go.Ofp
namespace Go.Proofs.YtneolmnpebiifaaDoor
open Go.RowKit Go.Ofp
set_option linter.unusedVariables false
set_option maxRecDepth 100000
set_option maxHeartbeats 4000000

end Go.Proofs.YtneolmnpebiifaaDoor
end

section
/- Cards behind items: the program's. -/
set_option linter.unusedSimpArgs false
set_option linter.unusedVariables false
namespace Go.Ofp
open Go.RowKit
/-- What is known of cards in memory. -/
structure CdOk (c : Cd) : Prop where
  f : c.f.length = 8
  id : -9223372036854775808 ≤ c.id ∧ c.id ≤ 9223372036854775807
structure ItOk (x : It) : Prop where
  c : CdOk x.c
  kind : x.kind = 1 ∨ x.kind = 2 ∨ x.kind = 3
end Go.Ofp
namespace Go.Proofs.YtneolmnpebiifaaDoor
open Go.RowKit Go.Ofp
set_option linter.unusedVariables false
set_option maxRecDepth 100000
set_option maxHeartbeats 4000000

theorem cdRow_oneT (c : Cd) : (cdRow c).all Value.oneCell' = true := by
  simp only [cdRow, List.all_cons, fl_one]
  rfl
theorem zero_card (W : World) : (zeroValue 38).run Tryd.prog W = .ok (.agg (cdRow (Cd.none 0)).toArray) W := by kernel_rfl
theorem ckeys_st (mb : Option Nat) (W : World) : Calls Tryd.prog 23 #[.map mb] W fun e w' => ∃ B, e = .returned (.func (.func 46) #[] #[.pointer (some ⟨B, 0, none⟩)]) ∧ St W [] [Ch.blk B 61 #[.map mb]] w' :=
  (ckeys_any mb W).mono fun e w' ⟨h1, h2⟩ => ⟨_, h1, h2 ▸ (St.start W).alloc _ _⟩
end Go.Proofs.YtneolmnpebiifaaDoor
end

section
/- The shelf: New, Next, Get. -/
set_option linter.unusedSimpArgs false
set_option linter.unusedVariables false
namespace Go.Ofp
theorem St.rl3 {w0 w : World} {F : List Nat} {a b c : Ch} (h : St w0 F [a, b, c] w) : St w0 F [b, c, a] w := by
  refine h.pick (fun i => if i = 0 then 1 else if i = 1 then 2 else 0) ?_ ?_
  · intro i x hx
    match i with
    | 0 => exact hx
    | 1 => exact hx
    | 2 => exact hx
    | i + 3 => simp at hx
  · intro i j hi hj hij
    simp only [List.length_cons, List.length_nil] at hi hj
    split <;> split <;> (repeat' split) <;> omega
end Go.Ofp
namespace Go.Proofs.YtneolmnpebiifaaDoor
open Go.RowKit Go.Ofp
set_option linter.unusedVariables false
set_option maxRecDepth 100000
set_option maxHeartbeats 4000000
theorem elem_dd : Elem Tryd.prog 74 (.agg #[.int .i64 0, .int .i64 0, .int .i64 0]) 3 24 := Elem.mk (by kernel_rfl) (by rfl) (by decide)
def shRow (s : ShS) (gm : Nat) (da : Option Addr) (dc : Nat) : List Value := [.int .i64 s.next, .map (some gm), .slice da s.dead.length dc]
abbrev dRow (l : List Dd) : List Value := (l.map ddRow).flatten
abbrev shA (g gm : Nat) (s : ShS) (da : Option Addr) (dc : Nat) : List Ch := [Ch.blk g 63 (shRow s gm da dc).toArray, Ch.map Tryd.prog 3 gm s.m.length (cdM cdRow s.m), Ch.row 74 3 (.slice da s.dead.length dc) s.dead.length (dRow s.dead)]

theorem snew_any (w : World) : Calls Tryd.prog 6 #[] w fun e w' => ∃ g gm, e = .returned (.pointer (some ⟨g, 0, none⟩)) ∧ St w [] (shA g gm ShS.new none 0) w' := by
  have hS := St.start w
  have e0 : ∀ gm, shRow ShS.new gm none 0 = [.int .i64 1, .map (some gm), .slice none 0 0] := fun _ => rfl
  have e1 : cdM cdRow ShS.new.m = noM := rfl
  unfold shA
  rw [e1]
  simp only [e0]
  clear e0 e1
  go_enter Tryd.func6, Tryd.ntmps6
  go_wp2_with (first
    | ((with_reducible refine wpList_makemap_st (k := 3) hS rfl rfl Tryd.underlying61 ?_); intro gm w1 hS1; clear hS; have hS := hS1; clear hS1)
    | (with_reducible refine wpList_box_st hS rfl rfl rfl ?_; intro g1 w1 hS1; clear hS; replace hS := hS1; clear hS1) | (with_reducible refine wpList_box1_st hS rfl rfl rfl ?_; intro g1 w1 hS1; clear hS; replace hS := hS1; clear hS1) | (with_reducible refine wpList_alloc_st hS rfl rfl (by assumption) ?_; intro g1 w1 hS1; clear hS; replace hS := hS1; clear hS1) | (with_reducible refine wpList_alloc1_st hS rfl rfl (by assumption) rfl ?_; intro g1 w1 hS1; clear hS; replace hS := hS1; clear hS1) | ((with_reducible refine wpList_load_st 0 hS rfl rfl rfl rfl ?_ rfl ?_); focus (simp [scalarB, go_sem]; done)) | ((with_reducible refine wpList_loadall_st 0 hS rfl rfl rfl rfl ?_ (by kernel_rfl) ?_); focus (simp [rowB, go_sem]; done)) | ((with_reducible refine wpList_store_st 0 hS rfl rfl rfl rfl (by kernel_rfl) rfl rfl ?_); intro w1 hS1; clear hS; replace hS := hS1; clear hS1; try simp only [List.set_cons_zero, List.set_cons_succ, List.setIfInBounds_toArray, List.take_succ_cons, List.take_zero, List.drop_succ_cons, List.drop_zero, List.nil_append, List.cons_append, List.append_nil, List.drop_nil, List.take_nil, List.length_cons, List.length_nil, Nat.zero_add, Nat.add_zero, Nat.reduceAdd] at hS) | ((with_reducible refine wpList_storerow_st 0 hS rfl rfl rfl rfl (by kernel_rfl) rfl rfl rfl rfl ?_); intro w1 hS1; clear hS; replace hS := hS1; clear hS1; try simp only [List.set_cons_zero, List.set_cons_succ, List.setIfInBounds_toArray, List.take_succ_cons, List.take_zero, List.drop_succ_cons, List.drop_zero, List.nil_append, List.cons_append, List.append_nil, List.drop_nil, List.take_nil, List.length_cons, List.length_nil, Nat.zero_add, Nat.add_zero, Nat.reduceAdd] at hS))
  go_ret
  exact ⟨_, _, rfl, (hS.nilrow 74 3).rl3⟩
theorem snext_any (g : Nat) (n : Int) (w : World) (h : w.cell? ⟨g, 0, none⟩ = some (.int .i64 n)) : Calls Tryd.prog 18 #[.pointer (some ⟨g, 0, none⟩)] w fun e w' => e = .returned (.int .i64 n) ∧ Below w.heap.size w w' := by
  have hS := St.start w
  go_enter Tryd.func18, Tryd.ntmps18
  go_wp2_with fail
  go_ret
  exact ⟨rfl, hS.below⟩
/-- Get's test. -/
theorem sget1_any (d : Dd) (B : Nat) (id : Int) (w : World) (hb : Boxed w B 3 (.int .i64 id)) :
    Calls Tryd.prog 27 #[.agg (ddRow d).toArray, .pointer (some ⟨B, 0, none⟩)] w fun e w' => e = .returned (.bool (d.id == id)) ∧ Below w.heap.size w w' := by
  have hS := St.start w
  have hc := hb.cell
  obtain ⟨di, dv, dq⟩ := d
  simp only [ddRow]
  go_enter Tryd.func27, Tryd.ntmps27
  go_wp2_with (first
    | (with_reducible refine wpList_box_st (L := []) hS rfl rfl rfl ?_; intro g w1 hS1; clear hS; have hS := hS1; clear hS1; have hc2 := hS.old hc (by simp); clear hc)
    | ((with_reducible refine wpList_load_st 0 hS rfl rfl rfl rfl ?_ rfl ?_); focus (simp [scalarB, go_sem]; done)))
  go_ret
  exact ⟨rfl, hS.below⟩
theorem dRow_len (l : List Dd) : (dRow l).length = l.length * 3 := by
  induction l with
  | nil => rfl
  | cons d r ih => simp only [dRow, List.map_cons, List.flatten_cons, List.length_append, ddRow_len, List.length_cons] at *; omega
theorem dRow_at (l : List Dd) (k : Nat) (h : k < l.length) : ((dRow l).drop (k * 3)).take 3 = ddRow l[k] := by
  induction l generalizing k with
  | nil => simp at h
  | cons d r ih =>
    cases k with
    | zero => simp [dRow, ddRow]
    | succ k =>
      have := ih k (by simpa using h)
      rw [show (k + 1) * 3 = 3 + k * 3 by omega, ← List.drop_drop]
      simpa [dRow, ddRow] using this
theorem idxd_any (l : List Dd) (a : Option Addr) (n cap : Nat) (id : Int) (B : Nat) (hn : l.length = n) (hn1 : n ≤ 1000) (w : World) (hs : Sl w a (dRow l)) (hb : Boxed w B 3 (.int .i64 id)) :
    Calls Tryd.prog 50 #[.slice a n cap, .func (.func 27) #[] #[.pointer (some ⟨B, 0, none⟩)]] w fun e w' => (∃ r : Int, e = .returned (.int .i64 r) ∧ decide (0 ≤ r) = l.any (fun d => decide (d.id = id))) ∧ Below w.heap.size w w' := by
  have hS := St.start w
  have cD := Lib.hid (fun (q : Dd) (W : World) (h : Boxed W B 3 (.int .i64 id)) => sget1_any q B id W h)
  have lt := (Array.getElem?_eq_some_iff.1 hb).1
  replace hb := Lib.hid hb
  replace hs := Lib.hid hs
  replace hn := Lib.hid hn
  go_enter Tryd.func50, Tryd.ntmps50
  go_wp2_with fail
  go_loopg [8] n (fun gk vx wr => ∃ k : Nat, k + gk = n ∧ vx = .int .i64 k ∧ Hid (∀ q ∈ l.take k, q.id ≠ id) ∧ St w [] [] wr)
  case atStart => exact ⟨0, Nat.zero_add _, rfl, Lib.hid (by simp), hS⟩
  case round =>
    clear hS
    obtain ⟨k, hkn, rfl, hr, hS⟩ := hrel
    by_cases hlt : k < n
    · have hkl : k < l.length := by rw [hn.out]; exact hlt
      have q1 := dRow_at l k hkl
      have q8 := ddRow_len l[k]
      obtain ⟨g2, o2, ha⟩ := Sl.cells hs.out (by intro e; have := congrArg List.length e; rw [dRow_len l] at this; simp at this; omega)
      subst ha
      have hrg := sl_range (hS.sl hs.out) q1
      have hbr : Boxed wr B 3 (.int .i64 id) := (hS.below.block B lt).trans hb.out
      have cX := Lib.hid (cD.out l[k] wr hbr)
      by_cases he : l[k].id = id
      · have hib : (l[k].id == id) = true := by rw [beq_iff_eq]; exact he
        rw [hib] at cX
        have hany : l.any (fun d => decide (d.id = id)) = true := List.any_eq_true.2 ⟨l[k], List.getElem_mem hkl, by simp [he]⟩
        replace hany := Lib.hid hany
        generalize ddRow l[k] = RW at *
        clear he
        go_wp2_with (first
          | (go_at_call 27; (with_reducible refine cX.out.mono ?_); rintro _ w9 ⟨rfl, hk9⟩; have hS1 := hS.keepB hk9; clear hk9 hS; have hS := hS1; clear hS1)
          | ((with_reducible refine wpList_rangerow (t := 74) (n := 3) hrg rfl rfl rfl (by kernel_rfl) (by kernel_rfl) q8 ?_)))
        go_ret
        exact ⟨⟨k, rfl, by rw [hany.out]; simp⟩, hS.below⟩
      · have hib : (l[k].id == id) = false := by rw [beq_eq_false_iff_ne]; exact he
        rw [hib] at cX
        have hnx : ∀ q ∈ l.take (k + 1), q.id ≠ id := by
          intro q hq
          rw [List.take_succ_eq_append_getElem hkl, List.mem_append] at hq
          rcases hq with hq | hq
          · exact hr.out q hq
          · simp at hq; subst hq; exact he
        replace hnx := Lib.hid hnx
        generalize ddRow l[k] = RW at *
        clear he
        go_wp2_with (first
          | (go_at_call 27; (with_reducible refine cX.out.mono ?_); rintro _ w9 ⟨rfl, hk9⟩; have hS1 := hS.keepB hk9; clear hk9 hS; have hS := hS1; clear hS1)
          | ((with_reducible refine wpList_rangerow (t := 74) (n := 3) hrg rfl rfl rfl (by kernel_rfl) (by kernel_rfl) q8 ?_)))
        go_roundg (n - (k + 1))
        case measure => omega
        case rel => exact ⟨k + 1, by omega, by go_num, hnx, hS⟩
    · obtain rfl : k = n := by omega
      have hr2 := hr.out
      rw [List.take_of_length_le (by rw [hn.out]; exact Nat.le_refl _)] at hr2
      have hany : l.any (fun d => decide (d.id = id)) = false := List.any_eq_false.2 fun d hd => by simpa using hr2 d hd
      replace hany := Lib.hid hany
      clear hr2 hr
      go_wp2_with fail
      go_ret
      exact ⟨⟨-1, rfl, by rw [hany.out]; rfl⟩, hS.below⟩
theorem contd_any (l : List Dd) (a : Option Addr) (n cap : Nat) (id : Int) (B : Nat) (hn : l.length = n) (hn1 : n ≤ 1000) (w : World) (hs : Sl w a (dRow l)) (hb : Boxed w B 3 (.int .i64 id)) :
    Calls Tryd.prog 26 #[.slice a n cap, .func (.func 27) #[] #[.pointer (some ⟨B, 0, none⟩)]] w fun e w' => e = .returned (.bool (l.any (fun d => decide (d.id = id)))) ∧ Below w.heap.size w w' := by
  have hS := St.start w
  have cI := idxd_any l a n cap id B hn hn1 w hs hb
  generalize (l.any (fun d => decide (d.id = id))) = r at cI ⊢
  replace cI := Lib.hid cI
  clear hs hb
  go_enter Tryd.func26, Tryd.ntmps26
  go_wp2_with (first
    | (go_at_call 50; (with_reducible refine cI.out.mono ?_); rintro _ w9 ⟨⟨q, rfl, hq⟩, hk9⟩; have hS1 := hS.keepB hk9; clear hk9 hS; have hS := hS1; clear hS1))
  go_ret
  exact ⟨rfl, hS.below⟩
/-- What Get tells. -/
def sgV (r : Cd × Int) : Value := .tuple #[.agg (cdRow r.1).toArray, .int .i64 r.2]
theorem sgV_eq (r : Cd × Int) : sgV r = .tuple #[.agg (cdRow r.1).toArray, .int .i64 r.2] := rfl
theorem dRow_one (l : List Dd) : ∀ u ∈ dRow l, u.oneCell' = true := by
  intro u hu
  simp only [dRow, List.mem_flatten, List.mem_map] at hu
  obtain ⟨_, ⟨d, _, rfl⟩, h⟩ := hu
  simp only [ddRow, List.mem_cons, List.not_mem_nil, or_false] at h
  rcases h with rfl | rfl | rfl <;> rfl
/-- What lies in a shelf's memory. -/
structure ShAt (w : World) (g gm : Nat) (s : ShS) (da : Option Addr) (dc : Nat) : Prop where
  c1 : w.cell? ⟨g, 1, none⟩ = some (.map (some gm))
  c2 : w.cell? ⟨g, 2, none⟩ = some (.slice da s.dead.length dc)
  im : IMap Tryd.prog 3 w gm s.m.length (cdM cdRow s.m)
  dl : Lst ddRow (fun _ => True) w da s.dead.length dc s.dead
theorem sget_any (g gm : Nat) (s : ShS) (da : Option Addr) (dc : Nat) (id : Int) (hid : I64 id) (w : World) (hA : ShAt w g gm s da dc) (hok : ShOk s) :
    Calls Tryd.prog 11 #[.pointer (some ⟨g, 0, none⟩), .int .i64 id] w fun e w' => e = .returned (sgV (s.get id)) ∧ Below w.heap.size w w' := by
  have hS := St.start w
  have ec := elem_card
  have hwk := wf_of_i64 hid
  obtain ⟨h1, h2, him, hdl⟩ := hA
  have cC := Lib.hid fun (B : Nat) (W : World) (hb : Below w.heap.size w W) (h : Boxed W B 3 (.int .i64 id)) => contd_any s.dead da s.dead.length dc id B rfl (by have := hok.dlen; omega) W (hdl.below hb).sl h
  have he : (cdM cdRow s.m id).getD (.agg (cdRow (Cd.none 0)).toArray) = .agg (cdRow (s.get id).1).toArray ∧ (cdM cdRow s.m id).isSome = decide ((s.get id).2 = 0) := by
    unfold cdM
    cases h : lookC s.m id with
    | none =>
      rw [get_none h]
      refine ⟨rfl, ?_⟩
      dsimp only
      split <;> rfl
    | some c =>
      rw [get_some h]
      exact ⟨rfl, rfl⟩
  obtain ⟨he1, he2⟩ := he
  have hE : (s.get id).2 = if decide ((s.get id).2 = 0) = true then 0 else if s.dead.any (fun d => decide (d.id = id)) = true then 9 else 6 := by
    cases h : lookC s.m id with
    | none =>
      rw [get_none h]
      dsimp only
      split <;> rfl
    | some c =>
      rw [get_some h]
      rfl
  have hZ : (decide ((s.get id).2 = 0) = false) → (s.get id).1 = Cd.none 0 := by
    intro hd
    cases h : lookC s.m id with
    | none => rw [get_none h]
    | some c =>
      rw [get_some h] at hd
      cases hd
  have hrl := cdRow_lenT _ (get_f hok id)
  have hro := cdRow_oneT (s.get id).1
  have hVt : decide ((s.get id).2 = 0) = true → sgV (s.get id) = .tuple #[.agg (cdRow (s.get id).1).toArray, .int .i64 0] := fun h => by rw [sgV_eq, of_decide_eq_true h]
  have hVf : decide ((s.get id).2 = 0) = false → sgV (s.get id) = .tuple #[.agg #[.int .i64 0, .int .i64 0, .int .u32 0, .int .i64 0, .int .i64 0, .string ⟨#[]⟩, .int .i64 0, .int .i64 0, .string ⟨#[]⟩, .int .i64 0, .int .i64 0, .string ⟨#[]⟩, .int .i64 0, .int .i64 0, .string ⟨#[]⟩, .int .i64 0, .int .i64 0, .string ⟨#[]⟩, .int .i64 0, .int .i64 0, .string ⟨#[]⟩, .int .i64 0, .int .i64 0, .string ⟨#[]⟩, .int .i64 0, .int .i64 0, .string ⟨#[]⟩], .int .i64 (if s.dead.any (fun d => decide (d.id = id)) = true then 9 else 6)] := fun h => by
    rw [h, if_neg (by decide)] at hE
    rw [sgV_eq, hZ h, hE]
    rfl
  have hsz : sizeB Tryd.prog 38 (cdRow (s.get id).1).toArray.size = true := by rw [List.size_toArray, hrl]; kernel_rfl
  have hrd : ((cdRow (s.get id).1).toArray.toList.drop 0).take 27 = cdRow (s.get id).1 := by simp [← hrl]
  replace him := Lib.hid him
  replace hid := Lib.hid hid
  replace hVt := Lib.hid hVt
  replace hVf := Lib.hid hVf
  clear hok hdl hE hZ
  generalize sgV (s.get id) = V at *
  generalize cdM cdRow s.m = M1 at *
  generalize cdRow (s.get id).1 = R at *
  generalize decide ((s.get id).2 = 0) = b at *
  generalize (s.dead.any fun d => decide (d.id = id)) = q at *
  generalize s.dead.length = dn at *
  go_enter Tryd.func11, Tryd.ntmps11
  go_wp2_with (first
    | (with_reducible refine wpList_box_st hS rfl rfl rfl ?_; intro g1 w1 hS1; clear hS; replace hS := hS1; clear hS1) | (with_reducible refine wpList_box1_st hS rfl rfl rfl ?_; intro g1 w1 hS1; clear hS; replace hS := hS1; clear hS1) | (with_reducible refine wpList_alloc_st hS rfl rfl (by assumption) ?_; intro g1 w1 hS1; clear hS; replace hS := hS1; clear hS1) | (with_reducible refine wpList_alloc1_st hS rfl rfl (by assumption) rfl ?_; intro g1 w1 hS1; clear hS; replace hS := hS1; clear hS1) | ((with_reducible refine wpList_load_st 0 hS rfl rfl rfl rfl ?_ rfl ?_); focus (simp [scalarB, go_sem]; done)) | ((with_reducible refine wpList_loadall_st 0 hS rfl rfl rfl rfl ?_ (by kernel_rfl) ?_); focus (simp [rowB, go_sem]; done)) | ((with_reducible refine wpList_store_st 0 hS rfl rfl rfl rfl (by kernel_rfl) rfl rfl ?_); intro w1 hS1; clear hS; replace hS := hS1; clear hS1; try simp only [List.set_cons_zero, List.set_cons_succ, List.setIfInBounds_toArray, List.take_succ_cons, List.take_zero, List.drop_succ_cons, List.drop_zero, List.nil_append, List.cons_append, List.append_nil, List.drop_nil, List.take_nil, List.length_cons, List.length_nil, Nat.zero_add, Nat.add_zero, Nat.reduceAdd] at hS) | ((with_reducible refine wpList_storerow_st 0 hS rfl rfl rfl rfl (by kernel_rfl) rfl rfl rfl rfl ?_); intro w1 hS1; clear hS; replace hS := hS1; clear hS1; try simp only [List.set_cons_zero, List.set_cons_succ, List.setIfInBounds_toArray, List.take_succ_cons, List.take_zero, List.drop_succ_cons, List.drop_zero, List.nil_append, List.cons_append, List.append_nil, List.drop_nil, List.take_nil, List.length_cons, List.length_nil, Nat.zero_add, Nat.add_zero, Nat.reduceAdd] at hS) | ((with_reducible refine wpList_load_st 1 hS rfl rfl rfl rfl ?_ rfl ?_); focus (simp [scalarB, go_sem]; done)) | ((with_reducible refine wpList_loadall_st 1 hS rfl rfl rfl rfl ?_ (by kernel_rfl) ?_); focus (simp [rowB, go_sem]; done)) | ((with_reducible refine wpList_store_st 1 hS rfl rfl rfl rfl (by kernel_rfl) rfl rfl ?_); intro w1 hS1; clear hS; replace hS := hS1; clear hS1; try simp only [List.set_cons_zero, List.set_cons_succ, List.setIfInBounds_toArray, List.take_succ_cons, List.take_zero, List.drop_succ_cons, List.drop_zero, List.nil_append, List.cons_append, List.append_nil, List.drop_nil, List.take_nil, List.length_cons, List.length_nil, Nat.zero_add, Nat.add_zero, Nat.reduceAdd] at hS) | ((with_reducible refine wpList_storerow_st 1 hS rfl rfl rfl rfl (by kernel_rfl) rfl rfl rfl rfl ?_); intro w1 hS1; clear hS; replace hS := hS1; clear hS1; try simp only [List.set_cons_zero, List.set_cons_succ, List.setIfInBounds_toArray, List.take_succ_cons, List.take_zero, List.drop_succ_cons, List.drop_zero, List.nil_append, List.cons_append, List.append_nil, List.drop_nil, List.take_nil, List.length_cons, List.length_nil, Nat.zero_add, Nat.add_zero, Nat.reduceAdd] at hS))
  have kb := hS.kblk 1 rfl
  have k1 := hS.kold0 h1
  refine mixs_begin (by kernel_rfl) hS ?_
  clear hS
  intro w2 hS
  refine mixs_take 0 (v := ?_) rfl (by kernel_rfl) (fun _ _ _ h => h) (by kernel_rfl) (by assumption) (fun s => ?hy) ?_; case hy => (go_simp <;> with_reducible rfl)
  try simp only [List.getElem_toArray, List.getElem_cons_succ, List.getElem_cons_zero, Act.put, List.setIfInBounds_toArray, List.set_cons_zero, List.set_cons_succ]
  refine mixs_take 1 (v := ?_) rfl (by kernel_rfl) (fun _ _ _ h => h) (by kernel_rfl) (by assumption) (fun s => ?hy) ?_; case hy => (go_simp <;> with_reducible rfl)
  try simp only [List.getElem_toArray, List.getElem_cons_succ, List.getElem_cons_zero, Act.put, List.setIfInBounds_toArray, List.set_cons_zero, List.set_cons_succ]
  refine mixs_take 2 (v := ?_) rfl (by kernel_rfl) (fun _ _ _ h => h) (by kernel_rfl) (by assumption) (fun s => ?hy) ?_; case hy => (go_simp <;> with_reducible rfl)
  try simp only [List.getElem_toArray, List.getElem_cons_succ, List.getElem_cons_zero, Act.put, List.setIfInBounds_toArray, List.set_cons_zero, List.set_cons_succ]
  refine mixs_take 3 (v := ?_) rfl (by kernel_rfl) (fun _ _ _ h => h) (by kernel_rfl) (by assumption) (fun s => ?hy) ?_; case hy => (go_simp <;> with_reducible rfl)
  try simp only [List.getElem_toArray, List.getElem_cons_succ, List.getElem_cons_zero, Act.put, List.setIfInBounds_toArray, List.set_cons_zero, List.set_cons_succ]
  refine mixs_take 4 (v := ?_) rfl (by kernel_rfl) (fun _ _ _ h => h) (by kernel_rfl) (by assumption) (fun s => ?hy) ?_; case hy => (go_simp <;> with_reducible rfl)
  try simp only [List.getElem_toArray, List.getElem_cons_succ, List.getElem_cons_zero, Act.put, List.setIfInBounds_toArray, List.set_cons_zero, List.set_cons_succ]
  refine mixs_two 5 9 (by kernel_rfl) rfl rfl (fun K hK => ?_) (fun K hK => ?_)
  ·
    ( first | (refine op_lookok_im (k := 3) (by kernel_rfl) (him.out.below hS.below) rfl rfl rfl Tryd.underlying3 Tryd.underlying61 zero_card hwk ?_; rw [he1, he2]) | (refine op_storerow_st (vs := R) (n := 27) (by kernel_rfl) 0 hS rfl rfl rfl (by kernel_rfl) rfl hrl hro rfl ?_; intro w1 hS1; clear hS; have hS := hS1; clear hS1; try simp only [List.set_cons_zero, List.set_cons_succ, List.setIfInBounds_toArray, List.take_succ_cons, List.take_zero, List.drop_succ_cons, List.drop_zero, List.nil_append, List.cons_append, List.append_nil, List.drop_nil, List.take_nil, List.length_cons, List.length_nil, Nat.zero_add, Nat.add_zero, Nat.reduceAdd] at hS) )
    try clear hC
    refine hK.out _ _ _ (fun _ h => h) (by first | exact hS | exact hS.drop | exact hS.drop.drop | exact hS.drop.drop.drop | exact hS.drop.drop.drop.drop | exact hS.empty | exact hS.one 0 rfl | exact hS.one 1 rfl | exact hS.one 2 rfl | exact hS.one 3 rfl | exact hS.one 4 rfl | exact hS.one 5 rfl | exact hS.one 6 rfl | exact hS.one 7 rfl | exact hS.one 8 rfl | exact hS.one 9 rfl | exact hS.one 10 rfl | exact hS.one 11 rfl) (fun hC => ?_)
    clear hK K
    try simp only [List.getElem_toArray, List.getElem_cons_succ, List.getElem_cons_zero, Act.put, List.setIfInBounds_toArray, List.set_cons_zero, List.set_cons_succ]
    refine mixs_take 6 (v := ?_) rfl (by kernel_rfl) (fun _ _ _ h => h) (by kernel_rfl) (by assumption) (fun s => ?hy) ?_; case hy => (go_simp <;> with_reducible rfl)
    try simp only [List.getElem_toArray, List.getElem_cons_succ, List.getElem_cons_zero, Act.put, List.setIfInBounds_toArray, List.set_cons_zero, List.set_cons_succ]
    refine mixs_take 7 (v := ?_) rfl (by kernel_rfl) (fun _ _ _ h => h) (by kernel_rfl) (by assumption) (fun s => ?hy) ?_; case hy => (go_simp <;> with_reducible rfl)
    try simp only [List.getElem_toArray, List.getElem_cons_succ, List.getElem_cons_zero, Act.put, List.setIfInBounds_toArray, List.set_cons_zero, List.set_cons_succ]
    refine mixs_take 8 (v := ?_) rfl (by kernel_rfl) (fun _ _ _ h => h) (by kernel_rfl) (by assumption) (fun s => ?hy) ?_; case hy => (go_simp <;> with_reducible rfl)
    try simp only [List.getElem_toArray, List.getElem_cons_succ, List.getElem_cons_zero, Act.put, List.setIfInBounds_toArray, List.set_cons_zero, List.set_cons_succ]
    refine mixs_one 9 (by kernel_rfl) rfl (fun K hK => ?_)
    refine op_alloc_st (by kernel_rfl) rfl (by assumption) hS ?_
    intro g1 w1 hS1; clear hS; have hS := hS1; clear hS1
    try clear hC
    refine hK.out _ _ _ (fun _ h => h) (by first | exact hS | exact hS.drop | exact hS.drop.drop | exact hS.drop.drop.drop | exact hS.drop.drop.drop.drop | exact hS.empty | exact hS.one 0 rfl | exact hS.one 1 rfl | exact hS.one 2 rfl | exact hS.one 3 rfl | exact hS.one 4 rfl | exact hS.one 5 rfl | exact hS.one 6 rfl | exact hS.one 7 rfl | exact hS.one 8 rfl | exact hS.one 9 rfl | exact hS.one 10 rfl | exact hS.one 11 rfl) (fun hC => ?_)
    clear hK K
    try simp only [List.getElem_toArray, List.getElem_cons_succ, List.getElem_cons_zero, Act.put, List.setIfInBounds_toArray, List.set_cons_zero, List.set_cons_succ]
    refine mixs_one 10 (by kernel_rfl) rfl (fun K hK => ?_)
    ( first | (refine op_lookok_im (k := 3) (by kernel_rfl) (him.out.below hS.below) rfl rfl rfl Tryd.underlying3 Tryd.underlying61 zero_card hwk ?_; rw [he1, he2]) | (refine op_storerow_st (vs := R) (n := 27) (by kernel_rfl) 0 hS rfl rfl rfl (by kernel_rfl) rfl hrl hro rfl ?_; intro w1 hS1; clear hS; have hS := hS1; clear hS1; try simp only [List.set_cons_zero, List.set_cons_succ, List.setIfInBounds_toArray, List.take_succ_cons, List.take_zero, List.drop_succ_cons, List.drop_zero, List.nil_append, List.cons_append, List.append_nil, List.drop_nil, List.take_nil, List.length_cons, List.length_nil, Nat.zero_add, Nat.add_zero, Nat.reduceAdd] at hS) )
    try clear hC
    refine hK.out _ _ _ (fun _ h => h) (by first | exact hS | exact hS.drop | exact hS.drop.drop | exact hS.drop.drop.drop | exact hS.drop.drop.drop.drop | exact hS.empty | exact hS.one 0 rfl | exact hS.one 1 rfl | exact hS.one 2 rfl | exact hS.one 3 rfl | exact hS.one 4 rfl | exact hS.one 5 rfl | exact hS.one 6 rfl | exact hS.one 7 rfl | exact hS.one 8 rfl | exact hS.one 9 rfl | exact hS.one 10 rfl | exact hS.one 11 rfl) (fun hC => ?_)
    clear hK K
    try simp only [List.getElem_toArray, List.getElem_cons_succ, List.getElem_cons_zero, Act.put, List.setIfInBounds_toArray, List.set_cons_zero, List.set_cons_succ]
    refine mixs_take 11 (v := ?_) rfl (by kernel_rfl) (fun _ _ _ h => h) (by kernel_rfl) (by assumption) (fun s => ?hy) ?_; case hy => (go_simp <;> with_reducible rfl)
    try simp only [List.getElem_toArray, List.getElem_cons_succ, List.getElem_cons_zero, Act.put, List.setIfInBounds_toArray, List.set_cons_zero, List.set_cons_succ]
    refine wpAnyH_done (by kernel_rfl) ?_ _
    clear kb k1
    cases b
    · replace hVf := Lib.hid (hVf.out (by trivial))
      clear hVt
      have c2 := hS.old h2 (by simp)
      cases q
      ·
        go_wp2_with (first
          | (go_at_call 26; (with_reducible refine (cC.out _ _ hS.below (hS.get 2 rfl)).mono ?_); rintro _ w9 ⟨rfl, hk9⟩; have hS1 := hS.keepB hk9; clear hk9 hS; have hS := hS1; clear hS1)
          | ((with_reducible refine wpList_storerow_st (t := 38) (n := 27) (vs := [.int .i64 0, .int .i64 0, .int .u32 0, .int .i64 0, .int .i64 0, .string ⟨#[]⟩, .int .i64 0, .int .i64 0, .string ⟨#[]⟩, .int .i64 0, .int .i64 0, .string ⟨#[]⟩, .int .i64 0, .int .i64 0, .string ⟨#[]⟩, .int .i64 0, .int .i64 0, .string ⟨#[]⟩, .int .i64 0, .int .i64 0, .string ⟨#[]⟩, .int .i64 0, .int .i64 0, .string ⟨#[]⟩, .int .i64 0, .int .i64 0, .string ⟨#[]⟩]) 1 hS rfl rfl rfl rfl (by kernel_rfl) rfl rfl rfl (by kernel_rfl) ?_); intro w1 hS1; clear hS; have hS := hS1; clear hS1; try simp only [List.set_cons_zero, List.set_cons_succ, List.setIfInBounds_toArray, List.take_succ_cons, List.take_zero, List.drop_succ_cons, List.drop_zero, List.nil_append, List.cons_append, List.append_nil, List.drop_nil, List.take_nil, List.length_cons, List.length_nil, Nat.zero_add, Nat.add_zero, Nat.reduceAdd] at hS))
        rw [hVf.out]
        exact bodyPost_ret (v := .tuple #[.agg #[.int .i64 0, .int .i64 0, .int .u32 0, .int .i64 0, .int .i64 0, .string ⟨#[]⟩, .int .i64 0, .int .i64 0, .string ⟨#[]⟩, .int .i64 0, .int .i64 0, .string ⟨#[]⟩, .int .i64 0, .int .i64 0, .string ⟨#[]⟩, .int .i64 0, .int .i64 0, .string ⟨#[]⟩, .int .i64 0, .int .i64 0, .string ⟨#[]⟩, .int .i64 0, .int .i64 0, .string ⟨#[]⟩, .int .i64 0, .int .i64 0, .string ⟨#[]⟩], .int .i64 6]) (results_blk_tmp Tryd.results11 rfl hS 1 rfl (by kernel_rfl) (by kernel_rfl) rfl) rfl ⟨rfl, hS.below⟩
      ·
        go_wp2_with (first
          | (go_at_call 26; (with_reducible refine (cC.out _ _ hS.below (hS.get 2 rfl)).mono ?_); rintro _ w9 ⟨rfl, hk9⟩; have hS1 := hS.keepB hk9; clear hk9 hS; have hS := hS1; clear hS1)
          | ((with_reducible refine wpList_storerow_st (t := 38) (n := 27) (vs := [.int .i64 0, .int .i64 0, .int .u32 0, .int .i64 0, .int .i64 0, .string ⟨#[]⟩, .int .i64 0, .int .i64 0, .string ⟨#[]⟩, .int .i64 0, .int .i64 0, .string ⟨#[]⟩, .int .i64 0, .int .i64 0, .string ⟨#[]⟩, .int .i64 0, .int .i64 0, .string ⟨#[]⟩, .int .i64 0, .int .i64 0, .string ⟨#[]⟩, .int .i64 0, .int .i64 0, .string ⟨#[]⟩, .int .i64 0, .int .i64 0, .string ⟨#[]⟩]) 1 hS rfl rfl rfl rfl (by kernel_rfl) rfl rfl rfl (by kernel_rfl) ?_); intro w1 hS1; clear hS; have hS := hS1; clear hS1; try simp only [List.set_cons_zero, List.set_cons_succ, List.setIfInBounds_toArray, List.take_succ_cons, List.take_zero, List.drop_succ_cons, List.drop_zero, List.nil_append, List.cons_append, List.append_nil, List.drop_nil, List.take_nil, List.length_cons, List.length_nil, Nat.zero_add, Nat.add_zero, Nat.reduceAdd] at hS))
        rw [hVf.out]
        exact bodyPost_ret (v := .tuple #[.agg #[.int .i64 0, .int .i64 0, .int .u32 0, .int .i64 0, .int .i64 0, .string ⟨#[]⟩, .int .i64 0, .int .i64 0, .string ⟨#[]⟩, .int .i64 0, .int .i64 0, .string ⟨#[]⟩, .int .i64 0, .int .i64 0, .string ⟨#[]⟩, .int .i64 0, .int .i64 0, .string ⟨#[]⟩, .int .i64 0, .int .i64 0, .string ⟨#[]⟩, .int .i64 0, .int .i64 0, .string ⟨#[]⟩, .int .i64 0, .int .i64 0, .string ⟨#[]⟩], .int .i64 9]) (results_blk_tmp Tryd.results11 rfl hS 1 rfl (by kernel_rfl) (by kernel_rfl) rfl) rfl ⟨rfl, hS.below⟩
    · replace hVt := Lib.hid (hVt.out (by trivial))
      clear hVf
      go_wp2_with (first
        | ((with_reducible refine wpList_loadrow_st (t := 38) (n := 27) (j := 0) (vs := R) 0 hS rfl rfl rfl rfl (by kernel_rfl) (by kernel_rfl) hrd hrl ?_))
        | ((with_reducible refine wpList_storerow_st (t := 38) (n := 27) (vs := R) 1 hS rfl rfl rfl rfl (by kernel_rfl) rfl hrl hro (by kernel_rfl) ?_); intro w1 hS1; clear hS; have hS := hS1; clear hS1; try simp only [List.set_cons_zero, List.set_cons_succ, List.setIfInBounds_toArray, List.take_succ_cons, List.take_zero, List.drop_succ_cons, List.drop_zero, List.nil_append, List.cons_append, List.append_nil, List.drop_nil, List.take_nil, List.length_cons, List.length_nil, Nat.zero_add, Nat.add_zero, Nat.reduceAdd] at hS))
      rw [hVt.out]
      exact bodyPost_ret (v := .tuple #[.agg R.toArray, .int .i64 0]) (results_blk_tmp Tryd.results11 rfl hS 1 rfl (by kernel_rfl) hsz rfl) rfl ⟨rfl, hS.below⟩
  ·
    refine op_alloc_st (by kernel_rfl) rfl (by assumption) hS ?_
    intro g1 w1 hS1; clear hS; have hS := hS1; clear hS1
    try clear hC
    refine hK.out _ _ _ (fun _ h => h) (by first | exact hS | exact hS.drop | exact hS.drop.drop | exact hS.drop.drop.drop | exact hS.drop.drop.drop.drop | exact hS.empty | exact hS.one 0 rfl | exact hS.one 1 rfl | exact hS.one 2 rfl | exact hS.one 3 rfl | exact hS.one 4 rfl | exact hS.one 5 rfl | exact hS.one 6 rfl | exact hS.one 7 rfl | exact hS.one 8 rfl | exact hS.one 9 rfl | exact hS.one 10 rfl | exact hS.one 11 rfl) (fun hC => ?_)
    clear hK K
    try simp only [List.getElem_toArray, List.getElem_cons_succ, List.getElem_cons_zero, Act.put, List.setIfInBounds_toArray, List.set_cons_zero, List.set_cons_succ]
    refine mixs_one 5 (by kernel_rfl) rfl (fun K hK => ?_)
    ( first | (refine op_lookok_im (k := 3) (by kernel_rfl) (him.out.below hS.below) rfl rfl rfl Tryd.underlying3 Tryd.underlying61 zero_card hwk ?_; rw [he1, he2]) | (refine op_storerow_st (vs := R) (n := 27) (by kernel_rfl) 0 hS rfl rfl rfl (by kernel_rfl) rfl hrl hro rfl ?_; intro w1 hS1; clear hS; have hS := hS1; clear hS1; try simp only [List.set_cons_zero, List.set_cons_succ, List.setIfInBounds_toArray, List.take_succ_cons, List.take_zero, List.drop_succ_cons, List.drop_zero, List.nil_append, List.cons_append, List.append_nil, List.drop_nil, List.take_nil, List.length_cons, List.length_nil, Nat.zero_add, Nat.add_zero, Nat.reduceAdd] at hS) )
    try clear hC
    refine hK.out _ _ _ (fun _ h => h) (by first | exact hS | exact hS.drop | exact hS.drop.drop | exact hS.drop.drop.drop | exact hS.drop.drop.drop.drop | exact hS.empty | exact hS.one 0 rfl | exact hS.one 1 rfl | exact hS.one 2 rfl | exact hS.one 3 rfl | exact hS.one 4 rfl | exact hS.one 5 rfl | exact hS.one 6 rfl | exact hS.one 7 rfl | exact hS.one 8 rfl | exact hS.one 9 rfl | exact hS.one 10 rfl | exact hS.one 11 rfl) (fun hC => ?_)
    clear hK K
    try simp only [List.getElem_toArray, List.getElem_cons_succ, List.getElem_cons_zero, Act.put, List.setIfInBounds_toArray, List.set_cons_zero, List.set_cons_succ]
    refine mixs_take 6 (v := ?_) rfl (by kernel_rfl) (fun _ _ _ h => h) (by kernel_rfl) (by assumption) (fun s => ?hy) ?_; case hy => (go_simp <;> with_reducible rfl)
    try simp only [List.getElem_toArray, List.getElem_cons_succ, List.getElem_cons_zero, Act.put, List.setIfInBounds_toArray, List.set_cons_zero, List.set_cons_succ]
    refine mixs_take 7 (v := ?_) rfl (by kernel_rfl) (fun _ _ _ h => h) (by kernel_rfl) (by assumption) (fun s => ?hy) ?_; case hy => (go_simp <;> with_reducible rfl)
    try simp only [List.getElem_toArray, List.getElem_cons_succ, List.getElem_cons_zero, Act.put, List.setIfInBounds_toArray, List.set_cons_zero, List.set_cons_succ]
    refine mixs_take 8 (v := ?_) rfl (by kernel_rfl) (fun _ _ _ h => h) (by kernel_rfl) (by assumption) (fun s => ?hy) ?_; case hy => (go_simp <;> with_reducible rfl)
    try simp only [List.getElem_toArray, List.getElem_cons_succ, List.getElem_cons_zero, Act.put, List.setIfInBounds_toArray, List.set_cons_zero, List.set_cons_succ]
    refine mixs_one 10 (by kernel_rfl) rfl (fun K hK => ?_)
    ( first | (refine op_lookok_im (k := 3) (by kernel_rfl) (him.out.below hS.below) rfl rfl rfl Tryd.underlying3 Tryd.underlying61 zero_card hwk ?_; rw [he1, he2]) | (refine op_storerow_st (vs := R) (n := 27) (by kernel_rfl) 0 hS rfl rfl rfl (by kernel_rfl) rfl hrl hro rfl ?_; intro w1 hS1; clear hS; have hS := hS1; clear hS1; try simp only [List.set_cons_zero, List.set_cons_succ, List.setIfInBounds_toArray, List.take_succ_cons, List.take_zero, List.drop_succ_cons, List.drop_zero, List.nil_append, List.cons_append, List.append_nil, List.drop_nil, List.take_nil, List.length_cons, List.length_nil, Nat.zero_add, Nat.add_zero, Nat.reduceAdd] at hS) )
    try clear hC
    refine hK.out _ _ _ (fun _ h => h) (by first | exact hS | exact hS.drop | exact hS.drop.drop | exact hS.drop.drop.drop | exact hS.drop.drop.drop.drop | exact hS.empty | exact hS.one 0 rfl | exact hS.one 1 rfl | exact hS.one 2 rfl | exact hS.one 3 rfl | exact hS.one 4 rfl | exact hS.one 5 rfl | exact hS.one 6 rfl | exact hS.one 7 rfl | exact hS.one 8 rfl | exact hS.one 9 rfl | exact hS.one 10 rfl | exact hS.one 11 rfl) (fun hC => ?_)
    clear hK K
    try simp only [List.getElem_toArray, List.getElem_cons_succ, List.getElem_cons_zero, Act.put, List.setIfInBounds_toArray, List.set_cons_zero, List.set_cons_succ]
    refine mixs_take 11 (v := ?_) rfl (by kernel_rfl) (fun _ _ _ h => h) (by kernel_rfl) (by assumption) (fun s => ?hy) ?_; case hy => (go_simp <;> with_reducible rfl)
    try simp only [List.getElem_toArray, List.getElem_cons_succ, List.getElem_cons_zero, Act.put, List.setIfInBounds_toArray, List.set_cons_zero, List.set_cons_succ]
    refine wpAnyH_done (by kernel_rfl) ?_ _
    clear kb k1
    cases b
    · replace hVf := Lib.hid (hVf.out (by trivial))
      clear hVt
      have c2 := hS.old h2 (by simp)
      cases q
      ·
        go_wp2_with (first
          | (go_at_call 26; (with_reducible refine (cC.out _ _ hS.below (hS.get 2 rfl)).mono ?_); rintro _ w9 ⟨rfl, hk9⟩; have hS1 := hS.keepB hk9; clear hk9 hS; have hS := hS1; clear hS1)
          | ((with_reducible refine wpList_storerow_st (t := 38) (n := 27) (vs := [.int .i64 0, .int .i64 0, .int .u32 0, .int .i64 0, .int .i64 0, .string ⟨#[]⟩, .int .i64 0, .int .i64 0, .string ⟨#[]⟩, .int .i64 0, .int .i64 0, .string ⟨#[]⟩, .int .i64 0, .int .i64 0, .string ⟨#[]⟩, .int .i64 0, .int .i64 0, .string ⟨#[]⟩, .int .i64 0, .int .i64 0, .string ⟨#[]⟩, .int .i64 0, .int .i64 0, .string ⟨#[]⟩, .int .i64 0, .int .i64 0, .string ⟨#[]⟩]) 1 hS rfl rfl rfl rfl (by kernel_rfl) rfl rfl rfl (by kernel_rfl) ?_); intro w1 hS1; clear hS; have hS := hS1; clear hS1; try simp only [List.set_cons_zero, List.set_cons_succ, List.setIfInBounds_toArray, List.take_succ_cons, List.take_zero, List.drop_succ_cons, List.drop_zero, List.nil_append, List.cons_append, List.append_nil, List.drop_nil, List.take_nil, List.length_cons, List.length_nil, Nat.zero_add, Nat.add_zero, Nat.reduceAdd] at hS))
        rw [hVf.out]
        exact bodyPost_ret (v := .tuple #[.agg #[.int .i64 0, .int .i64 0, .int .u32 0, .int .i64 0, .int .i64 0, .string ⟨#[]⟩, .int .i64 0, .int .i64 0, .string ⟨#[]⟩, .int .i64 0, .int .i64 0, .string ⟨#[]⟩, .int .i64 0, .int .i64 0, .string ⟨#[]⟩, .int .i64 0, .int .i64 0, .string ⟨#[]⟩, .int .i64 0, .int .i64 0, .string ⟨#[]⟩, .int .i64 0, .int .i64 0, .string ⟨#[]⟩, .int .i64 0, .int .i64 0, .string ⟨#[]⟩], .int .i64 6]) (results_blk_tmp Tryd.results11 rfl hS 1 rfl (by kernel_rfl) (by kernel_rfl) rfl) rfl ⟨rfl, hS.below⟩
      ·
        go_wp2_with (first
          | (go_at_call 26; (with_reducible refine (cC.out _ _ hS.below (hS.get 2 rfl)).mono ?_); rintro _ w9 ⟨rfl, hk9⟩; have hS1 := hS.keepB hk9; clear hk9 hS; have hS := hS1; clear hS1)
          | ((with_reducible refine wpList_storerow_st (t := 38) (n := 27) (vs := [.int .i64 0, .int .i64 0, .int .u32 0, .int .i64 0, .int .i64 0, .string ⟨#[]⟩, .int .i64 0, .int .i64 0, .string ⟨#[]⟩, .int .i64 0, .int .i64 0, .string ⟨#[]⟩, .int .i64 0, .int .i64 0, .string ⟨#[]⟩, .int .i64 0, .int .i64 0, .string ⟨#[]⟩, .int .i64 0, .int .i64 0, .string ⟨#[]⟩, .int .i64 0, .int .i64 0, .string ⟨#[]⟩, .int .i64 0, .int .i64 0, .string ⟨#[]⟩]) 1 hS rfl rfl rfl rfl (by kernel_rfl) rfl rfl rfl (by kernel_rfl) ?_); intro w1 hS1; clear hS; have hS := hS1; clear hS1; try simp only [List.set_cons_zero, List.set_cons_succ, List.setIfInBounds_toArray, List.take_succ_cons, List.take_zero, List.drop_succ_cons, List.drop_zero, List.nil_append, List.cons_append, List.append_nil, List.drop_nil, List.take_nil, List.length_cons, List.length_nil, Nat.zero_add, Nat.add_zero, Nat.reduceAdd] at hS))
        rw [hVf.out]
        exact bodyPost_ret (v := .tuple #[.agg #[.int .i64 0, .int .i64 0, .int .u32 0, .int .i64 0, .int .i64 0, .string ⟨#[]⟩, .int .i64 0, .int .i64 0, .string ⟨#[]⟩, .int .i64 0, .int .i64 0, .string ⟨#[]⟩, .int .i64 0, .int .i64 0, .string ⟨#[]⟩, .int .i64 0, .int .i64 0, .string ⟨#[]⟩, .int .i64 0, .int .i64 0, .string ⟨#[]⟩, .int .i64 0, .int .i64 0, .string ⟨#[]⟩, .int .i64 0, .int .i64 0, .string ⟨#[]⟩], .int .i64 9]) (results_blk_tmp Tryd.results11 rfl hS 1 rfl (by kernel_rfl) (by kernel_rfl) rfl) rfl ⟨rfl, hS.below⟩
    · replace hVt := Lib.hid (hVt.out (by trivial))
      clear hVf
      go_wp2_with (first
        | ((with_reducible refine wpList_loadrow_st (t := 38) (n := 27) (j := 0) (vs := R) 0 hS rfl rfl rfl rfl (by kernel_rfl) (by kernel_rfl) hrd hrl ?_))
        | ((with_reducible refine wpList_storerow_st (t := 38) (n := 27) (vs := R) 1 hS rfl rfl rfl rfl (by kernel_rfl) rfl hrl hro (by kernel_rfl) ?_); intro w1 hS1; clear hS; have hS := hS1; clear hS1; try simp only [List.set_cons_zero, List.set_cons_succ, List.setIfInBounds_toArray, List.take_succ_cons, List.take_zero, List.drop_succ_cons, List.drop_zero, List.nil_append, List.cons_append, List.append_nil, List.drop_nil, List.take_nil, List.length_cons, List.length_nil, Nat.zero_add, Nat.add_zero, Nat.reduceAdd] at hS))
      rw [hVt.out]
      exact bodyPost_ret (v := .tuple #[.agg R.toArray, .int .i64 0]) (results_blk_tmp Tryd.results11 rfl hS 1 rfl (by kernel_rfl) hsz rfl) rfl ⟨rfl, hS.below⟩
end Go.Proofs.YtneolmnpebiifaaDoor
end

section
/- The shelf: Cards, Dead, Trim. -/
set_option linter.unusedSimpArgs false
set_option linter.unusedVariables false
namespace Go.Proofs.YtneolmnpebiifaaDoor
open Go.RowKit Go.Ofp
set_option linter.unusedVariables false
set_option maxRecDepth 100000
set_option maxHeartbeats 4000000
theorem csorted_sh {w0 w : World} {F : List Nat} {L : List Ch} (i : Nat) {B b n : Nat} {f : Int → Option Value} (hS : St w0 F L w) (hi : L[i]? = some (Ch.blk B 61 #[.map (some b)])) (hk : IMap Tryd.prog 3 w b n f) (hn : n ≤ 100000) :
    Calls Tryd.prog 22 #[.func (.func 46) #[] #[.pointer (some ⟨B, 0, none⟩)]] w fun e w' => ∃ v ks, e = .returned v ∧ Hid (IsKeys f ks) ∧ Hid (ks.length ≤ n) ∧ St w [] [Ch.row 3 1 v ks.length (ks.map vi)] w' :=
  (csorted_any B b n f w (by rw [hS.cell i hi]; rfl) hk hn).mono fun e w' ⟨v, ks, h1, h2, h3, h4, h5⟩ => ⟨v, ks, h1, Lib.hid h2, Lib.hid h3, (St.start w).freshB h4 h5⟩
theorem scards_any (g gm n : Nat) (M : List Cd) (w : World) (h6 : w.cell? ⟨g, 1, none⟩ = some (.map (some gm))) (him : IMap Tryd.prog 3 w gm n (cdM cdRow M)) (hr : RisC M) (hok : ∀ c ∈ M, CdOk c) (hn : n ≤ 50000) :
    Calls Tryd.prog 9 #[.pointer (some ⟨g, 0, none⟩)] w fun e w' => ∃ a c, e = .returned (.slice a M.length c) ∧ St w [] [Ch.row 38 27 (.slice a M.length c) M.length (M.map cdRow).flatten] w' := by
  have hS := St.start w
  have ec := elem_card
  have cK := Lib.hid fun (mb : Option Nat) (W : World) => ckeys_st mb W
  replace him := Lib.hid him
  replace hr := Lib.hid hr
  replace hok := Lib.hid hok
  have hq2 : n ≤ 100000 := by omega
  go_enter Tryd.func9, Tryd.ntmps9
  go_wp2_with (first
    | (go_at_call 23; (with_reducible refine (cK.out _ _).mono ?_); rintro _ w3 ⟨B, rfl, hk3⟩; have hS1 := hS.made hk3; clear hS hk3; have hS : St w [] [Ch.blk B 61 #[.map (some gm)]] w3 := hS1; clear hS1)
    | (go_at_call 22; (with_reducible refine (csorted_sh 0 hS rfl (him.out.below hS.below) hq2).mono ?_); rintro _ w4 ⟨vk, ks, rfl, hks, hkl, hk4⟩; obtain ⟨ak, ck, rfl, -⟩ := hk4.row 0 rfl; have hS1 := hS.made hk4; clear hS hk4; have hS : St w [] [Ch.row 3 1 (.slice ak ks.length ck) ks.length (ks.map vi), Ch.blk B 61 #[.map (some gm)]] w4 := hS1; clear hS1))
  have hki := Lib.hid (cdM_keys hr.out (fun c hc => wf_of_i64 (hok.out c hc).id) hks.out)
  have hkM := Lib.hid (show ks.length = M.length by rw [hki.out, List.length_map])
  have hS1 := hS.drop1.nilrow 38 27
  clear hS
  have hS := hS1
  clear hS1
  go_loopg [3, 15] ks.length (fun gk vo vx wr => ∃ (z : Nat) (ao : Option Addr) (co : Nat), z + gk = ks.length ∧ vx = .int .i64 z ∧ vo = .slice ao z co ∧ St w [] [Ch.row 38 27 (.slice ao z co) z ((M.take z).map cdRow).flatten, Ch.row 3 1 (.slice ak ks.length ck) ks.length (ks.map vi)] wr)
  case atStart => exact ⟨0, none, 0, Nat.zero_add _, rfl, rfl, hS⟩
  case round =>
    clear hS
    obtain ⟨z, ao, co, hz, rfl, rfl, hS⟩ := hrel
    by_cases hlt : z < ks.length
    · obtain ⟨bk, ok, rfl, hck⟩ := sl_int (hS.rowsl 1 rfl) z hlt
      have hzM : z < M.length := by rw [← hkM.out]; exact hlt
      have hkz : ks[z] = M[z].id := by
        have := hki.out
        subst this
        simp
      have he1 := cdM_at (row := cdRow) hr.out (List.getElem_mem hzM)
      rw [← hkz] at he1
      have hwk : (Lit.int .i64 ks[z]).wf = true := by rw [hkz]; exact wf_of_i64 (hok.out _ (List.getElem_mem hzM)).id
      have hil : (cdRow M[z]).length = 27 := cdRow_lenT _ (hok.out _ (List.getElem_mem hzM)).f
      have hio1 := cdRow_oneT M[z]
      have hz1 : z ≤ 60000 := by have := hkl.out; omega
      have hnx : ((M.take (z + 1)).map cdRow).flatten = ((M.take z).map cdRow).flatten ++ cdRow M[z] := by rw [List.take_succ_eq_append_getElem hzM, List.map_append, List.flatten_append]; rw [List.map_cons, List.map_nil, List.flatten_cons, List.flatten_nil, List.append_nil]
      replace hnx := Lib.hid hnx
      have c6 := hS.old h6 (by simp)
      generalize cdM cdRow M = M1 at *
      clear hkz
      generalize cdRow M[z] = RI at *
      go_wp2_with (first
        | ((with_reducible refine wpList_look_im (k := 3) (him.out.below hS.below) rfl rfl rfl rfl Tryd.underlying3 Tryd.underlying61 zero_card hwk ?_); rw [he1]; simp only [Option.getD_some])
        | (refine wpList_of_op fun K hK => op_build1_st (by with_unfolding_all rfl) hS rfl Tryd.underlying35 ec (cs := RI.toArray) rfl (by simp [hil]) (by decide) ?_; intro g3 w3 hS1; refine hK _ _ ?_; clear hK hS; have hS := hS1; clear hS1)
        | ((with_reducible refine wpList_app_st (news := RI) (m := 1) 1 hS rfl rfl rfl Tryd.underlying35 ec rfl (Src.slice Tryd.underlying35 (hS.blksl2 0 rfl) (by simp [hil])) rfl (fun u hu => List.all_eq_true.1 hio1 u hu) (by omega) (by unfold maxLen; omega) ?_); intro v6 w6 hS1; clear hS; simp only [List.set_cons_zero, List.set_cons_succ] at hS1; obtain ⟨a6, c6', rfl, -⟩ := hS1.row 1 rfl; have hS := hS1; clear hS1)
        | (with_reducible refine wpList_box_st hS rfl rfl rfl ?_; intro g1 w1 hS1; clear hS; replace hS := hS1; clear hS1) | (with_reducible refine wpList_box1_st hS rfl rfl rfl ?_; intro g1 w1 hS1; clear hS; replace hS := hS1; clear hS1) | (with_reducible refine wpList_alloc_st hS rfl rfl (by assumption) ?_; intro g1 w1 hS1; clear hS; replace hS := hS1; clear hS1) | (with_reducible refine wpList_alloc1_st hS rfl rfl (by assumption) rfl ?_; intro g1 w1 hS1; clear hS; replace hS := hS1; clear hS1) | ((with_reducible refine wpList_load_st 0 hS rfl rfl rfl rfl ?_ rfl ?_); focus (simp [scalarB, go_sem]; done)) | ((with_reducible refine wpList_loadall_st 0 hS rfl rfl rfl rfl ?_ (by kernel_rfl) ?_); focus (simp [rowB, go_sem]; done)) | ((with_reducible refine wpList_store_st 0 hS rfl rfl rfl rfl (by kernel_rfl) rfl rfl ?_); intro w1 hS1; clear hS; replace hS := hS1; clear hS1; try simp only [List.set_cons_zero, List.set_cons_succ, List.setIfInBounds_toArray, List.take_succ_cons, List.take_zero, List.drop_succ_cons, List.drop_zero, List.nil_append, List.cons_append, List.append_nil, List.drop_nil, List.take_nil, List.length_cons, List.length_nil, Nat.zero_add, Nat.add_zero, Nat.reduceAdd] at hS) | ((with_reducible refine wpList_storerow_st 0 hS rfl rfl rfl rfl (by kernel_rfl) rfl rfl rfl rfl ?_); intro w1 hS1; clear hS; replace hS := hS1; clear hS1; try simp only [List.set_cons_zero, List.set_cons_succ, List.setIfInBounds_toArray, List.take_succ_cons, List.take_zero, List.drop_succ_cons, List.drop_zero, List.nil_append, List.cons_append, List.append_nil, List.drop_nil, List.take_nil, List.length_cons, List.length_nil, Nat.zero_add, Nat.add_zero, Nat.reduceAdd] at hS))
      go_roundg (ks.length - (z + 1))
      case measure => omega
      case rel => exact ⟨z + 1, a6, c6', by omega, by go_num, rfl, by rw [hnx.out]; exact hS.drop⟩
    · have hzk : z = M.length := by rw [← hkM.out]; omega
      have e : M.take z = M := List.take_of_length_le (by omega)
      rw [e] at hS
      go_wp2_with fail
      go_ret
      rw [hzk] at hS ⊢
      exact ⟨_, _, rfl, hS.one 0 rfl⟩
theorem dclone_any {In : Dd → Prop} (a : Option Addr) (l : List Dd) (n c : Nat) (w : World) (hl : Lst ddRow In w a n c l) (hm : n ≤ 100000) :
    Calls Tryd.prog 31 #[.slice a n c] w fun e w' => ∃ a' c', e = .returned (.slice a' n c') ∧ St w [] [Ch.row 74 3 (.slice a' n c') n (dRow l)] w' := by
  have hS := St.start w
  have he := fun (W : World) (a : Option Addr) (n c : Nat) => Lib.run_eql_slice_nil (P := Tryd.prog) W 48 74 a n c 0 0 Tryd.underlying48
  have h1 := dRow_one l
  have hn : (dRow l).length = n * 3 := by rw [dRow_len, hl.len]
  have hs := Lib.hid hl.sl
  replace hn := Lib.hid hn
  cases a with
  | some ad =>
    clear hl
    go_enter Tryd.func31, Tryd.ntmps31
    go_wp2_with (first
      | ((with_reducible refine wpList_build0_st hS rfl rfl Tryd.underlying48 elem_dd ?_); intro g1 w3 hS1; clear hS; have hS := hS1; clear hS1)
      | (at_builtin; ((with_reducible refine wpList_app_st 0 hS rfl rfl rfl Tryd.underlying48 elem_dd rfl (Src.slice Tryd.underlying48 (hS.sl hs.out) hn.out) rfl h1 (by omega) (by unfold maxLen; omega) ?_); intro v5 w3 hS1; clear hS; simp only [List.set_cons_zero, Nat.zero_add, List.nil_append] at hS1; have hS := hS1; clear hS1; obtain ⟨a5, c5, rfl, -⟩ := hS.row 0 rfl)))
    go_ret
    exact ⟨_, _, rfl, hS⟩
  | none =>
    have hl0 : l = [] := by
      by_cases h : l = []
      · exact h
      · obtain ⟨b, off, e⟩ := hs.out.cells (by intro e; have := congrArg List.length e; have := List.length_pos_iff.2 h; rw [dRow_len] at *; simp at *; omega)
        cases e
    subst hl0
    have hn0 := hl.len
    simp at hn0
    subst hn0
    clear hl hn hs h1
    go_enter Tryd.func31, Tryd.ntmps31
    go_wp2_with fail
    go_ret
    exact ⟨_, _, rfl, hS.nilrow 74 3⟩
theorem sdead_any {In : Dd → Prop} (g : Nat) (l : List Dd) (a : Option Addr) (n c : Nat) (w : World) (h2 : w.cell? ⟨g, 2, none⟩ = some (.slice a n c)) (hl : Lst ddRow In w a n c l) (hm : n ≤ 100000) :
    Calls Tryd.prog 19 #[.pointer (some ⟨g, 0, none⟩)] w fun e w' => ∃ a' c', e = .returned (.slice a' n c') ∧ St w [] [Ch.row 74 3 (.slice a' n c') n (dRow l)] w' := by
  have hS := St.start w
  have cC := Lib.hid (dclone_any a l n c w hl hm)
  clear hl
  go_enter Tryd.func19, Tryd.ntmps19
  go_wp2_with (go_at_call 31; (with_reducible refine cC.out.mono ?_); rintro _ w9 ⟨a9, c9, rfl, hk9⟩; clear hS; have hS := hk9)
  go_ret
  exact ⟨_, _, rfl, hS⟩
end Go.Proofs.YtneolmnpebiifaaDoor
end
