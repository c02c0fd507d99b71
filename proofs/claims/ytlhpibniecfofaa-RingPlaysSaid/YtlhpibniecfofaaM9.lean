/- Texts laid together: PieceRead Ring9 Ring10 RGet DiskRef. -/
import Derived.Test.YtlhpibniecfofaaM2
import Derived.Test.YtlhpibniecfofaaM3
import Derived.Test.YtlhpibniecfofaaM4
import Derived.Test.YtlhpibniecfofaaM5
import Derived.Test.YtlhpibniecfofaaM6
import Derived.Test.YtlhpibniecfofaaM7
import Derived.Test.YtlhpibniecfofaaM8
section
/- Pieces that came in, opened. -/
set_option linter.unusedSimpArgs false
set_option linter.unusedVariables false
namespace Go.Ofp
open Go.RowKit Go.WideShapes

section
variable {H : Type} {enc : TypeId × Value → H} {P : Program} {w : World} {base : Nat} {spare : Nat → Bool} {held : Bool}

theorem field_string {f : TypeId} {o n : Nat} {cs : List Value} {y : DataW H × List MemPlace} (hf : P.underlying f = some .string) (hc : P.cellsOf f = 1) (ho : o < cs.length)
    (h : DataW.trod enc P w base spare held n f ((cs.drop o).take (P.cellsOf f)) = some y) : ∃ s : ByteArray, cs[o]? = some (.string s) ∧ s.size ≤ maxLen := by
  obtain ⟨z, hz, _, hs⟩ := DataW.trod_string hf h
  rw [hc, List.drop_eq_getElem_cons ho] at hz
  simp only [List.take_succ_cons, List.take_zero, List.cons.injEq, and_true] at hz
  exact ⟨z, by rw [List.getElem?_eq_getElem ho, hz], hs⟩
end
end Go.Ofp

set_option maxRecDepth 100000
namespace Go.Proofs.Ytlhpibniecfofaa
open Go.RowKit Go.Ofp

section
variable {H : Type} {enc : TypeId × Value → H}
end

end Go.Proofs.Ytlhpibniecfofaa
end

section
/- Rings: what the law's helpers tell: all, Texts, long, wide; acts in memory, and opened. -/
set_option linter.unusedSimpArgs false
set_option linter.unusedVariables false
namespace Go.Proofs.Ytlhpibniecfofaa
open Go.RowKit Go.Ofp Go.WideShapes
set_option linter.unusedVariables false
set_option maxRecDepth 100000
set_option maxHeartbeats 4000000

theorem ba_inj {a b : ByteArray} : a.toList = b.toList ↔ a = b := ⟨fun h => by rw [ByteArray.toList_eq, ByteArray.toList_eq] at h; exact ba_ext h, fun h => by rw [h]⟩
theorem fill64 (c : UInt8) (j : Nat) (hj : j < 64) : ((List.replicate j c ++ List.replicate (64 - j) 0).map vb).take j ++ [vb c] ++ ((List.replicate j c ++ List.replicate (64 - j) (0 : UInt8)).map vb).drop (j + 1) = (List.replicate (j + 1) c ++ List.replicate (64 - (j + 1)) 0).map vb := by
  have e1 : (List.replicate j c ++ List.replicate (64 - j) (0 : UInt8)).take j = List.replicate j c := List.take_left' (by simp)
  have e2 : (List.replicate j c ++ List.replicate (64 - j) (0 : UInt8)).drop (j + 1) = List.replicate (64 - (j + 1)) 0 := by
    rw [← List.drop_drop, List.drop_left' (by simp), List.drop_replicate, Nat.sub_sub]
  rw [← List.map_take, ← List.map_drop, e1, e2, List.replicate_succ']
  simp
theorem all37_any (c : UInt8) (w : World) : Calls Try.prog 82 #[vb c] w fun e w' => e = .returned (.string (str (List.replicate 64 c))) ∧ Below w.heap.size w w' := by
  have hS := St.start w
  have em := elem_u8
  have hmz : (madeCells (Value.int .u8 0).cells (64 * 1)).toList = (List.replicate 0 c ++ List.replicate (64 - 0) (0 : UInt8)).map vb := made_u8 64
  replace hmz := Lib.hid hmz
  unfold vb
  go_enter Try.func82, Try.ntmps82
  go_wp2_with (first
    | (at_make; refine wpList_mkfull_st hS rfl rfl Try.underlying127 em rfl rfl 64 rfl rfl (by omega) (by unfold maxLen; omega) ?_; intro g7 w7 hS1; clear hS; rw [hmz.out] at hS1; have hS := hS1; clear hS1))
  go_loopg [4] 64 (fun gk vi wr => ∃ j : Nat, j + gk = 64 ∧ vi = .int .i64 (j : Nat) ∧ St w [] [Ch.row 5 1 (.slice (some ⟨g7, 0, none⟩) 64 64) 64 ((List.replicate j c ++ List.replicate (64 - j) (0 : UInt8)).map vb)] wr)
  case atStart => exact ⟨0, rfl, rfl, hS⟩
  case round =>
    clear hS
    obtain ⟨j, hj, rfl, hS⟩ := hrel
    by_cases hlt : j < 64
    · have hI : (j : Int) < 64 := by omega
      have hne := Lib.hid (fill64 c j hlt)
      go_wp2_with (first
        | ((with_reducible refine wpList_storeelem1_st 0 j hS rfl rfl rfl rfl (by omega) (by kernel_rfl) rfl hlt ?_); intro w6 hS1; clear hS; simp only [List.set_cons_zero] at hS1; have hS := hS1; clear hS1))
      go_roundg (64 - (j + 1))
      case measure => omega
      case rel => exact ⟨j + 1, by omega, by go_num, by rw [← hne.out]; exact hS⟩
    · have hj64 : j = 64 := by omega
      subst hj64
      have hrow := hS.rowsl 0 rfl
      simp only [Nat.sub_self, List.replicate_zero, List.append_nil] at hrow
      replace hrow := Lib.hid hrow
      go_wp2_with (first
        | ((with_reducible refine wpList_bts (l := List.replicate 64 c) rfl rfl Try.underlying127 Try.underlying5 Try.underlying9 rfl hrow.out (by simp) ?_)))
      go_ret
      exact ⟨rfl, hS.below⟩

/-- A text of a slice of texts. -/
theorem sl_text {w : World} {a : Option Addr} {l : List ByteArray} (h : Sl w a (l.map vs)) (j : Nat) (hj : j < l.length) : ∃ b off, a = some ⟨b, off, none⟩ ∧ w.cell? ⟨b, off + j, none⟩ = some (.string l[j]) := by
  obtain ⟨b, off, e, hc⟩ := h j (by simpa using hj)
  refine ⟨b, off, e, ?_⟩
  rw [hc]
  simp [vs]
theorem texts_any (a1 a2 : Option Addr) (l1 l2 : List ByteArray) (n1 n2 c1 c2 : Nat) (w : World) (h1 : Sl w a1 (l1.map vs)) (h2 : Sl w a2 (l2.map vs)) (e1 : l1.length = n1) (e2 : l2.length = n2) (hb1 : n1 ≤ 1000000000000000) (hb2 : n2 ≤ 1000000000000000) :
    Calls Try.prog 46 #[.slice a1 n1 c1, .slice a2 n2 c2] w fun e w' => e = .returned (.bool (decide (l1 = l2))) ∧ Below w.heap.size w w' := by
  have hS := St.start w
  obtain ⟨res, hres⟩ : ∃ b, decide (l1 = l2) = b := ⟨_, rfl⟩
  rw [hres]
  by_cases hn : n1 = n2
  · subst hn
    replace e1 := Lib.hid e1
    replace e2 := Lib.hid e2
    replace hres := Lib.hid hres
    replace h1 := Lib.hid h1
    replace h2 := Lib.hid h2
    go_enter Try.func46, Try.ntmps46
    go_wp2_with fail
    go_loopg [5] n1 (fun gk vi wr => ∃ j : Nat, j + gk = n1 ∧ vi = .int .i64 (j : Nat) ∧ Hid (l1.take j = l2.take j) ∧ St w [] [] wr)
    case atStart => exact ⟨0, by omega, rfl, Lib.hid rfl, hS⟩
    case round =>
      clear hS
      obtain ⟨j, hj, rfl, hI, hS⟩ := hrel
      by_cases hlt : j < n1
      · have hj1 : j < l1.length := by have := e1.out; omega
        have hj2 : j < l2.length := by have := e2.out; omega
        obtain ⟨b1, o1, rfl, z1⟩ := sl_text h1.out j hj1
        obtain ⟨b2, o2, rfl, z2⟩ := sl_text h2.out j hj2
        have k1 := hS.kold0 z1
        have k2 := hS.kold0 z2
        clear z1 z2
        by_cases hxy : l1[j] = l2[j]
        · have hI2 : l1.take (j + 1) = l2.take (j + 1) := by
            rw [List.take_succ_eq_append_getElem hj1, List.take_succ_eq_append_getElem hj2, hI.out, hxy]
          replace hI2 := Lib.hid hI2
          rw [← hxy] at k2
          generalize l1[j] = x at k1 k2
          clear hI hxy
          go_wp2_with fail
          refine mixs_begin (by kernel_rfl) hS ?_
          clear hS
          intro w6 hS
          refine mixs_take 0 (v := ?_) rfl (by kernel_rfl) (fun _ _ _ h => h) (by kernel_rfl) (by assumption) (fun s => ?hy) ?_; case hy => (go_simp <;> with_reducible rfl)
          try simp only [List.getElem_toArray, List.getElem_cons_succ, List.getElem_cons_zero, Act.put, List.setIfInBounds_toArray, List.set_cons_zero, List.set_cons_succ]
          refine mixs_take 1 (v := ?_) rfl (by kernel_rfl) (fun _ _ _ h => h) (by kernel_rfl) (by assumption) (fun s => ?hy) ?_; case hy => (go_simp <;> with_reducible rfl)
          try simp only [List.getElem_toArray, List.getElem_cons_succ, List.getElem_cons_zero, Act.put, List.setIfInBounds_toArray, List.set_cons_zero, List.set_cons_succ]
          refine mixs_take 2 (v := ?_) rfl (by kernel_rfl) (fun _ _ _ h => h) (by kernel_rfl) (by assumption) (fun s => ?hy) ?_; case hy => (go_simp <;> with_reducible rfl)
          try simp only [List.getElem_toArray, List.getElem_cons_succ, List.getElem_cons_zero, Act.put, List.setIfInBounds_toArray, List.set_cons_zero, List.set_cons_succ]
          refine mixs_take 3 (v := ?_) rfl (by kernel_rfl) (fun _ _ _ h => h) (by kernel_rfl) (by assumption) (fun s => ?hy) ?_; case hy => (go_simp <;> with_reducible rfl)
          try simp only [List.getElem_toArray, List.getElem_cons_succ, List.getElem_cons_zero, Act.put, List.setIfInBounds_toArray, List.set_cons_zero, List.set_cons_succ]
          refine mixs_take 4 (v := ?_) rfl (by kernel_rfl) (fun _ _ _ h => h) (by kernel_rfl) (by assumption) (fun s => ?hy) ?_; case hy => (go_simp <;> with_reducible rfl)
          try simp only [List.getElem_toArray, List.getElem_cons_succ, List.getElem_cons_zero, Act.put, List.setIfInBounds_toArray, List.set_cons_zero, List.set_cons_succ]
          refine mixs_take 5 (v := ?_) rfl (by kernel_rfl) (fun _ _ _ h => h) (by kernel_rfl) (by assumption) (fun s => ?hy) ?_; case hy => (go_simp <;> with_reducible rfl)
          try simp only [List.getElem_toArray, List.getElem_cons_succ, List.getElem_cons_zero, Act.put, List.setIfInBounds_toArray, List.set_cons_zero, List.set_cons_succ]
          refine mixs_take 6 (v := ?_) rfl (by kernel_rfl) (fun _ _ _ h => h) (by kernel_rfl) (by assumption) (fun s => ?hy) ?_; case hy => (go_simp <;> with_reducible rfl)
          try simp only [List.getElem_toArray, List.getElem_cons_succ, List.getElem_cons_zero, Act.put, List.setIfInBounds_toArray, List.set_cons_zero, List.set_cons_succ]
          refine mixs_take 7 (v := ?_) rfl (by kernel_rfl) (fun _ _ _ h => h) (by kernel_rfl) (by assumption) (fun s => ?hy) ?_; case hy => (go_simp <;> with_reducible rfl)
          try simp only [List.getElem_toArray, List.getElem_cons_succ, List.getElem_cons_zero, Act.put, List.setIfInBounds_toArray, List.set_cons_zero, List.set_cons_succ]
          refine mixs_take 8 (v := ?_) rfl (by kernel_rfl) (fun _ _ _ h => h) (by kernel_rfl) (by assumption) (fun s => ?hy) ?_; case hy => (go_simp <;> with_reducible rfl)
          try simp only [List.getElem_toArray, List.getElem_cons_succ, List.getElem_cons_zero, Act.put, List.setIfInBounds_toArray, List.set_cons_zero, List.set_cons_succ]
          refine wpAnyH_done (by kernel_rfl) ?_ _
          go_wp2_with fail
          go_roundg (n1 - (j + 1))
          case measure => omega
          case rel => exact ⟨j + 1, by omega, by go_num, hI2, hS⟩
        · have hf : l1 ≠ l2 := fun e => hxy (by subst e; rfl)
          have hrf : res = false := by rw [← hres.out]; exact decide_eq_false hf
          subst hrf
          have hne1 : (l1[j].toList == l2[j].toList) = false := by rw [beq_eq_false_iff_ne]; exact fun e => hxy (ba_inj.1 e)
          have hne2 : (l1[j].toList != l2[j].toList) = true := by rw [bne_iff_ne]; exact fun e => hxy (ba_inj.1 e)
          generalize l1[j] = x at k1 hne1 hne2
          generalize l2[j] = y at k2 hne1 hne2
          clear hI hxy hf
          go_wp2_with fail
          refine mixs_begin (by kernel_rfl) hS ?_
          clear hS
          intro w6 hS
          refine mixs_take 0 (v := ?_) rfl (by kernel_rfl) (fun _ _ _ h => h) (by kernel_rfl) (by assumption) (fun s => ?hy) ?_; case hy => (go_simp <;> with_reducible rfl)
          try simp only [List.getElem_toArray, List.getElem_cons_succ, List.getElem_cons_zero, Act.put, List.setIfInBounds_toArray, List.set_cons_zero, List.set_cons_succ]
          refine mixs_take 1 (v := ?_) rfl (by kernel_rfl) (fun _ _ _ h => h) (by kernel_rfl) (by assumption) (fun s => ?hy) ?_; case hy => (go_simp <;> with_reducible rfl)
          try simp only [List.getElem_toArray, List.getElem_cons_succ, List.getElem_cons_zero, Act.put, List.setIfInBounds_toArray, List.set_cons_zero, List.set_cons_succ]
          refine mixs_take 2 (v := ?_) rfl (by kernel_rfl) (fun _ _ _ h => h) (by kernel_rfl) (by assumption) (fun s => ?hy) ?_; case hy => (go_simp <;> with_reducible rfl)
          try simp only [List.getElem_toArray, List.getElem_cons_succ, List.getElem_cons_zero, Act.put, List.setIfInBounds_toArray, List.set_cons_zero, List.set_cons_succ]
          refine mixs_take 3 (v := ?_) rfl (by kernel_rfl) (fun _ _ _ h => h) (by kernel_rfl) (by assumption) (fun s => ?hy) ?_; case hy => (go_simp <;> with_reducible rfl)
          try simp only [List.getElem_toArray, List.getElem_cons_succ, List.getElem_cons_zero, Act.put, List.setIfInBounds_toArray, List.set_cons_zero, List.set_cons_succ]
          refine mixs_take 4 (v := ?_) rfl (by kernel_rfl) (fun _ _ _ h => h) (by kernel_rfl) (by assumption) (fun s => ?hy) ?_; case hy => (go_simp <;> with_reducible rfl)
          try simp only [List.getElem_toArray, List.getElem_cons_succ, List.getElem_cons_zero, Act.put, List.setIfInBounds_toArray, List.set_cons_zero, List.set_cons_succ]
          refine mixs_take 5 (v := ?_) rfl (by kernel_rfl) (fun _ _ _ h => h) (by kernel_rfl) (by assumption) (fun s => ?hy) ?_; case hy => (go_simp <;> with_reducible rfl)
          try simp only [List.getElem_toArray, List.getElem_cons_succ, List.getElem_cons_zero, Act.put, List.setIfInBounds_toArray, List.set_cons_zero, List.set_cons_succ]
          refine mixs_take 6 (v := ?_) rfl (by kernel_rfl) (fun _ _ _ h => h) (by kernel_rfl) (by assumption) (fun s => ?hy) ?_; case hy => (go_simp <;> with_reducible rfl)
          try simp only [List.getElem_toArray, List.getElem_cons_succ, List.getElem_cons_zero, Act.put, List.setIfInBounds_toArray, List.set_cons_zero, List.set_cons_succ]
          refine mixs_take 7 (v := ?_) rfl (by kernel_rfl) (fun _ _ _ h => h) (by kernel_rfl) (by assumption) (fun s => ?hy) ?_; case hy => (go_simp <;> with_reducible rfl)
          try simp only [List.getElem_toArray, List.getElem_cons_succ, List.getElem_cons_zero, Act.put, List.setIfInBounds_toArray, List.set_cons_zero, List.set_cons_succ]
          refine mixs_take 8 (v := ?_) rfl (by kernel_rfl) (fun _ _ _ h => h) (by kernel_rfl) (by assumption) (fun s => ?hy) ?_; case hy => (go_simp <;> with_reducible rfl)
          try simp only [List.getElem_toArray, List.getElem_cons_succ, List.getElem_cons_zero, Act.put, List.setIfInBounds_toArray, List.set_cons_zero, List.set_cons_succ]
          refine wpAnyH_done (by kernel_rfl) ?_ _
          go_wp2_with fail
          go_ret
          exact ⟨rfl, hS.below⟩
      · have hjn : j = n1 := by omega
        have ht : l1 = l2 := by
          have := hI.out
          rwa [List.take_of_length_le (by have := e1.out; omega), List.take_of_length_le (by have := e2.out; omega)] at this
        have hrf : res = true := by rw [← hres.out]; exact decide_eq_true ht
        subst hrf
        clear ht hI
        go_wp2_with fail
        go_ret
        exact ⟨rfl, hS.below⟩
  · have hf : l1 ≠ l2 := fun e => hn (by subst e; omega)
    have hrf : res = false := by rw [← hres]; exact decide_eq_false hf
    subst hrf
    clear hf hres
    have hnI : ((n1 : Int) != n2) = true := by rw [bne_iff_ne]; omega
    go_enter Try.func46, Try.ntmps46
    go_wp2_with fail
    go_ret
    exact ⟨rfl, hS.below⟩

/-- What a look at lengths tells. -/
def LongR (r : Ending) (Q : Prop) : Prop := (Q ∧ r = .returned (.bool false)) ∨ (¬ Q ∧ r = .returned (.bool true))
theorem LongR.yes {r : Ending} {Q : Prop} (h : LongR r Q) (q : Q) : r = .returned (.bool false) := h.elim (fun h => h.2) (fun h => absurd q h.1)
theorem LongR.no {r : Ending} {Q : Prop} (h : LongR r Q) (q : ¬ Q) : r = .returned (.bool true) := h.elim (fun h => absurd h.1 q) (fun h => h.2)
/-- An act. -/
structure Ga where
  kind : Int
  n : Int
  s : ByteArray
  a : Option Addr
  kc : Nat
  keep : List Int
  c : UInt8
def gaRow (x : Ga) : List Value := [.int .i64 x.kind, .int .i64 x.n, .string x.s, .slice x.a x.keep.length x.kc, vb x.c]
/-- What an act keeps lies there. -/
structure GaMem (w : World) (x : Ga) : Prop where
  sl : Sl w x.a (x.keep.map vi)
  le : x.keep.length ≤ x.kc
  cm : x.kc ≤ maxLen
  keep : ∀ z ∈ x.keep, -9223372036854775808 ≤ z ∧ z ≤ 9223372036854775807
  n : -9223372036854775808 ≤ x.n ∧ x.n ≤ 9223372036854775807
  kind : -9223372036854775808 ≤ x.kind ∧ x.kind ≤ 9223372036854775807
  text : x.s.size ≤ maxLen
/-- Acts lie there. -/
structure Gas (w : World) (a : Option Addr) (n c : Nat) (l : List Ga) : Prop where
  sl : Sl w a (l.map gaRow).flatten
  len : l.length = n
  le : n ≤ c
  cm : c ≤ maxLen
  mem : ∀ x ∈ l, GaMem w x
theorem GaMem.below {w w' : World} {x : Ga} (h : GaMem w x) (hb : Below w.heap.size w w') : GaMem w' x := ⟨h.sl.below hb, h.le, h.cm, h.keep, h.n, h.kind, h.text⟩
theorem Gas.below {w w' : World} {a : Option Addr} {n c : Nat} {l : List Ga} (h : Gas w a n c l) (hb : Below w.heap.size w w') : Gas w' a n c l := ⟨h.sl.below hb, h.len, h.le, h.cm, fun x hx => (h.mem x hx).below hb⟩
theorem Gas.get {w : World} {a : Option Addr} {n c : Nat} {l : List Ga} (h : Gas w a n c l) (j : Nat) (hj : j < l.length) :
    ∃ b off, a = some ⟨b, off, none⟩ ∧ ∀ t v, (gaRow l[j])[t]? = some v → w.cell? ⟨b, off + (j * 5 + t), none⟩ = some v := by
  have hr : Rw w a 5 (l.map gaRow) := ⟨h.sl, fun r hr => by obtain ⟨p, _, rfl⟩ := List.mem_map.1 hr; rfl⟩
  obtain ⟨b, off, rfl, hc⟩ := hr.get j (by simpa using hj) (by decide)
  refine ⟨b, off, rfl, fun t v hv => hc t v ?_⟩
  rw [List.getElem_map]
  exact hv

section
variable {H : Type} {enc : TypeId × Value → H}
theorem wf_u8 {z : Int} (h : (Lit.int .u8 z).wf = true) : ∃ c : UInt8, Value.int .u8 z = vb c := by
  have hz : 0 ≤ z ∧ z ≤ 255 := by simpa [Lit.wf, IntKind.min, IntKind.max, IntKind.bits, IntKind.signed] using h
  obtain ⟨k, rfl⟩ := Int.eq_ofNat_of_zero_le hz.1
  refine ⟨UInt8.ofNat k, ?_⟩
  unfold vb
  rw [UInt8.toNat_ofNat_of_lt' (by show k < 256; omega)]
theorem read_ga {w : World} {cs : List Value} (h : ∃ fuel x, DataW.trod enc Try.prog w 0 (fun _ => true) true fuel 99 cs = some x) : ∃ x : Ga, cs = gaRow x ∧ GaMem w x := by
  obtain ⟨fuel, x, h⟩ := h
  obtain ⟨hl, hf⟩ := field_read Try.underlying99 h
  have hc : Try.prog.cellsOf 99 = 5 := by kernel_rfl
  have hc1 : Try.prog.cellsOf 33 = 1 := by kernel_rfl
  rw [hc] at hl
  obtain ⟨n0, y0, h0⟩ := hf 0 _ rfl
  obtain ⟨n1, y1, h1⟩ := hf 1 _ rfl
  obtain ⟨n2, y2, h2⟩ := hf 2 _ rfl
  obtain ⟨n3, y3, h3⟩ := hf 3 _ rfl
  obtain ⟨n4, y4, h4⟩ := hf 4 _ rfl
  obtain ⟨z0, e0, w0⟩ := field_int Try.underlying3 (by kernel_rfl) (by rw [hl]; decide) h0
  obtain ⟨z1, e1, w1⟩ := field_int Try.underlying3 (by kernel_rfl) (by rw [hl]; decide) h1
  obtain ⟨z2, e2, w2⟩ := field_string (o := 2) Try.underlying9 (by kernel_rfl) (by rw [hl]; decide) h2
  have h3' : DataW.trod enc Try.prog w 0 (fun _ => true) true n3 33 ((cs.drop 3).take (Try.prog.cellsOf 33)) = some y3 := h3
  rw [hc1] at h3'
  obtain ⟨z4, e4, w4⟩ := field_int (o := 4) Try.underlying5 (by kernel_rfl) (by rw [hl]; decide) h4
  match cs, hl with
  | [c0, c1, c2, c3, c4], _ =>
    simp at e0 e1 e2 h3' e4
    subst e0 e1 e2 e4
    obtain ⟨cc, hcc⟩ := wf_u8 w4
    rw [hcc]
    obtain ⟨d4, p4⟩ := y3
    rcases Go.ChangeShapes.open_ints Try.underlying33 Try.underlying3 (by kernel_rfl) h3' with ⟨hcs, _⟩ | ⟨x, l, c, zs, hcs, _, hl', hm, hz, _, hcell, hwz⟩
    · simp only [List.cons.injEq, and_true] at hcs
      subst hcs
      exact ⟨⟨z0, z1, z2, none, 0, [], cc⟩, rfl, ⟨Sl.nil _ _, Nat.le_refl _, Nat.zero_le _, by simp, wf_i64 w1, wf_i64 w0, w2⟩⟩
    · simp only [List.cons.injEq, and_true] at hcs
      subst hcs
      obtain ⟨m, hml, hms, h5, h6, h7⟩ := row_ints (w := w) (a := some x) (len := l) (cap := c) (zs := zs) (.inr ⟨x, rfl, hl', hm, by simpa using hz, hcell, hwz⟩)
      subst hml
      exact ⟨⟨z0, z1, z2, some x, c, m, cc⟩, rfl, ⟨hms, h5, h6, h7, wf_i64 w1, wf_i64 w0, w2⟩⟩
theorem gas_of {w : World} {rows : List (List Value)} (h : ∀ cs ∈ rows, ∃ x : Ga, cs = gaRow x ∧ GaMem w x) : ∃ l : List Ga, rows = l.map gaRow ∧ ∀ x ∈ l, GaMem w x := by
  induction rows with
  | nil => exact ⟨[], rfl, by simp⟩
  | cons c cs ih =>
    obtain ⟨p, rfl, hp⟩ := h c (by simp)
    obtain ⟨ps, rfl, hps⟩ := ih (fun x hx => h x (by simp [hx]))
    refine ⟨p :: ps, rfl, ?_⟩
    intro q hq
    rcases List.mem_cons.1 hq with rfl | hq
    · exact hp
    · exact hps q hq
theorem open_gas {r : Reach} {b0 : Nat} {v : Value} {d : DataW H} {ms : List MemPlace} {w : World}
    (ho : Value.okWide Try.prog w r b0 88 v) (ht : DataW.Trod enc Try.prog w 0 (fun _ => true) true 88 v d ms) :
    ∃ a n cap l, v = .slice a n cap ∧ Gas w a n cap l := by
  have hc : Try.prog.cellsOf 99 = 5 := by kernel_rfl
  obtain ⟨b, n, cb, rfl, hn, hm, rows, hrl, hrw, hrd⟩ := open_rows Try.underlying88 ho ht (by rw [hc]; decide)
  obtain ⟨qs, rfl, hqs⟩ := gas_of fun cs h => read_ga (hrd cs h)
  rw [List.length_map] at hrl
  exact ⟨b, n, cb, qs, rfl, ⟨hrw.sl, hrl, hn, hm, hqs⟩⟩
end

def ShortQ (n : Nat) (l : List Ga) : Prop := n ≤ 60 ∧ ∀ x ∈ l, x.s.size ≤ 500 ∧ x.keep.length ≤ 60
theorem long37_any (a : Option Addr) (n c : Nat) (l : List Ga) (w : World) (h : Gas w a n c l) :
    Calls Try.prog 47 #[.slice a n c] w fun r w' => LongR r (ShortQ n l) ∧ w = w' := by
  have hnm : n ≤ maxLen := Nat.le_trans h.le h.cm
  have e := h.len
  unfold maxLen at hnm
  by_cases hn : n ≤ 60
  · replace e := Lib.hid e
    replace h := Lib.hid h
    go_enter Try.func47, Try.ntmps47
    go_wp2_with fail
    go_loopg [3] n (fun gk vi wr => ∃ j : Nat, j + gk = n ∧ vi = .int .i64 (j : Nat) ∧ Hid (∀ x ∈ l.take j, x.s.size ≤ 500 ∧ x.keep.length ≤ 60) ∧ w = wr)
    case atStart => exact ⟨0, by omega, rfl, Lib.hid (by simp), rfl⟩
    case round =>
      obtain ⟨j, hj, rfl, hI, rfl⟩ := hrel
      by_cases hlt : j < n
      · have hj1 : j < l.length := by have := e.out; omega
        obtain ⟨b1, o1, rfl, hc⟩ := h.out.get j hj1
        have z2 := hc 2 _ rfl
        have z3 := hc 3 _ rfl
        rw [show o1 + (j * 5 + 2) = o1 + j * 5 + 2 by omega] at z2
        rw [show o1 + (j * 5 + 3) = o1 + j * 5 + 3 by omega] at z3
        clear hc
        have hm := h.out.mem l[j] (List.getElem_mem hj1)
        have hsm := hm.text
        have hkm := Nat.le_trans hm.le hm.cm
        unfold maxLen at hsm hkm
        clear hm
        by_cases hs : l[j].s.size ≤ 500
        · by_cases hk : l[j].keep.length ≤ 60
          · have hI2 : ∀ x ∈ l.take (j + 1), x.s.size ≤ 500 ∧ x.keep.length ≤ 60 := by
              rw [List.take_succ_eq_append_getElem hj1]
              intro s hs'
              rcases List.mem_append.1 hs' with h' | h'
              · exact hI.out s h'
              · simp at h'
                subst h'
                exact ⟨hs, hk⟩
            replace hI2 := Lib.hid hI2
            generalize l[j] = x at z2 z3 hs hsm hk hkm
            clear hI
            go_wp2_with fail
            go_roundg (n - (j + 1))
            case measure => omega
            case rel => exact ⟨j + 1, by omega, by go_num, hI2, rfl⟩
          · have hk2 : 60 < l[j].keep.length := by omega
            have hnQ := Lib.hid (show ¬ ShortQ n l from fun q => hk (q.2 _ (List.getElem_mem hj1)).2)
            generalize l[j] = x at z2 z3 hs hsm hk2 hkm
            clear hI hk
            go_wp2_with fail
            go_ret
            exact ⟨.inr ⟨hnQ.out, rfl⟩, rfl⟩
        · have hs2 : 500 < l[j].s.size := by omega
          have hnQ := Lib.hid (show ¬ ShortQ n l from fun q => hs (q.2 _ (List.getElem_mem hj1)).1)
          generalize l[j] = x at z2 z3 hs2 hsm hkm
          clear hI hs
          go_wp2_with fail
          go_ret
          exact ⟨.inr ⟨hnQ.out, rfl⟩, rfl⟩
      · have hI2 := hI.out
        rw [List.take_of_length_le (by have := e.out; omega)] at hI2
        replace hI2 := Lib.hid hI2
        clear hI
        go_wp2_with fail
        go_ret
        exact ⟨.inl ⟨⟨hn, hI2.out⟩, rfl⟩, rfl⟩
  · go_enter Try.func47, Try.ntmps47
    go_wp2_with fail
    go_ret
    exact ⟨.inr ⟨fun q => hn q.1, rfl⟩, rfl⟩
end Go.Proofs.Ytlhpibniecfofaa
end

section
/- Rings: the chapter's example. -/
set_option linter.unusedSimpArgs false
set_option linter.unusedVariables false
namespace Go.Ofp
namespace Dk
/-- A disk whose power does not go. -/
structure Live (d : Dk) (n : Nat) : Prop where
  dead : d.dead = false
  fuse : d.fuse < 0
  sec : d.sec.length = n
theorem Live.new (n : Nat) : (Dk.new n).Live n := ⟨rfl, by simp [Dk.new], by simp [Dk.new]⟩
theorem Live.write {d : Dk} {n : Nat} (h : d.Live n) {i : Int} {b : List UInt8} (h0 : 0 ≤ i) (h1 : i < n) (hb : b.length = 64) : (d.write i b).2 = 0 ∧ (d.write i b).1.Live n := by
  have hr : d.ready i = 0 := by rw [Dk.ready, if_neg (by simp [h.dead]), if_neg (by have := h.sec; omega)]
  have hf := h.fuse
  have hst : (Dk.step { d with wait := d.wait ++ [⟨i, b⟩] }) = { d with wait := d.wait ++ [⟨i, b⟩] } := by
    unfold Dk.step
    rw [if_neg (by simp only; omega), if_neg (by simp only; omega)]
  rw [Dk.write, if_pos hr, if_pos hb, hst]
  exact ⟨by simp [h.dead], h.dead, h.fuse, h.sec⟩
theorem Live.writes {n : Nat} (l : List (Int × List UInt8)) : ∀ {d : Dk}, d.Live n → (∀ x ∈ l, 0 ≤ x.1 ∧ x.1 < n ∧ x.2.length = 64) → (d.writes l).2 = 0 ∧ (d.writes l).1.Live n := by
  induction l with
  | nil => intro d h _; exact ⟨rfl, h⟩
  | cons x l ih =>
    intro d h hl
    obtain ⟨a, b, c⟩ := hl x (by simp)
    obtain ⟨k1, k2⟩ := h.write a b c
    rw [Dk.writes, if_pos k1]
    exact ih k2 fun y hy => hl y (by simp [hy])
end Dk
theorem Rg.lay_ok {r : Rg} {n : Nat} (hr : r.Ok n) {place : Int} {s : ByteArray} (hc : cutOk r.life place (manyB s.size) = true) : ∀ x ∈ r.lay (cutB r.life place s), 0 ≤ x.1 ∧ x.1 < n ∧ x.2.length = 64 := by
  intro x hx
  unfold Rg.lay at hx
  obtain ⟨p, hp, rfl⟩ := List.mem_map.1 hx
  obtain ⟨j, hj, rfl⟩ := List.getElem_of_mem hp
  have h1 := hr.pos
  have h2 := hr.fit
  have hp2 : (cutB r.life place s)[j]? = some (cutB r.life place s)[j] := List.getElem?_eq_getElem hj
  have hok : (cutB r.life place s)[j].ok = true := by
    rw [cutB_get hc] at hp2
    split at hp2
    · rename_i hlt
      rw [← Option.some.inj hp2]
      have := join_cut_at hc ⟨r.life, place, false, false, ⟨#[]⟩⟩ rfl rfl j hlt
      exact ((joinAt_iff _ _ _ _).1 this).1
    · cases hp2
  have hm1 := Int.emod_nonneg (cutB r.life place s)[j].place (show (r.n : Int) ≠ 0 by omega)
  have hm2 := Int.emod_lt_of_pos (cutB r.life place s)[j].place (show (0 : Int) < r.n by omega)
  refine ⟨?_, ?_, putB_length _ hok⟩
  · simp only; omega
  · simp only; omega
/-- A record that fits is put on a disk whose power does not go. -/
theorem Rg.add_live {r : Rg} {n : Nat} (hr : r.Ok n) {d : Dk} (hd : d.Live n) {s : ByteArray} (hf : manyB s.size ≤ r.free) (hc : cutOk r.life r.tail (manyB s.size) = true) :
    (r.add d s).1 = { r with tail := r.tail + manyB s.size } ∧ (r.add d s).2.2 = 0 ∧ (r.add d s).2.1.Live n := by
  have hn : cutB r.life r.tail s ≠ [] := by
    intro e
    have h1 := cutB_length hc
    rw [e] at h1
    have := manyB_pos s.size
    simp at h1
    omega
  have hw := Dk.Live.writes _ hd (Rg.lay_ok hr hc)
  rw [Rg.add, if_neg fun e => e.elim (fun e => absurd e (by omega)) hn, if_pos hw.1]
  exact ⟨rfl, rfl, hw.2⟩
end Go.Ofp
namespace Go.Proofs.Ytlhpibniecfofaa
open Go.RowKit Go.Ofp
set_option linter.unusedVariables false
set_option maxRecDepth 100000
set_option maxHeartbeats 4000000

theorem awake37_any (w : World) : Calls Try.prog 41 #[] w fun e w' => e = .returned (.bool true) ∧ Below w.heap.size w w' := by
  have hS := St.start w
  have hr0 : (⟨0, 3, 0, 0, 1⟩ : Rg).Ok 3 := ⟨by decide, by decide, by decide, by decide, by decide⟩
  have hr1 : (⟨0, 3, 0, 2, 1⟩ : Rg).Ok 3 := ⟨by decide, by decide, by decide, by decide, by decide⟩
  have cN : ∀ W : World, Calls Try.prog 11 #[.int .i64 3] W fun e w' => ∃ bd sv wv, e = .returned (.pointer (some ⟨bd, 0, none⟩)) ∧ St W [] (dks bd sv wv (Dk.new 3)) w' := fun W => new_any 3 W (by decide) (by decide)
  have hl0 : (Dk.new 3).sec.length = 3 := by simp [Dk.new]
  have cG : ∀ (bd : Nat) (sv wv : Value) (W : World), St W (feet (dks bd sv wv (Dk.new 3))) (dks bd sv wv (Dk.new 3)) W → Calls Try.prog 42 #[.pointer (some ⟨bd, 0, none⟩), .int .i64 0, .int .i64 3, .int .i64 0, .int .i64 1] W fun e w' => ∃ g, e = .returned (.pointer (some ⟨g, 0, none⟩)) ∧ St W [] [rng g bd ⟨0, 3, 0, 0, 1⟩] w' := fun bd sv wv W hh =>
    (rgnew_any bd sv wv (Dk.new 3) 0 3 0 1 W hh (by omega)).mono fun e w' hk => hk.2 (by rw [hl0]; decide)
  have cA1 : ∀ W : World, Calls Try.prog 82 #[.int .u8 1] W fun e w' => e = .returned (.string (str (List.replicate 64 1))) ∧ Below W.heap.size W w' := fun W => all37_any 1 W
  have cA2 : ∀ W : World, Calls Try.prog 82 #[.int .u8 2] W fun e w' => e = .returned (.string (str (List.replicate 64 2))) ∧ Below W.heap.size W w' := fun W => all37_any 2 W
  have z1 : (str (List.replicate 64 1)).size = 64 := by simp
  have z2 : (str (List.replicate 64 2)).size = 64 := by simp
  generalize str (List.replicate 64 1) = S1 at cA1 z1
  generalize str (List.replicate 64 2) = S2 at cA2 z2
  have cP : ∀ (g bd : Nat) (sv wv : Value) (s : ByteArray) (W : World), s.size = 104 → St W (feet (rng g bd ⟨0, 3, 0, 0, 1⟩ :: dks bd sv wv (Dk.new 3))) (rng g bd ⟨0, 3, 0, 0, 1⟩ :: dks bd sv wv (Dk.new 3)) W → Calls Try.prog 44 #[.pointer (some ⟨g, 0, none⟩), .string s] W fun e w' => e = .returned (.int .i64 0) ∧ ∃ d1 wv', St W (feet (rng g bd ⟨0, 3, 0, 0, 1⟩ :: dks bd sv wv (Dk.new 3))) (rng g bd ⟨0, 3, 0, 2, 1⟩ :: dks bd sv wv' d1) w' := by
    intro g bd sv wv s W hs hh
    have hm : manyB s.size = 2 := by rw [hs]; rfl
    obtain ⟨a1, a2, a3⟩ := Rg.add_live hr0 (Dk.Live.new 3) (s := s) (by rw [hm]; decide) (by rw [hm]; decide)
    refine (rgadd_any g bd sv wv (Dk.new 3) ⟨0, 3, 0, 0, 1⟩ 3 0 s W hh hr0 (Dk.Fit.new 3 (by decide)) (by decide) (by omega) (by omega)).mono fun e w' ⟨h1, wv', h2⟩ => ⟨by rw [h1, a2], (Rg.add ⟨0, 3, 0, 0, 1⟩ (Dk.new 3) s).2.1, wv', ?_⟩
    rw [a1, hm] at h2
    exact h2
  have cQ : ∀ (g bd : Nat) (sv wv : Value) (d : Dk) (s : ByteArray) (W : World), s.size = 53 → St W (feet (rng g bd ⟨0, 3, 0, 2, 1⟩ :: dks bd sv wv d)) (rng g bd ⟨0, 3, 0, 2, 1⟩ :: dks bd sv wv d) W → Calls Try.prog 44 #[.pointer (some ⟨g, 0, none⟩), .string s] W fun e w' => e = .returned (.int .i64 8) ∧ St W (feet (rng g bd ⟨0, 3, 0, 2, 1⟩ :: dks bd sv wv d)) (rng g bd ⟨0, 3, 0, 2, 1⟩ :: dks bd sv wv d) w' := by
    intro g bd sv wv d s W hs hh
    exact rgadd_full g bd sv wv d ⟨0, 3, 0, 2, 1⟩ 3 0 s W hh hr1 (by decide) (by omega) (by rw [hs]; decide)
  have cF : ∀ (g bd : Nat) (W : World), St W (feet [rng g bd ⟨0, 3, 0, 2, 1⟩]) [rng g bd ⟨0, 3, 0, 2, 1⟩] W → Calls Try.prog 51 #[.pointer (some ⟨g, 0, none⟩)] W fun e w' => e = .returned (.int .i64 1) ∧ Below W.heap.size W w' := fun g bd W hh => rgfree_any g bd ⟨0, 3, 0, 2, 1⟩ 3 W hh hr1 (by decide)
  have y1 : (S1 ++ S1.extract 0 40).size = 104 := by simp [ByteArray.size_append, size_extract, z1]
  have y2 : (S2.extract 0 53).size = 53 := by simp [size_extract, z2]
  replace cN := Lib.hid cN
  replace cG := Lib.hid cG
  replace cA1 := Lib.hid cA1
  replace cA2 := Lib.hid cA2
  replace cP := Lib.hid cP
  replace cQ := Lib.hid cQ
  replace cF := Lib.hid cF
  replace y1 := Lib.hid y1
  replace y2 := Lib.hid y2
  clear hr0 hr1 hl0
  generalize Dk.new 3 = d0 at *
  go_enter Try.func41, Try.ntmps41
  go_wp2_with (first
    | (go_at_call 11; (with_reducible refine (cN.out _).mono ?_); rintro _ w2 ⟨bd, sv, wv, rfl, hk⟩; have hS1 := hS.made hk; clear hS hk; have hS := hS1; clear hS1)
    | (go_at_call 42; (with_reducible refine (cG.out _ _ _ _ (hS.preM (A := []) (B := dks _ _ _ _) (R := []))).mono ?_); rintro _ w2 ⟨g, rfl, hk⟩; have hS1 := hS.made hk; clear hS hk; have hS : St w [] ((rng g bd ⟨0, 3, 0, 0, 1⟩ :: dks bd sv wv d0) ++ []) w2 := hS1; clear hS1)
    | (go_at_call 82; (first | (with_reducible refine (cA1.out _).mono ?_) | (with_reducible refine (cA2.out _).mono ?_)); rintro _ w3 ⟨rfl, hb3⟩; have hS1 := hS.keepB hb3; clear hb3 hS; have hS := hS1; clear hS1)
    | (go_at_call 44; (with_reducible refine (cP.out _ _ _ _ _ _ y1.out (hS.preM (A := []) (B := rng _ _ _ :: dks _ _ _ _) (R := []))).mono ?_); rintro _ w4 ⟨rfl, d1, wv4, hk⟩; have hS1 := hS.callM (A := []) (R := []) hk; clear hS hk; have hS := hS1; clear hS1)
    | (go_at_call 44; (with_reducible refine (cQ.out _ _ _ _ _ _ _ y2.out (hS.preM (A := []) (B := rng _ _ _ :: dks _ _ _ _) (R := []))).mono ?_); rintro _ w4 ⟨rfl, hk⟩; have hS1 := hS.callM (A := []) (R := []) hk; clear hS hk; have hS := hS1; clear hS1)
    | (go_at_call 51; (with_reducible refine (cF.out _ _ _ (hS.preM (A := []) (B := [_]) (R := _))).mono ?_); rintro _ w5 ⟨rfl, hb5⟩; have hS1 := hS.keepB hb5; clear hb5 hS; have hS := hS1; clear hS1)
    | (with_reducible refine wpList_box_st hS rfl rfl rfl ?_; intro g1 w1 hS1; clear hS; replace hS := hS1; clear hS1) | (with_reducible refine wpList_box1_st hS rfl rfl rfl ?_; intro g1 w1 hS1; clear hS; replace hS := hS1; clear hS1) | (with_reducible refine wpList_alloc_st hS rfl rfl (by assumption) ?_; intro g1 w1 hS1; clear hS; replace hS := hS1; clear hS1) | (with_reducible refine wpList_alloc1_st hS rfl rfl (by assumption) rfl ?_; intro g1 w1 hS1; clear hS; replace hS := hS1; clear hS1) | ((with_reducible refine wpList_load_st 0 hS rfl rfl rfl rfl ?_ rfl ?_); focus (simp [scalarB, go_sem]; done)) | ((with_reducible refine wpList_loadall_st 0 hS rfl rfl rfl rfl ?_ (by kernel_rfl) ?_); focus (simp [rowB, go_sem]; done)) | ((with_reducible refine wpList_store_st 0 hS rfl rfl rfl rfl (by kernel_rfl) rfl rfl ?_); intro w1 hS1; clear hS; replace hS := hS1; clear hS1; try simp only [List.set_cons_zero, List.set_cons_succ, List.setIfInBounds_toArray, List.take_succ_cons, List.take_zero, List.drop_succ_cons, List.drop_zero, List.nil_append, List.cons_append, List.append_nil, List.drop_nil, List.take_nil, List.length_cons, List.length_nil, Nat.zero_add, Nat.add_zero, Nat.reduceAdd] at hS) | ((with_reducible refine wpList_storerow_st 0 hS rfl rfl rfl rfl (by kernel_rfl) rfl rfl rfl rfl ?_); intro w1 hS1; clear hS; replace hS := hS1; clear hS1; try simp only [List.set_cons_zero, List.set_cons_succ, List.setIfInBounds_toArray, List.take_succ_cons, List.take_zero, List.drop_succ_cons, List.drop_zero, List.nil_append, List.cons_append, List.append_nil, List.drop_nil, List.take_nil, List.length_cons, List.length_nil, Nat.zero_add, Nat.add_zero, Nat.reduceAdd] at hS))
  go_ret
  exact ⟨rfl, hS.below⟩
end Go.Proofs.Ytlhpibniecfofaa
end

section
/- The walk of the reference's Get. -/
set_option linter.unusedSimpArgs false
set_option linter.unusedVariables false
namespace Go.Proofs.Ytlhpibniecfofaa
open Go.RowKit Go.Ofp
set_option linter.unusedVariables false
set_option maxRecDepth 100000
set_option maxHeartbeats 4000000

theorem byte_divs (n : Nat) (h : n < 256) : wrap64 ((n : Nat) : Int) = ((n : Nat) : Int) ∧ ((n : Int) / 64 % 2 == 1) = (n / 64 % 2 == 1) ∧ ((n : Int) / 128 == 1) = (n / 128 == 1) := by
  refine ⟨by rw [← IntWalk.i64_left, wrap_i64_nat _ (by omega)], ?_, ?_⟩
  · rw [Bool.eq_iff_iff, beq_iff_eq, beq_iff_eq]; omega
  · rw [Bool.eq_iff_iff, beq_iff_eq, beq_iff_eq]; omega

theorem rget_any (s : ByteArray) (w : World) (hs : s.size ≤ maxLen) : Calls Try.prog 117 #[.string s] w fun e w' => e = .returned (.tuple #[(getB s).1.val, .bool (getB s).2]) ∧ Below w.heap.size w w' := by
  unfold maxLen at hs
  have hS := St.start w
  have ez := elem_rpc
  by_cases hl : s.size = 64
  · have h9 : s[9].toNat = (s.data.toList.getD 9 0).toNat := by
      rw [List.getD_eq_getElem?_getD, List.getElem?_eq_getElem (by rw [← ba_size]; omega)]
      rfl
    generalize hn : s[9].toNat = n at *
    have hn1 : n < 256 := by rw [← hn]; exact s[9].toNat_lt
    obtain ⟨b1, b3, b4⟩ := byte_divs n hn1
    replace h9 := Lib.hid h9
    have x0 : ((numLE (s.data.toList.take 4) : Nat) : Int) = (readPc s).life := rfl
    have x1 : ((numLE ((s.data.toList.drop 4).take 5) : Nat) : Int) = (readPc s).place := rfl
    have x2 : (n / 64 % 2 == 1) = (readPc s).first := by rw [readPc, h9.out]
    have x3 : (n / 128 == 1) = (readPc s).last := by rw [readPc, h9.out]
    have x4 : s.extract 10 (10 + n % 64) = (readPc s).body := by rw [readPc, h9.out]
    have hgt : getB s = if n % 64 ≤ 52 ∧ str (putB (readPc s)) = s then (readPc s, true) else (noPc, false) := by
      rw [getB, ← h9.out]
      by_cases h : n % 64 ≤ 52 ∧ str (putB (readPc s)) = s
      · rw [if_pos h, if_pos ⟨hl, h⟩]
      · rw [if_neg h, if_neg (fun k => h k.2)]
    have hpb : (readPc s).body.size ≤ 64 := by
      have e : (s.extract 10 (10 + n % 64)).size ≤ 64 := by simp [hl]; omega
      rw [x4] at e
      exact e
    generalize readPc s = p at x0 x1 x2 x3 x4 hgt hpb
    replace hgt := Lib.hid hgt
    replace hpb := Lib.hid hpb
    have j1 : IntKind.i64.wrap ((n : Int) / 64) = (n : Int) / 64 := IntWalk.i64_in _ (by omega)
    have j2 : 0 ≤ (n : Int) / 64 := by omega
    have j4 : ((n : Int) / 64).tmod 2 = (n : Int) / 64 % 2 := Int.tmod_eq_emod_of_nonneg j2
    rw [x2] at b3
    rw [x3] at b4
    have j3 : IntKind.i64.wrap ((n : Int) / 128) = (n : Int) / 128 := IntWalk.i64_in _ (by omega)
    go_enter Try.func117, Try.ntmps117
    go_wp2_with (first | (with_reducible refine wpList_box_st hS rfl rfl rfl ?_; intro g1 w1 hS1; clear hS; replace hS := hS1; clear hS1) | (with_reducible refine wpList_box1_st hS rfl rfl rfl ?_; intro g1 w1 hS1; clear hS; replace hS := hS1; clear hS1) | (with_reducible refine wpList_alloc_st hS rfl rfl (by assumption) ?_; intro g1 w1 hS1; clear hS; replace hS := hS1; clear hS1) | (with_reducible refine wpList_alloc1_st hS rfl rfl (by assumption) rfl ?_; intro g1 w1 hS1; clear hS; replace hS := hS1; clear hS1) | ((with_reducible refine wpList_load_st 0 hS rfl rfl rfl rfl ?_ rfl ?_); focus (simp [scalarB, go_sem]; done)) | ((with_reducible refine wpList_loadall_st 0 hS rfl rfl rfl rfl ?_ (by kernel_rfl) ?_); focus (simp [rowB, go_sem]; done)) | ((with_reducible refine wpList_store_st 0 hS rfl rfl rfl rfl (by kernel_rfl) rfl rfl ?_); intro w1 hS1; clear hS; replace hS := hS1; clear hS1; try simp only [List.set_cons_zero, List.set_cons_succ, List.setIfInBounds_toArray, List.take_succ_cons, List.take_zero, List.drop_succ_cons, List.drop_zero, List.nil_append, List.cons_append, List.append_nil, List.drop_nil, List.take_nil, List.length_cons, List.length_nil, Nat.zero_add, Nat.add_zero, Nat.reduceAdd] at hS) | ((with_reducible refine wpList_storerow_st 0 hS rfl rfl rfl rfl (by kernel_rfl) rfl rfl rfl rfl ?_); intro w1 hS1; clear hS; replace hS := hS1; clear hS1; try simp only [List.set_cons_zero, List.set_cons_succ, List.setIfInBounds_toArray, List.take_succ_cons, List.take_zero, List.drop_succ_cons, List.drop_zero, List.nil_append, List.cons_append, List.append_nil, List.drop_nil, List.take_nil, List.length_cons, List.length_nil, Nat.zero_add, Nat.add_zero, Nat.reduceAdd] at hS))
    refine mixs_begin (by kernel_rfl) hS ?_
    clear hS
    intro w2 hS
    refine mixs_take 0 (v := ?_) rfl (by kernel_rfl) (fun _ _ _ h => h) (by kernel_rfl) (by assumption) (fun s => ?hy) ?_; case hy => (go_simp <;> with_reducible rfl)
    try simp only [List.getElem_toArray, List.getElem_cons_succ, List.getElem_cons_zero, Act.put, List.setIfInBounds_toArray, List.set_cons_zero, List.set_cons_succ]
    refine mixs_take 1 (v := ?_) rfl (by kernel_rfl) (fun _ _ _ h => h) (by kernel_rfl) (by assumption) (fun s => ?hy) ?_; case hy => (go_simp <;> with_reducible rfl)
    try simp only [List.getElem_toArray, List.getElem_cons_succ, List.getElem_cons_zero, Act.put, List.setIfInBounds_toArray, List.set_cons_zero, List.set_cons_succ]
    refine mixs_take 3 (v := ?_) rfl (by kernel_rfl) (fun _ _ _ h => h) (by kernel_rfl) (by assumption) (fun s => ?hy) ?_; case hy => (go_simp <;> with_reducible rfl)
    try simp only [List.getElem_toArray, List.getElem_cons_succ, List.getElem_cons_zero, Act.put, List.setIfInBounds_toArray, List.set_cons_zero, List.set_cons_succ]
    refine mixs_take 4 (v := ?_) rfl (by kernel_rfl) (fun _ _ _ h => h) (by kernel_rfl) (by assumption) (fun s => ?hy) ?_; case hy => (go_simp <;> with_reducible rfl)
    try simp only [List.getElem_toArray, List.getElem_cons_succ, List.getElem_cons_zero, Act.put, List.setIfInBounds_toArray, List.set_cons_zero, List.set_cons_succ]
    refine mixs_take 6 (v := ?_) rfl (by kernel_rfl) (fun _ _ _ h => h) (by kernel_rfl) (by assumption) (fun s => ?hy) ?_; case hy => (go_simp <;> with_reducible rfl)
    try simp only [List.getElem_toArray, List.getElem_cons_succ, List.getElem_cons_zero, Act.put, List.setIfInBounds_toArray, List.set_cons_zero, List.set_cons_succ]
    refine mixs_take 7 (v := ?_) rfl (by kernel_rfl) (fun _ _ _ h => h) (by kernel_rfl) (by assumption) (fun s => ?hy) ?_; case hy => (go_simp <;> with_reducible rfl)
    try simp only [List.getElem_toArray, List.getElem_cons_succ, List.getElem_cons_zero, Act.put, List.setIfInBounds_toArray, List.set_cons_zero, List.set_cons_succ]
    refine mixs_take 8 (v := ?_) rfl (by kernel_rfl) (fun _ _ _ h => h) (by kernel_rfl) (by assumption) (fun s => ?hy) ?_; case hy => (go_simp <;> with_reducible rfl)
    try simp only [List.getElem_toArray, List.getElem_cons_succ, List.getElem_cons_zero, Act.put, List.setIfInBounds_toArray, List.set_cons_zero, List.set_cons_succ]
    refine mixs_take 9 (v := ?_) rfl (by kernel_rfl) (fun _ _ _ h => h) (by kernel_rfl) (by assumption) (fun s => ?hy) ?_; case hy => (go_simp <;> with_reducible rfl)
    try simp only [List.getElem_toArray, List.getElem_cons_succ, List.getElem_cons_zero, Act.put, List.setIfInBounds_toArray, List.set_cons_zero, List.set_cons_succ]
    refine mixs_take 10 (v := ?_) rfl (by kernel_rfl) (fun _ _ _ h => h) (by kernel_rfl) (by assumption) (fun s => ?hy) ?_; case hy => (go_simp <;> with_reducible rfl)
    try simp only [List.getElem_toArray, List.getElem_cons_succ, List.getElem_cons_zero, Act.put, List.setIfInBounds_toArray, List.set_cons_zero, List.set_cons_succ]
    refine mixs_take 11 (v := ?_) rfl (by kernel_rfl) (fun _ _ _ h => h) (by kernel_rfl) (by assumption) (fun s => ?hy) ?_; case hy => (go_simp <;> with_reducible rfl)
    try simp only [List.getElem_toArray, List.getElem_cons_succ, List.getElem_cons_zero, Act.put, List.setIfInBounds_toArray, List.set_cons_zero, List.set_cons_succ]
    refine mixs_take 12 (v := ?_) rfl (by kernel_rfl) (fun _ _ _ h => h) (by kernel_rfl) (by assumption) (fun s => ?hy) ?_; case hy => (go_simp <;> with_reducible rfl)
    try simp only [List.getElem_toArray, List.getElem_cons_succ, List.getElem_cons_zero, Act.put, List.setIfInBounds_toArray, List.set_cons_zero, List.set_cons_succ]
    refine mixs_two 2 14 (by kernel_rfl) rfl rfl (fun K hK => ?_) (fun K hK => ?_)
    ·
      go_simp
      ( go_at_call 119; refine (rnumber_any _ _ (by simp; omega)).mono ?_; rintro _ _ ⟨rfl, rfl⟩ )
      try clear hC
      refine hK.out _ _ _ (fun _ h => h) (by first | exact hS | exact hS.drop | exact hS.drop.drop | exact hS.drop.drop.drop | exact hS.drop.drop.drop.drop | exact hS.empty | exact hS.one 0 rfl | exact hS.one 1 rfl | exact hS.one 2 rfl | exact hS.one 3 rfl | exact hS.one 4 rfl | exact hS.one 5 rfl | exact hS.one 6 rfl | exact hS.one 7 rfl | exact hS.one 8 rfl | exact hS.one 9 rfl | exact hS.one 10 rfl | exact hS.one 11 rfl) (fun hC => ?_)
      clear hK K
      try simp only [List.getElem_toArray, List.getElem_cons_succ, List.getElem_cons_zero, Act.put, List.setIfInBounds_toArray, List.set_cons_zero, List.set_cons_succ]
      refine mixs_two 5 14 (by kernel_rfl) rfl rfl (fun K hK => ?_) (fun K hK => ?_)
      ·
        go_simp
        ( go_at_call 119; refine (rnumber_any _ _ (by simp; omega)).mono ?_; rintro _ _ ⟨rfl, rfl⟩ )
        try clear hC
        refine hK.out _ _ _ (fun _ h => h) (by first | exact hS | exact hS.drop | exact hS.drop.drop | exact hS.drop.drop.drop | exact hS.drop.drop.drop.drop | exact hS.empty | exact hS.one 0 rfl | exact hS.one 1 rfl | exact hS.one 2 rfl | exact hS.one 3 rfl | exact hS.one 4 rfl | exact hS.one 5 rfl | exact hS.one 6 rfl | exact hS.one 7 rfl | exact hS.one 8 rfl | exact hS.one 9 rfl | exact hS.one 10 rfl | exact hS.one 11 rfl) (fun hC => ?_)
        clear hK K
        try simp only [List.getElem_toArray, List.getElem_cons_succ, List.getElem_cons_zero, Act.put, List.setIfInBounds_toArray, List.set_cons_zero, List.set_cons_succ]
        refine mixs_take 13 (v := ?_) rfl (by kernel_rfl) (fun _ _ _ h => h) (by kernel_rfl) (by assumption) (fun s => ?hy) ?_; case hy => (go_simp <;> with_reducible rfl)
        try simp only [List.getElem_toArray, List.getElem_cons_succ, List.getElem_cons_zero, Act.put, List.setIfInBounds_toArray, List.set_cons_zero, List.set_cons_succ]
        refine mixs_one 14 (by kernel_rfl) rfl (fun K hK => ?_)
        refine op_alloc_st (by kernel_rfl) rfl (by assumption) hS ?_
        intro g1 w1 hS1; clear hS; have hS := hS1; clear hS1
        try clear hC
        refine hK.out _ _ _ (fun _ h => h) (by first | exact hS | exact hS.drop | exact hS.drop.drop | exact hS.drop.drop.drop | exact hS.drop.drop.drop.drop | exact hS.empty | exact hS.one 0 rfl | exact hS.one 1 rfl | exact hS.one 2 rfl | exact hS.one 3 rfl | exact hS.one 4 rfl | exact hS.one 5 rfl | exact hS.one 6 rfl | exact hS.one 7 rfl | exact hS.one 8 rfl | exact hS.one 9 rfl | exact hS.one 10 rfl | exact hS.one 11 rfl) (fun hC => ?_)
        clear hK K
        try simp only [List.getElem_toArray, List.getElem_cons_succ, List.getElem_cons_zero, Act.put, List.setIfInBounds_toArray, List.set_cons_zero, List.set_cons_succ]
        refine mixs_one 15 (by kernel_rfl) rfl (fun K hK => ?_)
        refine op_storerow_st (by kernel_rfl) 0 hS rfl rfl rfl (by kernel_rfl) rfl rfl rfl rfl ?_
        intro w1 hS1; clear hS; have hS := hS1; clear hS1; try simp only [List.set_cons_zero, List.set_cons_succ, List.setIfInBounds_toArray, List.take_succ_cons, List.take_zero, List.drop_succ_cons, List.drop_zero, List.nil_append, List.cons_append, List.append_nil, List.drop_nil, List.take_nil, List.length_cons, List.length_nil, Nat.zero_add, Nat.add_zero, Nat.reduceAdd] at hS
        try clear hC
        refine hK.out _ _ _ (fun _ h => h) (by first | exact hS | exact hS.drop | exact hS.drop.drop | exact hS.drop.drop.drop | exact hS.drop.drop.drop.drop | exact hS.empty | exact hS.one 0 rfl | exact hS.one 1 rfl | exact hS.one 2 rfl | exact hS.one 3 rfl | exact hS.one 4 rfl | exact hS.one 5 rfl | exact hS.one 6 rfl | exact hS.one 7 rfl | exact hS.one 8 rfl | exact hS.one 9 rfl | exact hS.one 10 rfl | exact hS.one 11 rfl) (fun hC => ?_)
        clear hK K
        try simp only [List.getElem_toArray, List.getElem_cons_succ, List.getElem_cons_zero, Act.put, List.setIfInBounds_toArray, List.set_cons_zero, List.set_cons_succ]
        refine wpAnyH_done (by kernel_rfl) ?_ _
        by_cases h52 : n % 64 ≤ 52
        · have i10 : IntKind.i64.wrap (10 + (n : Int) % 64) = 10 + (n : Int) % 64 := IntWalk.i64_in _ (by omega)
          have i11 : 0 ≤ 10 + (n : Int) % 64 := by omega
          have i13 : 10 + (n : Int) % 64 ≤ 64 := by omega
          have i14 : 10 ≤ 10 + (n : Int) % 64 := by omega
          have i12 : (10 + (n : Int) % 64).toNat = 10 + n % 64 := by omega
          clear x0 x1 x2 x3 b3 b4 hn j1 j2 j3 j4
          try clear hC
          go_wp2_with (first | (with_reducible refine wpList_box_st hS rfl rfl rfl ?_; intro g1 w1 hS1; clear hS; replace hS := hS1; clear hS1) | (with_reducible refine wpList_box1_st hS rfl rfl rfl ?_; intro g1 w1 hS1; clear hS; replace hS := hS1; clear hS1) | (with_reducible refine wpList_alloc_st hS rfl rfl (by assumption) ?_; intro g1 w1 hS1; clear hS; replace hS := hS1; clear hS1) | (with_reducible refine wpList_alloc1_st hS rfl rfl (by assumption) rfl ?_; intro g1 w1 hS1; clear hS; replace hS := hS1; clear hS1) | ((with_reducible refine wpList_load_st 0 hS rfl rfl rfl rfl ?_ rfl ?_); focus (simp [scalarB, go_sem]; done)) | ((with_reducible refine wpList_loadall_st 0 hS rfl rfl rfl rfl ?_ (by kernel_rfl) ?_); focus (simp [rowB, go_sem]; done)) | ((with_reducible refine wpList_store_st 0 hS rfl rfl rfl rfl (by kernel_rfl) rfl rfl ?_); intro w1 hS1; clear hS; replace hS := hS1; clear hS1; try simp only [List.set_cons_zero, List.set_cons_succ, List.setIfInBounds_toArray, List.take_succ_cons, List.take_zero, List.drop_succ_cons, List.drop_zero, List.nil_append, List.cons_append, List.append_nil, List.drop_nil, List.take_nil, List.length_cons, List.length_nil, Nat.zero_add, Nat.add_zero, Nat.reduceAdd] at hS) | ((with_reducible refine wpList_storerow_st 0 hS rfl rfl rfl rfl (by kernel_rfl) rfl rfl rfl rfl ?_); intro w1 hS1; clear hS; replace hS := hS1; clear hS1; try simp only [List.set_cons_zero, List.set_cons_succ, List.setIfInBounds_toArray, List.take_succ_cons, List.take_zero, List.drop_succ_cons, List.drop_zero, List.nil_append, List.cons_append, List.append_nil, List.drop_nil, List.take_nil, List.length_cons, List.length_nil, Nat.zero_add, Nat.add_zero, Nat.reduceAdd] at hS) | ((with_reducible refine wpList_load_st 1 hS rfl rfl rfl rfl ?_ rfl ?_); focus (simp [scalarB, go_sem]; done)) | ((with_reducible refine wpList_loadall_st 1 hS rfl rfl rfl rfl ?_ (by kernel_rfl) ?_); focus (simp [rowB, go_sem]; done)) | ((with_reducible refine wpList_store_st 1 hS rfl rfl rfl rfl (by kernel_rfl) rfl rfl ?_); intro w1 hS1; clear hS; replace hS := hS1; clear hS1; try simp only [List.set_cons_zero, List.set_cons_succ, List.setIfInBounds_toArray, List.take_succ_cons, List.take_zero, List.drop_succ_cons, List.drop_zero, List.nil_append, List.cons_append, List.append_nil, List.drop_nil, List.take_nil, List.length_cons, List.length_nil, Nat.zero_add, Nat.add_zero, Nat.reduceAdd] at hS) | ((with_reducible refine wpList_storerow_st 1 hS rfl rfl rfl rfl (by kernel_rfl) rfl rfl rfl rfl ?_); intro w1 hS1; clear hS; replace hS := hS1; clear hS1; try simp only [List.set_cons_zero, List.set_cons_succ, List.setIfInBounds_toArray, List.take_succ_cons, List.take_zero, List.drop_succ_cons, List.drop_zero, List.nil_append, List.cons_append, List.append_nil, List.drop_nil, List.take_nil, List.length_cons, List.length_nil, Nat.zero_add, Nat.add_zero, Nat.reduceAdd] at hS) | (go_at_call 108; refine (rput_any p _ (by have := hpb.out; unfold maxLen; omega)).mono ?_; rintro _ w3 ⟨rfl, hb3⟩; have hS1 := hS.keepB hb3; clear hb3 hS; have hS := hS1; clear hS1))
          all_goals
            have c := hS.cell 1 rfl
            first
              | (have h : (!putB p == s.toList) = true := by assumption
                 have e : getB s = (noPc, false) := by
                   rw [hgt.out, if_neg]
                   rintro ⟨-, k⟩
                   rw [← k] at h
                   simp at h
                 rw [e]
                 exact bodyPost_ret (by simp [results, Try.results117, go_sem, c]; rfl) rfl ⟨rfl, hS.below⟩)
              | (have h0 : (!putB p == s.toList) = false := by assumption
                 have h : putB p = s.toList := by simpa using h0
                 have e : getB s = (p, true) := by
                   rw [hgt.out, if_pos]
                   refine ⟨h52, ?_⟩
                   apply ba_ext
                   rw [str_data, h, ByteArray.toList_eq]
                 rw [e]
                 exact bodyPost_ret (by simp [results, Try.results117, go_sem, c]; rfl) rfl ⟨rfl, hS.below⟩)
        · have e : getB s = (noPc, false) := by
            rw [hgt.out, if_neg]
            rintro ⟨k, -⟩
            omega
          have i52 : 52 < (n : Int) % 64 := by omega
          clear x0 x1 x2 x3 x4 b3 b4 hn j1 j2 j3 j4
          try clear hC
          go_wp2_with (first | (with_reducible refine wpList_box_st hS rfl rfl rfl ?_; intro g1 w1 hS1; clear hS; replace hS := hS1; clear hS1) | (with_reducible refine wpList_box1_st hS rfl rfl rfl ?_; intro g1 w1 hS1; clear hS; replace hS := hS1; clear hS1) | (with_reducible refine wpList_alloc_st hS rfl rfl (by assumption) ?_; intro g1 w1 hS1; clear hS; replace hS := hS1; clear hS1) | (with_reducible refine wpList_alloc1_st hS rfl rfl (by assumption) rfl ?_; intro g1 w1 hS1; clear hS; replace hS := hS1; clear hS1) | ((with_reducible refine wpList_load_st 0 hS rfl rfl rfl rfl ?_ rfl ?_); focus (simp [scalarB, go_sem]; done)) | ((with_reducible refine wpList_loadall_st 0 hS rfl rfl rfl rfl ?_ (by kernel_rfl) ?_); focus (simp [rowB, go_sem]; done)) | ((with_reducible refine wpList_store_st 0 hS rfl rfl rfl rfl (by kernel_rfl) rfl rfl ?_); intro w1 hS1; clear hS; replace hS := hS1; clear hS1; try simp only [List.set_cons_zero, List.set_cons_succ, List.setIfInBounds_toArray, List.take_succ_cons, List.take_zero, List.drop_succ_cons, List.drop_zero, List.nil_append, List.cons_append, List.append_nil, List.drop_nil, List.take_nil, List.length_cons, List.length_nil, Nat.zero_add, Nat.add_zero, Nat.reduceAdd] at hS) | ((with_reducible refine wpList_storerow_st 0 hS rfl rfl rfl rfl (by kernel_rfl) rfl rfl rfl rfl ?_); intro w1 hS1; clear hS; replace hS := hS1; clear hS1; try simp only [List.set_cons_zero, List.set_cons_succ, List.setIfInBounds_toArray, List.take_succ_cons, List.take_zero, List.drop_succ_cons, List.drop_zero, List.nil_append, List.cons_append, List.append_nil, List.drop_nil, List.take_nil, List.length_cons, List.length_nil, Nat.zero_add, Nat.add_zero, Nat.reduceAdd] at hS) | ((with_reducible refine wpList_load_st 1 hS rfl rfl rfl rfl ?_ rfl ?_); focus (simp [scalarB, go_sem]; done)) | ((with_reducible refine wpList_loadall_st 1 hS rfl rfl rfl rfl ?_ (by kernel_rfl) ?_); focus (simp [rowB, go_sem]; done)) | ((with_reducible refine wpList_store_st 1 hS rfl rfl rfl rfl (by kernel_rfl) rfl rfl ?_); intro w1 hS1; clear hS; replace hS := hS1; clear hS1; try simp only [List.set_cons_zero, List.set_cons_succ, List.setIfInBounds_toArray, List.take_succ_cons, List.take_zero, List.drop_succ_cons, List.drop_zero, List.nil_append, List.cons_append, List.append_nil, List.drop_nil, List.take_nil, List.length_cons, List.length_nil, Nat.zero_add, Nat.add_zero, Nat.reduceAdd] at hS) | ((with_reducible refine wpList_storerow_st 1 hS rfl rfl rfl rfl (by kernel_rfl) rfl rfl rfl rfl ?_); intro w1 hS1; clear hS; replace hS := hS1; clear hS1; try simp only [List.set_cons_zero, List.set_cons_succ, List.setIfInBounds_toArray, List.take_succ_cons, List.take_zero, List.drop_succ_cons, List.drop_zero, List.nil_append, List.cons_append, List.append_nil, List.drop_nil, List.take_nil, List.length_cons, List.length_nil, Nat.zero_add, Nat.add_zero, Nat.reduceAdd] at hS))
          rw [e]
          have c := hS.cell 1 rfl
          exact bodyPost_ret (by simp [results, Try.results117, go_sem, c]; rfl) rfl ⟨rfl, hS.below⟩
      ·
        refine op_alloc_st (by kernel_rfl) rfl (by assumption) hS ?_
        intro g1 w1 hS1; clear hS; have hS := hS1; clear hS1
        try clear hC
        refine hK.out _ _ _ (fun _ h => h) (by first | exact hS | exact hS.drop | exact hS.drop.drop | exact hS.drop.drop.drop | exact hS.drop.drop.drop.drop | exact hS.empty | exact hS.one 0 rfl | exact hS.one 1 rfl | exact hS.one 2 rfl | exact hS.one 3 rfl | exact hS.one 4 rfl | exact hS.one 5 rfl | exact hS.one 6 rfl | exact hS.one 7 rfl | exact hS.one 8 rfl | exact hS.one 9 rfl | exact hS.one 10 rfl | exact hS.one 11 rfl) (fun hC => ?_)
        clear hK K
        try simp only [List.getElem_toArray, List.getElem_cons_succ, List.getElem_cons_zero, Act.put, List.setIfInBounds_toArray, List.set_cons_zero, List.set_cons_succ]
        refine mixs_one 5 (by kernel_rfl) rfl (fun K hK => ?_)
        go_simp
        ( go_at_call 119; refine (rnumber_any _ _ (by simp; omega)).mono ?_; rintro _ _ ⟨rfl, rfl⟩ )
        try clear hC
        refine hK.out _ _ _ (fun _ h => h) (by first | exact hS | exact hS.drop | exact hS.drop.drop | exact hS.drop.drop.drop | exact hS.drop.drop.drop.drop | exact hS.empty | exact hS.one 0 rfl | exact hS.one 1 rfl | exact hS.one 2 rfl | exact hS.one 3 rfl | exact hS.one 4 rfl | exact hS.one 5 rfl | exact hS.one 6 rfl | exact hS.one 7 rfl | exact hS.one 8 rfl | exact hS.one 9 rfl | exact hS.one 10 rfl | exact hS.one 11 rfl) (fun hC => ?_)
        clear hK K
        try simp only [List.getElem_toArray, List.getElem_cons_succ, List.getElem_cons_zero, Act.put, List.setIfInBounds_toArray, List.set_cons_zero, List.set_cons_succ]
        refine mixs_take 13 (v := ?_) rfl (by kernel_rfl) (fun _ _ _ h => h) (by kernel_rfl) (by assumption) (fun s => ?hy) ?_; case hy => (go_simp <;> with_reducible rfl)
        try simp only [List.getElem_toArray, List.getElem_cons_succ, List.getElem_cons_zero, Act.put, List.setIfInBounds_toArray, List.set_cons_zero, List.set_cons_succ]
        refine mixs_one 15 (by kernel_rfl) rfl (fun K hK => ?_)
        refine op_storerow_st (by kernel_rfl) 0 hS rfl rfl rfl (by kernel_rfl) rfl rfl rfl rfl ?_
        intro w1 hS1; clear hS; have hS := hS1; clear hS1; try simp only [List.set_cons_zero, List.set_cons_succ, List.setIfInBounds_toArray, List.take_succ_cons, List.take_zero, List.drop_succ_cons, List.drop_zero, List.nil_append, List.cons_append, List.append_nil, List.drop_nil, List.take_nil, List.length_cons, List.length_nil, Nat.zero_add, Nat.add_zero, Nat.reduceAdd] at hS
        try clear hC
        refine hK.out _ _ _ (fun _ h => h) (by first | exact hS | exact hS.drop | exact hS.drop.drop | exact hS.drop.drop.drop | exact hS.drop.drop.drop.drop | exact hS.empty | exact hS.one 0 rfl | exact hS.one 1 rfl | exact hS.one 2 rfl | exact hS.one 3 rfl | exact hS.one 4 rfl | exact hS.one 5 rfl | exact hS.one 6 rfl | exact hS.one 7 rfl | exact hS.one 8 rfl | exact hS.one 9 rfl | exact hS.one 10 rfl | exact hS.one 11 rfl) (fun hC => ?_)
        clear hK K
        try simp only [List.getElem_toArray, List.getElem_cons_succ, List.getElem_cons_zero, Act.put, List.setIfInBounds_toArray, List.set_cons_zero, List.set_cons_succ]
        refine wpAnyH_done (by kernel_rfl) ?_ _
        by_cases h52 : n % 64 ≤ 52
        · have i10 : IntKind.i64.wrap (10 + (n : Int) % 64) = 10 + (n : Int) % 64 := IntWalk.i64_in _ (by omega)
          have i11 : 0 ≤ 10 + (n : Int) % 64 := by omega
          have i13 : 10 + (n : Int) % 64 ≤ 64 := by omega
          have i14 : 10 ≤ 10 + (n : Int) % 64 := by omega
          have i12 : (10 + (n : Int) % 64).toNat = 10 + n % 64 := by omega
          clear x0 x1 x2 x3 b3 b4 hn j1 j2 j3 j4
          try clear hC
          go_wp2_with (first | (with_reducible refine wpList_box_st hS rfl rfl rfl ?_; intro g1 w1 hS1; clear hS; replace hS := hS1; clear hS1) | (with_reducible refine wpList_box1_st hS rfl rfl rfl ?_; intro g1 w1 hS1; clear hS; replace hS := hS1; clear hS1) | (with_reducible refine wpList_alloc_st hS rfl rfl (by assumption) ?_; intro g1 w1 hS1; clear hS; replace hS := hS1; clear hS1) | (with_reducible refine wpList_alloc1_st hS rfl rfl (by assumption) rfl ?_; intro g1 w1 hS1; clear hS; replace hS := hS1; clear hS1) | ((with_reducible refine wpList_load_st 0 hS rfl rfl rfl rfl ?_ rfl ?_); focus (simp [scalarB, go_sem]; done)) | ((with_reducible refine wpList_loadall_st 0 hS rfl rfl rfl rfl ?_ (by kernel_rfl) ?_); focus (simp [rowB, go_sem]; done)) | ((with_reducible refine wpList_store_st 0 hS rfl rfl rfl rfl (by kernel_rfl) rfl rfl ?_); intro w1 hS1; clear hS; replace hS := hS1; clear hS1; try simp only [List.set_cons_zero, List.set_cons_succ, List.setIfInBounds_toArray, List.take_succ_cons, List.take_zero, List.drop_succ_cons, List.drop_zero, List.nil_append, List.cons_append, List.append_nil, List.drop_nil, List.take_nil, List.length_cons, List.length_nil, Nat.zero_add, Nat.add_zero, Nat.reduceAdd] at hS) | ((with_reducible refine wpList_storerow_st 0 hS rfl rfl rfl rfl (by kernel_rfl) rfl rfl rfl rfl ?_); intro w1 hS1; clear hS; replace hS := hS1; clear hS1; try simp only [List.set_cons_zero, List.set_cons_succ, List.setIfInBounds_toArray, List.take_succ_cons, List.take_zero, List.drop_succ_cons, List.drop_zero, List.nil_append, List.cons_append, List.append_nil, List.drop_nil, List.take_nil, List.length_cons, List.length_nil, Nat.zero_add, Nat.add_zero, Nat.reduceAdd] at hS) | ((with_reducible refine wpList_load_st 1 hS rfl rfl rfl rfl ?_ rfl ?_); focus (simp [scalarB, go_sem]; done)) | ((with_reducible refine wpList_loadall_st 1 hS rfl rfl rfl rfl ?_ (by kernel_rfl) ?_); focus (simp [rowB, go_sem]; done)) | ((with_reducible refine wpList_store_st 1 hS rfl rfl rfl rfl (by kernel_rfl) rfl rfl ?_); intro w1 hS1; clear hS; replace hS := hS1; clear hS1; try simp only [List.set_cons_zero, List.set_cons_succ, List.setIfInBounds_toArray, List.take_succ_cons, List.take_zero, List.drop_succ_cons, List.drop_zero, List.nil_append, List.cons_append, List.append_nil, List.drop_nil, List.take_nil, List.length_cons, List.length_nil, Nat.zero_add, Nat.add_zero, Nat.reduceAdd] at hS) | ((with_reducible refine wpList_storerow_st 1 hS rfl rfl rfl rfl (by kernel_rfl) rfl rfl rfl rfl ?_); intro w1 hS1; clear hS; replace hS := hS1; clear hS1; try simp only [List.set_cons_zero, List.set_cons_succ, List.setIfInBounds_toArray, List.take_succ_cons, List.take_zero, List.drop_succ_cons, List.drop_zero, List.nil_append, List.cons_append, List.append_nil, List.drop_nil, List.take_nil, List.length_cons, List.length_nil, Nat.zero_add, Nat.add_zero, Nat.reduceAdd] at hS) | (go_at_call 108; refine (rput_any p _ (by have := hpb.out; unfold maxLen; omega)).mono ?_; rintro _ w3 ⟨rfl, hb3⟩; have hS1 := hS.keepB hb3; clear hb3 hS; have hS := hS1; clear hS1))
          all_goals
            have c := hS.cell 1 rfl
            first
              | (have h : (!putB p == s.toList) = true := by assumption
                 have e : getB s = (noPc, false) := by
                   rw [hgt.out, if_neg]
                   rintro ⟨-, k⟩
                   rw [← k] at h
                   simp at h
                 rw [e]
                 exact bodyPost_ret (by simp [results, Try.results117, go_sem, c]; rfl) rfl ⟨rfl, hS.below⟩)
              | (have h0 : (!putB p == s.toList) = false := by assumption
                 have h : putB p = s.toList := by simpa using h0
                 have e : getB s = (p, true) := by
                   rw [hgt.out, if_pos]
                   refine ⟨h52, ?_⟩
                   apply ba_ext
                   rw [str_data, h, ByteArray.toList_eq]
                 rw [e]
                 exact bodyPost_ret (by simp [results, Try.results117, go_sem, c]; rfl) rfl ⟨rfl, hS.below⟩)
        · have e : getB s = (noPc, false) := by
            rw [hgt.out, if_neg]
            rintro ⟨k, -⟩
            omega
          have i52 : 52 < (n : Int) % 64 := by omega
          clear x0 x1 x2 x3 x4 b3 b4 hn j1 j2 j3 j4
          try clear hC
          go_wp2_with (first | (with_reducible refine wpList_box_st hS rfl rfl rfl ?_; intro g1 w1 hS1; clear hS; replace hS := hS1; clear hS1) | (with_reducible refine wpList_box1_st hS rfl rfl rfl ?_; intro g1 w1 hS1; clear hS; replace hS := hS1; clear hS1) | (with_reducible refine wpList_alloc_st hS rfl rfl (by assumption) ?_; intro g1 w1 hS1; clear hS; replace hS := hS1; clear hS1) | (with_reducible refine wpList_alloc1_st hS rfl rfl (by assumption) rfl ?_; intro g1 w1 hS1; clear hS; replace hS := hS1; clear hS1) | ((with_reducible refine wpList_load_st 0 hS rfl rfl rfl rfl ?_ rfl ?_); focus (simp [scalarB, go_sem]; done)) | ((with_reducible refine wpList_loadall_st 0 hS rfl rfl rfl rfl ?_ (by kernel_rfl) ?_); focus (simp [rowB, go_sem]; done)) | ((with_reducible refine wpList_store_st 0 hS rfl rfl rfl rfl (by kernel_rfl) rfl rfl ?_); intro w1 hS1; clear hS; replace hS := hS1; clear hS1; try simp only [List.set_cons_zero, List.set_cons_succ, List.setIfInBounds_toArray, List.take_succ_cons, List.take_zero, List.drop_succ_cons, List.drop_zero, List.nil_append, List.cons_append, List.append_nil, List.drop_nil, List.take_nil, List.length_cons, List.length_nil, Nat.zero_add, Nat.add_zero, Nat.reduceAdd] at hS) | ((with_reducible refine wpList_storerow_st 0 hS rfl rfl rfl rfl (by kernel_rfl) rfl rfl rfl rfl ?_); intro w1 hS1; clear hS; replace hS := hS1; clear hS1; try simp only [List.set_cons_zero, List.set_cons_succ, List.setIfInBounds_toArray, List.take_succ_cons, List.take_zero, List.drop_succ_cons, List.drop_zero, List.nil_append, List.cons_append, List.append_nil, List.drop_nil, List.take_nil, List.length_cons, List.length_nil, Nat.zero_add, Nat.add_zero, Nat.reduceAdd] at hS) | ((with_reducible refine wpList_load_st 1 hS rfl rfl rfl rfl ?_ rfl ?_); focus (simp [scalarB, go_sem]; done)) | ((with_reducible refine wpList_loadall_st 1 hS rfl rfl rfl rfl ?_ (by kernel_rfl) ?_); focus (simp [rowB, go_sem]; done)) | ((with_reducible refine wpList_store_st 1 hS rfl rfl rfl rfl (by kernel_rfl) rfl rfl ?_); intro w1 hS1; clear hS; replace hS := hS1; clear hS1; try simp only [List.set_cons_zero, List.set_cons_succ, List.setIfInBounds_toArray, List.take_succ_cons, List.take_zero, List.drop_succ_cons, List.drop_zero, List.nil_append, List.cons_append, List.append_nil, List.drop_nil, List.take_nil, List.length_cons, List.length_nil, Nat.zero_add, Nat.add_zero, Nat.reduceAdd] at hS) | ((with_reducible refine wpList_storerow_st 1 hS rfl rfl rfl rfl (by kernel_rfl) rfl rfl rfl rfl ?_); intro w1 hS1; clear hS; replace hS := hS1; clear hS1; try simp only [List.set_cons_zero, List.set_cons_succ, List.setIfInBounds_toArray, List.take_succ_cons, List.take_zero, List.drop_succ_cons, List.drop_zero, List.nil_append, List.cons_append, List.append_nil, List.drop_nil, List.take_nil, List.length_cons, List.length_nil, Nat.zero_add, Nat.add_zero, Nat.reduceAdd] at hS))
          rw [e]
          have c := hS.cell 1 rfl
          exact bodyPost_ret (by simp [results, Try.results117, go_sem, c]; rfl) rfl ⟨rfl, hS.below⟩
    ·
      refine op_alloc_st (by kernel_rfl) rfl (by assumption) hS ?_
      intro g1 w1 hS1; clear hS; have hS := hS1; clear hS1
      try clear hC
      refine hK.out _ _ _ (fun _ h => h) (by first | exact hS | exact hS.drop | exact hS.drop.drop | exact hS.drop.drop.drop | exact hS.drop.drop.drop.drop | exact hS.empty | exact hS.one 0 rfl | exact hS.one 1 rfl | exact hS.one 2 rfl | exact hS.one 3 rfl | exact hS.one 4 rfl | exact hS.one 5 rfl | exact hS.one 6 rfl | exact hS.one 7 rfl | exact hS.one 8 rfl | exact hS.one 9 rfl | exact hS.one 10 rfl | exact hS.one 11 rfl) (fun hC => ?_)
      clear hK K
      try simp only [List.getElem_toArray, List.getElem_cons_succ, List.getElem_cons_zero, Act.put, List.setIfInBounds_toArray, List.set_cons_zero, List.set_cons_succ]
      refine mixs_one 2 (by kernel_rfl) rfl (fun K hK => ?_)
      go_simp
      ( go_at_call 119; refine (rnumber_any _ _ (by simp; omega)).mono ?_; rintro _ _ ⟨rfl, rfl⟩ )
      try clear hC
      refine hK.out _ _ _ (fun _ h => h) (by first | exact hS | exact hS.drop | exact hS.drop.drop | exact hS.drop.drop.drop | exact hS.drop.drop.drop.drop | exact hS.empty | exact hS.one 0 rfl | exact hS.one 1 rfl | exact hS.one 2 rfl | exact hS.one 3 rfl | exact hS.one 4 rfl | exact hS.one 5 rfl | exact hS.one 6 rfl | exact hS.one 7 rfl | exact hS.one 8 rfl | exact hS.one 9 rfl | exact hS.one 10 rfl | exact hS.one 11 rfl) (fun hC => ?_)
      clear hK K
      try simp only [List.getElem_toArray, List.getElem_cons_succ, List.getElem_cons_zero, Act.put, List.setIfInBounds_toArray, List.set_cons_zero, List.set_cons_succ]
      refine mixs_one 5 (by kernel_rfl) rfl (fun K hK => ?_)
      go_simp
      ( go_at_call 119; refine (rnumber_any _ _ (by simp; omega)).mono ?_; rintro _ _ ⟨rfl, rfl⟩ )
      try clear hC
      refine hK.out _ _ _ (fun _ h => h) (by first | exact hS | exact hS.drop | exact hS.drop.drop | exact hS.drop.drop.drop | exact hS.drop.drop.drop.drop | exact hS.empty | exact hS.one 0 rfl | exact hS.one 1 rfl | exact hS.one 2 rfl | exact hS.one 3 rfl | exact hS.one 4 rfl | exact hS.one 5 rfl | exact hS.one 6 rfl | exact hS.one 7 rfl | exact hS.one 8 rfl | exact hS.one 9 rfl | exact hS.one 10 rfl | exact hS.one 11 rfl) (fun hC => ?_)
      clear hK K
      try simp only [List.getElem_toArray, List.getElem_cons_succ, List.getElem_cons_zero, Act.put, List.setIfInBounds_toArray, List.set_cons_zero, List.set_cons_succ]
      refine mixs_take 13 (v := ?_) rfl (by kernel_rfl) (fun _ _ _ h => h) (by kernel_rfl) (by assumption) (fun s => ?hy) ?_; case hy => (go_simp <;> with_reducible rfl)
      try simp only [List.getElem_toArray, List.getElem_cons_succ, List.getElem_cons_zero, Act.put, List.setIfInBounds_toArray, List.set_cons_zero, List.set_cons_succ]
      refine mixs_one 15 (by kernel_rfl) rfl (fun K hK => ?_)
      refine op_storerow_st (by kernel_rfl) 0 hS rfl rfl rfl (by kernel_rfl) rfl rfl rfl rfl ?_
      intro w1 hS1; clear hS; have hS := hS1; clear hS1; try simp only [List.set_cons_zero, List.set_cons_succ, List.setIfInBounds_toArray, List.take_succ_cons, List.take_zero, List.drop_succ_cons, List.drop_zero, List.nil_append, List.cons_append, List.append_nil, List.drop_nil, List.take_nil, List.length_cons, List.length_nil, Nat.zero_add, Nat.add_zero, Nat.reduceAdd] at hS
      try clear hC
      refine hK.out _ _ _ (fun _ h => h) (by first | exact hS | exact hS.drop | exact hS.drop.drop | exact hS.drop.drop.drop | exact hS.drop.drop.drop.drop | exact hS.empty | exact hS.one 0 rfl | exact hS.one 1 rfl | exact hS.one 2 rfl | exact hS.one 3 rfl | exact hS.one 4 rfl | exact hS.one 5 rfl | exact hS.one 6 rfl | exact hS.one 7 rfl | exact hS.one 8 rfl | exact hS.one 9 rfl | exact hS.one 10 rfl | exact hS.one 11 rfl) (fun hC => ?_)
      clear hK K
      try simp only [List.getElem_toArray, List.getElem_cons_succ, List.getElem_cons_zero, Act.put, List.setIfInBounds_toArray, List.set_cons_zero, List.set_cons_succ]
      refine wpAnyH_done (by kernel_rfl) ?_ _
      by_cases h52 : n % 64 ≤ 52
      · have i10 : IntKind.i64.wrap (10 + (n : Int) % 64) = 10 + (n : Int) % 64 := IntWalk.i64_in _ (by omega)
        have i11 : 0 ≤ 10 + (n : Int) % 64 := by omega
        have i13 : 10 + (n : Int) % 64 ≤ 64 := by omega
        have i14 : 10 ≤ 10 + (n : Int) % 64 := by omega
        have i12 : (10 + (n : Int) % 64).toNat = 10 + n % 64 := by omega
        clear x0 x1 x2 x3 b3 b4 hn j1 j2 j3 j4
        try clear hC
        go_wp2_with (first | (with_reducible refine wpList_box_st hS rfl rfl rfl ?_; intro g1 w1 hS1; clear hS; replace hS := hS1; clear hS1) | (with_reducible refine wpList_box1_st hS rfl rfl rfl ?_; intro g1 w1 hS1; clear hS; replace hS := hS1; clear hS1) | (with_reducible refine wpList_alloc_st hS rfl rfl (by assumption) ?_; intro g1 w1 hS1; clear hS; replace hS := hS1; clear hS1) | (with_reducible refine wpList_alloc1_st hS rfl rfl (by assumption) rfl ?_; intro g1 w1 hS1; clear hS; replace hS := hS1; clear hS1) | ((with_reducible refine wpList_load_st 0 hS rfl rfl rfl rfl ?_ rfl ?_); focus (simp [scalarB, go_sem]; done)) | ((with_reducible refine wpList_loadall_st 0 hS rfl rfl rfl rfl ?_ (by kernel_rfl) ?_); focus (simp [rowB, go_sem]; done)) | ((with_reducible refine wpList_store_st 0 hS rfl rfl rfl rfl (by kernel_rfl) rfl rfl ?_); intro w1 hS1; clear hS; replace hS := hS1; clear hS1; try simp only [List.set_cons_zero, List.set_cons_succ, List.setIfInBounds_toArray, List.take_succ_cons, List.take_zero, List.drop_succ_cons, List.drop_zero, List.nil_append, List.cons_append, List.append_nil, List.drop_nil, List.take_nil, List.length_cons, List.length_nil, Nat.zero_add, Nat.add_zero, Nat.reduceAdd] at hS) | ((with_reducible refine wpList_storerow_st 0 hS rfl rfl rfl rfl (by kernel_rfl) rfl rfl rfl rfl ?_); intro w1 hS1; clear hS; replace hS := hS1; clear hS1; try simp only [List.set_cons_zero, List.set_cons_succ, List.setIfInBounds_toArray, List.take_succ_cons, List.take_zero, List.drop_succ_cons, List.drop_zero, List.nil_append, List.cons_append, List.append_nil, List.drop_nil, List.take_nil, List.length_cons, List.length_nil, Nat.zero_add, Nat.add_zero, Nat.reduceAdd] at hS) | ((with_reducible refine wpList_load_st 1 hS rfl rfl rfl rfl ?_ rfl ?_); focus (simp [scalarB, go_sem]; done)) | ((with_reducible refine wpList_loadall_st 1 hS rfl rfl rfl rfl ?_ (by kernel_rfl) ?_); focus (simp [rowB, go_sem]; done)) | ((with_reducible refine wpList_store_st 1 hS rfl rfl rfl rfl (by kernel_rfl) rfl rfl ?_); intro w1 hS1; clear hS; replace hS := hS1; clear hS1; try simp only [List.set_cons_zero, List.set_cons_succ, List.setIfInBounds_toArray, List.take_succ_cons, List.take_zero, List.drop_succ_cons, List.drop_zero, List.nil_append, List.cons_append, List.append_nil, List.drop_nil, List.take_nil, List.length_cons, List.length_nil, Nat.zero_add, Nat.add_zero, Nat.reduceAdd] at hS) | ((with_reducible refine wpList_storerow_st 1 hS rfl rfl rfl rfl (by kernel_rfl) rfl rfl rfl rfl ?_); intro w1 hS1; clear hS; replace hS := hS1; clear hS1; try simp only [List.set_cons_zero, List.set_cons_succ, List.setIfInBounds_toArray, List.take_succ_cons, List.take_zero, List.drop_succ_cons, List.drop_zero, List.nil_append, List.cons_append, List.append_nil, List.drop_nil, List.take_nil, List.length_cons, List.length_nil, Nat.zero_add, Nat.add_zero, Nat.reduceAdd] at hS) | (go_at_call 108; refine (rput_any p _ (by have := hpb.out; unfold maxLen; omega)).mono ?_; rintro _ w3 ⟨rfl, hb3⟩; have hS1 := hS.keepB hb3; clear hb3 hS; have hS := hS1; clear hS1))
        all_goals
          have c := hS.cell 1 rfl
          first
            | (have h : (!putB p == s.toList) = true := by assumption
               have e : getB s = (noPc, false) := by
                 rw [hgt.out, if_neg]
                 rintro ⟨-, k⟩
                 rw [← k] at h
                 simp at h
               rw [e]
               exact bodyPost_ret (by simp [results, Try.results117, go_sem, c]; rfl) rfl ⟨rfl, hS.below⟩)
            | (have h0 : (!putB p == s.toList) = false := by assumption
               have h : putB p = s.toList := by simpa using h0
               have e : getB s = (p, true) := by
                 rw [hgt.out, if_pos]
                 refine ⟨h52, ?_⟩
                 apply ba_ext
                 rw [str_data, h, ByteArray.toList_eq]
               rw [e]
               exact bodyPost_ret (by simp [results, Try.results117, go_sem, c]; rfl) rfl ⟨rfl, hS.below⟩)
      · have e : getB s = (noPc, false) := by
          rw [hgt.out, if_neg]
          rintro ⟨k, -⟩
          omega
        have i52 : 52 < (n : Int) % 64 := by omega
        clear x0 x1 x2 x3 x4 b3 b4 hn j1 j2 j3 j4
        try clear hC
        go_wp2_with (first | (with_reducible refine wpList_box_st hS rfl rfl rfl ?_; intro g1 w1 hS1; clear hS; replace hS := hS1; clear hS1) | (with_reducible refine wpList_box1_st hS rfl rfl rfl ?_; intro g1 w1 hS1; clear hS; replace hS := hS1; clear hS1) | (with_reducible refine wpList_alloc_st hS rfl rfl (by assumption) ?_; intro g1 w1 hS1; clear hS; replace hS := hS1; clear hS1) | (with_reducible refine wpList_alloc1_st hS rfl rfl (by assumption) rfl ?_; intro g1 w1 hS1; clear hS; replace hS := hS1; clear hS1) | ((with_reducible refine wpList_load_st 0 hS rfl rfl rfl rfl ?_ rfl ?_); focus (simp [scalarB, go_sem]; done)) | ((with_reducible refine wpList_loadall_st 0 hS rfl rfl rfl rfl ?_ (by kernel_rfl) ?_); focus (simp [rowB, go_sem]; done)) | ((with_reducible refine wpList_store_st 0 hS rfl rfl rfl rfl (by kernel_rfl) rfl rfl ?_); intro w1 hS1; clear hS; replace hS := hS1; clear hS1; try simp only [List.set_cons_zero, List.set_cons_succ, List.setIfInBounds_toArray, List.take_succ_cons, List.take_zero, List.drop_succ_cons, List.drop_zero, List.nil_append, List.cons_append, List.append_nil, List.drop_nil, List.take_nil, List.length_cons, List.length_nil, Nat.zero_add, Nat.add_zero, Nat.reduceAdd] at hS) | ((with_reducible refine wpList_storerow_st 0 hS rfl rfl rfl rfl (by kernel_rfl) rfl rfl rfl rfl ?_); intro w1 hS1; clear hS; replace hS := hS1; clear hS1; try simp only [List.set_cons_zero, List.set_cons_succ, List.setIfInBounds_toArray, List.take_succ_cons, List.take_zero, List.drop_succ_cons, List.drop_zero, List.nil_append, List.cons_append, List.append_nil, List.drop_nil, List.take_nil, List.length_cons, List.length_nil, Nat.zero_add, Nat.add_zero, Nat.reduceAdd] at hS) | ((with_reducible refine wpList_load_st 1 hS rfl rfl rfl rfl ?_ rfl ?_); focus (simp [scalarB, go_sem]; done)) | ((with_reducible refine wpList_loadall_st 1 hS rfl rfl rfl rfl ?_ (by kernel_rfl) ?_); focus (simp [rowB, go_sem]; done)) | ((with_reducible refine wpList_store_st 1 hS rfl rfl rfl rfl (by kernel_rfl) rfl rfl ?_); intro w1 hS1; clear hS; replace hS := hS1; clear hS1; try simp only [List.set_cons_zero, List.set_cons_succ, List.setIfInBounds_toArray, List.take_succ_cons, List.take_zero, List.drop_succ_cons, List.drop_zero, List.nil_append, List.cons_append, List.append_nil, List.drop_nil, List.take_nil, List.length_cons, List.length_nil, Nat.zero_add, Nat.add_zero, Nat.reduceAdd] at hS) | ((with_reducible refine wpList_storerow_st 1 hS rfl rfl rfl rfl (by kernel_rfl) rfl rfl rfl rfl ?_); intro w1 hS1; clear hS; replace hS := hS1; clear hS1; try simp only [List.set_cons_zero, List.set_cons_succ, List.setIfInBounds_toArray, List.take_succ_cons, List.take_zero, List.drop_succ_cons, List.drop_zero, List.nil_append, List.cons_append, List.append_nil, List.drop_nil, List.take_nil, List.length_cons, List.length_nil, Nat.zero_add, Nat.add_zero, Nat.reduceAdd] at hS))
        rw [e]
        have c := hS.cell 1 rfl
        exact bodyPost_ret (by simp [results, Try.results117, go_sem, c]; rfl) rfl ⟨rfl, hS.below⟩
  · have e : getB s = (noPc, false) := by rw [getB, if_neg]; rintro ⟨h, _⟩; exact hl h
    rw [e]
    clear e
    go_enter Try.func117, Try.ntmps117
    go_wp2_with (first | (with_reducible refine wpList_box_st hS rfl rfl rfl ?_; intro g1 w1 hS1; clear hS; replace hS := hS1; clear hS1) | (with_reducible refine wpList_box1_st hS rfl rfl rfl ?_; intro g1 w1 hS1; clear hS; replace hS := hS1; clear hS1) | (with_reducible refine wpList_alloc_st hS rfl rfl (by assumption) ?_; intro g1 w1 hS1; clear hS; replace hS := hS1; clear hS1) | (with_reducible refine wpList_alloc1_st hS rfl rfl (by assumption) rfl ?_; intro g1 w1 hS1; clear hS; replace hS := hS1; clear hS1) | ((with_reducible refine wpList_load_st 0 hS rfl rfl rfl rfl ?_ rfl ?_); focus (simp [scalarB, go_sem]; done)) | ((with_reducible refine wpList_loadall_st 0 hS rfl rfl rfl rfl ?_ (by kernel_rfl) ?_); focus (simp [rowB, go_sem]; done)) | ((with_reducible refine wpList_store_st 0 hS rfl rfl rfl rfl (by kernel_rfl) rfl rfl ?_); intro w1 hS1; clear hS; replace hS := hS1; clear hS1; try simp only [List.set_cons_zero, List.set_cons_succ, List.setIfInBounds_toArray, List.take_succ_cons, List.take_zero, List.drop_succ_cons, List.drop_zero, List.nil_append, List.cons_append, List.append_nil, List.drop_nil, List.take_nil, List.length_cons, List.length_nil, Nat.zero_add, Nat.add_zero, Nat.reduceAdd] at hS) | ((with_reducible refine wpList_storerow_st 0 hS rfl rfl rfl rfl (by kernel_rfl) rfl rfl rfl rfl ?_); intro w1 hS1; clear hS; replace hS := hS1; clear hS1; try simp only [List.set_cons_zero, List.set_cons_succ, List.setIfInBounds_toArray, List.take_succ_cons, List.take_zero, List.drop_succ_cons, List.drop_zero, List.nil_append, List.cons_append, List.append_nil, List.drop_nil, List.take_nil, List.length_cons, List.length_nil, Nat.zero_add, Nat.add_zero, Nat.reduceAdd] at hS))
    have c := hS.cell 0 rfl
    exact bodyPost_ret (by simp [results, Try.results117, go_sem, c]; rfl) rfl ⟨rfl, hS.below⟩

end Go.Proofs.Ytlhpibniecfofaa
end

section
/- The reference's disks in memory; its step, put, Write, Read, Sync, Crash, New. -/
set_option linter.unusedSimpArgs false
set_option linter.unusedVariables false
namespace Go.Ofp
open Go.RowKit
section
variable {P : Program} {w w0 : World} {F : List Nat} {L : List Ch} {ops : Array Oper} {rest : List Oper} {o : Oper} {a : Act} {Q : Exit → Act → World → Prop} {K : Act → World → Prop}
/-- A cell of a slice of the call's own is read. -/
theorem wpList_loadcell_st (i : Nat) {e size n c g k m : Nat} {xs : List Value} (hS : St w0 F L w) (hi : L[i]? = some (Ch.row e size (.slice (some ⟨g, 0, none⟩) n c) m xs)) (hgd : o.guard = none) {t : TypeId} {x : Operand} (ho : o.op = .load t x) (hx : a.eval x = .pointer (some ⟨g, k, none⟩))
    (hu : scalarB P t = true) {v : Value} (hv : xs[k]? = some v) (h : wpList P ops Q rest (a.put o.dst v) w) : wpList P ops Q (o :: rest) a w := by
  refine wpList_plain hgd fun K hK => ?_
  have hc : w.cell? ⟨g, k, none⟩ = some v := by
    have := (hS.rowsl i hi).add k v hv
    rwa [Addr.add_lit, Nat.zero_add] at this
  have hr := run_load1 hu hc
  unfold Oper.wp execOp
  simp only [ho, hx, Sem.run_bind, hr, Result.andThen_ok, Sem.run_pure]
  exact hK _ _ h
theorem op_loadcell_st (hw : Region.wanted o (yielded ops a.tmps) = true) (i : Nat) {e size n c g k m : Nat} {xs : List Value} (hS : St w0 F L w) (hi : L[i]? = some (Ch.row e size (.slice (some ⟨g, 0, none⟩) n c) m xs)) {t : TypeId} {x : Operand} (ho : o.op = .load t x) (hx : a.eval x = .pointer (some ⟨g, k, none⟩))
    (hu : scalarB P t = true) {v : Value} (hv : xs[k]? = some v) (h : K (a.put o.dst v) w) : if Region.wanted o (yielded ops a.tmps) = true then Oper.wp P o a w K Q else K (a.put o.dst undef) w := by
  rw [if_pos hw]
  have hc : w.cell? ⟨g, k, none⟩ = some v := by
    have := (hS.rowsl i hi).add k v hv
    rwa [Addr.add_lit, Nat.zero_add] at this
  have hr := run_load1 hu hc
  unfold Oper.wp execOp
  simp only [ho, hx, Sem.run_bind, hr, Result.andThen_ok, Sem.run_pure]
  exact h
/-- Pieces number i, j, k. -/
theorem St.pick3 (i j k : Nat) {A B C : Ch} (h : St w0 F L w) (hi : L[i]? = some A) (hj : L[j]? = some B) (hk : L[k]? = some C) (hd : i ≠ j ∧ i ≠ k ∧ j ≠ k) : St w0 F [A, B, C] w := by
  refine h.pick (fun q => if q = 0 then i else if q = 1 then j else k) ?_ ?_
  · intro q c hc
    match q with
    | 0 => simp at hc; subst hc; exact hi
    | 1 => simp at hc; subst hc; exact hj
    | 2 => simp at hc; subst hc; exact hk
    | q + 3 => simp at hc
  · intro p q hp hq hpq
    simp at hp hq
    obtain ⟨h1, h2, h3⟩ := hd
    match p, q with
    | 0, 0 => omega
    | 0, 1 => simpa using h1
    | 0, 2 => simpa using h2
    | 1, 0 => simpa using fun e => h1 e.symm
    | 1, 1 => omega
    | 1, 2 => simpa using h3
    | 2, 0 => simpa using fun e => h2 e.symm
    | 2, 1 => simpa using fun e => h3 e.symm
    | 2, 2 => omega
    | p + 3, _ => omega
    | _, q + 3 => omega
end
namespace Dk
theorem over_none (i : Int) (l : List Wt) (s : Sc) (h : ∀ x ∈ l, x.place ≠ i) : l.foldl (over i) s = s := by
  induction l generalizing s with
  | nil => rfl
  | cons x l ih => rw [List.foldl_cons, over, if_neg (h x (by simp)), ih _ fun y hy => h y (by simp [hy])]
/-- The last write that waits for a sector is what is seen. -/
theorem see_last (d : Dk) (i : Int) (j : Nat) (hj : j < d.wait.length) (hx : d.wait[j].place = i) (h : ∀ x ∈ d.wait.drop (j + 1), x.place ≠ i) : d.see i = ⟨d.wait[j].b, false⟩ := by
  have e : d.see i = d.wait.foldl (over i) (d.sec.getD i.toNat ⟨[], true⟩) := rfl
  have e2 : d.wait.foldl (over i) (d.sec.getD i.toNat ⟨[], true⟩) = (d.wait.take (j + 1) ++ d.wait.drop (j + 1)).foldl (over i) (d.sec.getD i.toNat ⟨[], true⟩) := by rw [List.take_append_drop]
  rw [e, e2, List.foldl_append, List.take_succ_eq_append_getElem hj, List.foldl_append, over_none _ _ _ h]
  simp only [List.foldl_cons, List.foldl_nil]
  rw [over, if_pos hx]
theorem see_none (d : Dk) (i : Int) (h : ∀ x ∈ d.wait, x.place ≠ i) : d.see i = d.sec.getD i.toNat ⟨[], true⟩ := over_none _ _ _ h
end Dk
end Go.Ofp
namespace Go.Proofs.Ytlhpibniecfofaa
open Go.RowKit Go.Ofp
set_option linter.unusedVariables false
set_option maxRecDepth 100000
set_option maxHeartbeats 4000000

/-- A sector as the reference has it: no bytes where it is bad. -/
def rsc (s : Sc) : Value := .string (str (if s.bad then [] else s.b))
def rwt (x : Wt) : List Value := [.int .i64 x.place, .string (str x.b)]
theorem elem_str : Elem Try.prog 9 (.string ⟨#[]⟩) 1 16 := Elem.mk (by kernel_rfl) (by rfl) (by decide)
theorem elem_rwt : Elem Try.prog 141 (.agg #[.int .i64 0, .string ⟨#[]⟩]) 2 24 := Elem.mk (by kernel_rfl) (by rfl) (by decide)
theorem elem_rdk : Elem Try.prog 29 (.agg #[.slice none 0 0, .slice none 0 0, .int .i64 0, .bool false]) 4 64 := Elem.mk (by kernel_rfl) (by rfl) (by decide)
theorem rsc_all (l : List Sc) : ∀ u ∈ l.map rsc, u.oneCell' = true := by
  intro u hu
  obtain ⟨x, -, rfl⟩ := List.mem_map.1 hu
  rfl
theorem rwt_all (l : List Wt) : ∀ u ∈ (l.map rwt).flatten, u.oneCell' = true := by
  intro u hu
  obtain ⟨r, hr, hu⟩ := List.mem_flatten.1 hu
  obtain ⟨x, -, rfl⟩ := List.mem_map.1 hr
  simp [rwt] at hu
  rcases hu with rfl | rfl <;> rfl
theorem rwt_len (l : List Wt) : (l.map rwt).flatten.length = l.length * 2 := by
  rw [flat_len2 2 _ (by intro r hr; obtain ⟨x, -, rfl⟩ := List.mem_map.1 hr; rfl), List.length_map]
theorem rwt_cell (l : List Wt) (j : Nat) (hj : j < l.length) : (l.map rwt).flatten[j * 2]? = some (.int .i64 l[j].place) ∧ (l.map rwt).flatten[j * 2 + 1]? = some (.string (str l[j].b)) := by
  have h : ∀ r ∈ l.map rwt, r.length = 2 := by intro r hr; obtain ⟨x, -, rfl⟩ := List.mem_map.1 hr; rfl
  have h0 := flatten_get 2 _ h j 0 (by simpa using hj) (by omega)
  have h1 := flatten_get 2 _ h j 1 (by simpa using hj) (by omega)
  simp [rwt] at h0 h1
  exact ⟨h0, h1⟩

end Go.Proofs.Ytlhpibniecfofaa
end
