/- Texts laid together: Ring9 RingFall RingLive RingFall2 RingFall3 RingFall4 RingFallOpen OctetBack Root8 RootFall. -/
import Derived.SliceStrings
import Derived.Test.YtlhpibniecfofaaM1
import Derived.Test.YtlhpibniecfofaaM12
import Derived.Test.YtlhpibniecfofaaM13
import Derived.Test.YtlhpibniecfofaaM3
import Derived.Test.YtlhpibniecfofaaM4
import Derived.Test.YtlhpibniecfofaaM6
section
/- Rings: what the law's helpers tell: all, Texts, long, wide; acts in memory, and opened. -/
set_option linter.unusedSimpArgs false
set_option linter.unusedVariables false
namespace Go.Proofs.Ytlhpibniecfofaa
open Go.RowKit Go.Ofp Go.WideShapes
set_option linter.unusedVariables false
set_option maxRecDepth 100000
set_option maxHeartbeats 4000000

theorem ba_inj {a b : ByteArray} : a.toList = b.toList ↔ a = b := ⟨fun h => by rw [ByteArray.toList_eq, ByteArray.toList_eq] at h; exact ba_ext h, fun h => by rw [h]⟩
/-- A text of a slice of texts. -/
theorem sl_text {w : World} {a : Option Addr} {l : List ByteArray} (h : Sl w a (l.map vs)) (j : Nat) (hj : j < l.length) : ∃ b off, a = some ⟨b, off, none⟩ ∧ w.cell? ⟨b, off + j, none⟩ = some (.string l[j]) := by
  obtain ⟨b, off, e, hc⟩ := h j (by simpa using hj)
  refine ⟨b, off, e, ?_⟩
  rw [hc]
  simp [vs]
theorem texts_any (a1 a2 : Option Addr) (l1 l2 : List ByteArray) (n1 n2 c1 c2 : Nat) (w : World) (h1 : Sl w a1 (l1.map vs)) (h2 : Sl w a2 (l2.map vs)) (e1 : l1.length = n1) (e2 : l2.length = n2) (hb1 : n1 ≤ 1000000000000000) (hb2 : n2 ≤ 1000000000000000) :
    Calls Try.prog 46 #[.slice a1 n1 c1, .slice a2 n2 c2] w fun e w' => e = .returned (.bool (decide (l1 = l2))) ∧ Below w.heap.size w w' := by
  have hS := St.start w
  obtain ⟨res, hres⟩ : ∃ b, decide (l1 = l2) = b := ⟨_, rfl⟩
  rw [hres]
  by_cases hn : n1 = n2
  · subst hn
    replace e1 := Lib.hid e1
    replace e2 := Lib.hid e2
    replace hres := Lib.hid hres
    replace h1 := Lib.hid h1
    replace h2 := Lib.hid h2
    go_enter Try.func46, Try.ntmps46
    go_wp2_with fail
    go_loopg [5] n1 (fun gk vi wr => ∃ j : Nat, j + gk = n1 ∧ vi = .int .i64 (j : Nat) ∧ Hid (l1.take j = l2.take j) ∧ St w [] [] wr)
    case atStart => exact ⟨0, by omega, rfl, Lib.hid rfl, hS⟩
    case round =>
      clear hS
      obtain ⟨j, hj, rfl, hI, hS⟩ := hrel
      by_cases hlt : j < n1
      · have hj1 : j < l1.length := by have := e1.out; omega
        have hj2 : j < l2.length := by have := e2.out; omega
        obtain ⟨b1, o1, rfl, z1⟩ := sl_text h1.out j hj1
        obtain ⟨b2, o2, rfl, z2⟩ := sl_text h2.out j hj2
        have k1 := hS.kold0 z1
        have k2 := hS.kold0 z2
        clear z1 z2
        by_cases hxy : l1[j] = l2[j]
        · have hI2 : l1.take (j + 1) = l2.take (j + 1) := by
            rw [List.take_succ_eq_append_getElem hj1, List.take_succ_eq_append_getElem hj2, hI.out, hxy]
          replace hI2 := Lib.hid hI2
          rw [← hxy] at k2
          generalize l1[j] = x at k1 k2
          clear hI hxy
          go_wp2_with fail
          refine mixs_begin (by kernel_rfl) hS ?_
          clear hS
          intro w6 hS
          refine mixs_take 0 (v := ?_) rfl (by kernel_rfl) (fun _ _ _ h => h) (by kernel_rfl) (by assumption) (fun s => ?hy) ?_; case hy => (go_simp <;> with_reducible rfl)
          try simp only [List.getElem_toArray, List.getElem_cons_succ, List.getElem_cons_zero, Act.put, List.setIfInBounds_toArray, List.set_cons_zero, List.set_cons_succ]
          refine mixs_take 1 (v := ?_) rfl (by kernel_rfl) (fun _ _ _ h => h) (by kernel_rfl) (by assumption) (fun s => ?hy) ?_; case hy => (go_simp <;> with_reducible rfl)
          try simp only [List.getElem_toArray, List.getElem_cons_succ, List.getElem_cons_zero, Act.put, List.setIfInBounds_toArray, List.set_cons_zero, List.set_cons_succ]
          refine mixs_take 2 (v := ?_) rfl (by kernel_rfl) (fun _ _ _ h => h) (by kernel_rfl) (by assumption) (fun s => ?hy) ?_; case hy => (go_simp <;> with_reducible rfl)
          try simp only [List.getElem_toArray, List.getElem_cons_succ, List.getElem_cons_zero, Act.put, List.setIfInBounds_toArray, List.set_cons_zero, List.set_cons_succ]
          refine mixs_take 3 (v := ?_) rfl (by kernel_rfl) (fun _ _ _ h => h) (by kernel_rfl) (by assumption) (fun s => ?hy) ?_; case hy => (go_simp <;> with_reducible rfl)
          try simp only [List.getElem_toArray, List.getElem_cons_succ, List.getElem_cons_zero, Act.put, List.setIfInBounds_toArray, List.set_cons_zero, List.set_cons_succ]
          refine mixs_take 4 (v := ?_) rfl (by kernel_rfl) (fun _ _ _ h => h) (by kernel_rfl) (by assumption) (fun s => ?hy) ?_; case hy => (go_simp <;> with_reducible rfl)
          try simp only [List.getElem_toArray, List.getElem_cons_succ, List.getElem_cons_zero, Act.put, List.setIfInBounds_toArray, List.set_cons_zero, List.set_cons_succ]
          refine mixs_take 5 (v := ?_) rfl (by kernel_rfl) (fun _ _ _ h => h) (by kernel_rfl) (by assumption) (fun s => ?hy) ?_; case hy => (go_simp <;> with_reducible rfl)
          try simp only [List.getElem_toArray, List.getElem_cons_succ, List.getElem_cons_zero, Act.put, List.setIfInBounds_toArray, List.set_cons_zero, List.set_cons_succ]
          refine mixs_take 6 (v := ?_) rfl (by kernel_rfl) (fun _ _ _ h => h) (by kernel_rfl) (by assumption) (fun s => ?hy) ?_; case hy => (go_simp <;> with_reducible rfl)
          try simp only [List.getElem_toArray, List.getElem_cons_succ, List.getElem_cons_zero, Act.put, List.setIfInBounds_toArray, List.set_cons_zero, List.set_cons_succ]
          refine mixs_take 7 (v := ?_) rfl (by kernel_rfl) (fun _ _ _ h => h) (by kernel_rfl) (by assumption) (fun s => ?hy) ?_; case hy => (go_simp <;> with_reducible rfl)
          try simp only [List.getElem_toArray, List.getElem_cons_succ, List.getElem_cons_zero, Act.put, List.setIfInBounds_toArray, List.set_cons_zero, List.set_cons_succ]
          refine mixs_take 8 (v := ?_) rfl (by kernel_rfl) (fun _ _ _ h => h) (by kernel_rfl) (by assumption) (fun s => ?hy) ?_; case hy => (go_simp <;> with_reducible rfl)
          try simp only [List.getElem_toArray, List.getElem_cons_succ, List.getElem_cons_zero, Act.put, List.setIfInBounds_toArray, List.set_cons_zero, List.set_cons_succ]
          refine wpAnyH_done (by kernel_rfl) ?_ _
          go_wp2_with fail
          go_roundg (n1 - (j + 1))
          case measure => omega
          case rel => exact ⟨j + 1, by omega, by go_num, hI2, hS⟩
        · have hf : l1 ≠ l2 := fun e => hxy (by subst e; rfl)
          have hrf : res = false := by rw [← hres.out]; exact decide_eq_false hf
          subst hrf
          have hne1 : (l1[j].toList == l2[j].toList) = false := by rw [beq_eq_false_iff_ne]; exact fun e => hxy (ba_inj.1 e)
          have hne2 : (l1[j].toList != l2[j].toList) = true := by rw [bne_iff_ne]; exact fun e => hxy (ba_inj.1 e)
          generalize l1[j] = x at k1 hne1 hne2
          generalize l2[j] = y at k2 hne1 hne2
          clear hI hxy hf
          go_wp2_with fail
          refine mixs_begin (by kernel_rfl) hS ?_
          clear hS
          intro w6 hS
          refine mixs_take 0 (v := ?_) rfl (by kernel_rfl) (fun _ _ _ h => h) (by kernel_rfl) (by assumption) (fun s => ?hy) ?_; case hy => (go_simp <;> with_reducible rfl)
          try simp only [List.getElem_toArray, List.getElem_cons_succ, List.getElem_cons_zero, Act.put, List.setIfInBounds_toArray, List.set_cons_zero, List.set_cons_succ]
          refine mixs_take 1 (v := ?_) rfl (by kernel_rfl) (fun _ _ _ h => h) (by kernel_rfl) (by assumption) (fun s => ?hy) ?_; case hy => (go_simp <;> with_reducible rfl)
          try simp only [List.getElem_toArray, List.getElem_cons_succ, List.getElem_cons_zero, Act.put, List.setIfInBounds_toArray, List.set_cons_zero, List.set_cons_succ]
          refine mixs_take 2 (v := ?_) rfl (by kernel_rfl) (fun _ _ _ h => h) (by kernel_rfl) (by assumption) (fun s => ?hy) ?_; case hy => (go_simp <;> with_reducible rfl)
          try simp only [List.getElem_toArray, List.getElem_cons_succ, List.getElem_cons_zero, Act.put, List.setIfInBounds_toArray, List.set_cons_zero, List.set_cons_succ]
          refine mixs_take 3 (v := ?_) rfl (by kernel_rfl) (fun _ _ _ h => h) (by kernel_rfl) (by assumption) (fun s => ?hy) ?_; case hy => (go_simp <;> with_reducible rfl)
          try simp only [List.getElem_toArray, List.getElem_cons_succ, List.getElem_cons_zero, Act.put, List.setIfInBounds_toArray, List.set_cons_zero, List.set_cons_succ]
          refine mixs_take 4 (v := ?_) rfl (by kernel_rfl) (fun _ _ _ h => h) (by kernel_rfl) (by assumption) (fun s => ?hy) ?_; case hy => (go_simp <;> with_reducible rfl)
          try simp only [List.getElem_toArray, List.getElem_cons_succ, List.getElem_cons_zero, Act.put, List.setIfInBounds_toArray, List.set_cons_zero, List.set_cons_succ]
          refine mixs_take 5 (v := ?_) rfl (by kernel_rfl) (fun _ _ _ h => h) (by kernel_rfl) (by assumption) (fun s => ?hy) ?_; case hy => (go_simp <;> with_reducible rfl)
          try simp only [List.getElem_toArray, List.getElem_cons_succ, List.getElem_cons_zero, Act.put, List.setIfInBounds_toArray, List.set_cons_zero, List.set_cons_succ]
          refine mixs_take 6 (v := ?_) rfl (by kernel_rfl) (fun _ _ _ h => h) (by kernel_rfl) (by assumption) (fun s => ?hy) ?_; case hy => (go_simp <;> with_reducible rfl)
          try simp only [List.getElem_toArray, List.getElem_cons_succ, List.getElem_cons_zero, Act.put, List.setIfInBounds_toArray, List.set_cons_zero, List.set_cons_succ]
          refine mixs_take 7 (v := ?_) rfl (by kernel_rfl) (fun _ _ _ h => h) (by kernel_rfl) (by assumption) (fun s => ?hy) ?_; case hy => (go_simp <;> with_reducible rfl)
          try simp only [List.getElem_toArray, List.getElem_cons_succ, List.getElem_cons_zero, Act.put, List.setIfInBounds_toArray, List.set_cons_zero, List.set_cons_succ]
          refine mixs_take 8 (v := ?_) rfl (by kernel_rfl) (fun _ _ _ h => h) (by kernel_rfl) (by assumption) (fun s => ?hy) ?_; case hy => (go_simp <;> with_reducible rfl)
          try simp only [List.getElem_toArray, List.getElem_cons_succ, List.getElem_cons_zero, Act.put, List.setIfInBounds_toArray, List.set_cons_zero, List.set_cons_succ]
          refine wpAnyH_done (by kernel_rfl) ?_ _
          go_wp2_with fail
          go_ret
          exact ⟨rfl, hS.below⟩
      · have hjn : j = n1 := by omega
        have ht : l1 = l2 := by
          have := hI.out
          rwa [List.take_of_length_le (by have := e1.out; omega), List.take_of_length_le (by have := e2.out; omega)] at this
        have hrf : res = true := by rw [← hres.out]; exact decide_eq_true ht
        subst hrf
        clear ht hI
        go_wp2_with fail
        go_ret
        exact ⟨rfl, hS.below⟩
  · have hf : l1 ≠ l2 := fun e => hn (by subst e; omega)
    have hrf : res = false := by rw [← hres]; exact decide_eq_false hf
    subst hrf
    clear hf hres
    have hnI : ((n1 : Int) != n2) = true := by rw [bne_iff_ne]; omega
    go_enter Try.func46, Try.ntmps46
    go_wp2_with fail
    go_ret
    exact ⟨rfl, hS.below⟩

/-- What a look at lengths tells. -/
def LongR (r : Ending) (Q : Prop) : Prop := (Q ∧ r = .returned (.bool false)) ∨ (¬ Q ∧ r = .returned (.bool true))
theorem LongR.yes {r : Ending} {Q : Prop} (h : LongR r Q) (q : Q) : r = .returned (.bool false) := h.elim (fun h => h.2) (fun h => absurd q h.1)
theorem LongR.no {r : Ending} {Q : Prop} (h : LongR r Q) (q : ¬ Q) : r = .returned (.bool true) := h.elim (fun h => absurd h.1 q) (fun h => h.2)
/-- An act. -/
structure Ga where
  kind : Int
  n : Int
  s : ByteArray
  a : Option Addr
  kc : Nat
  keep : List Int
  c : UInt8
def gaRow (x : Ga) : List Value := [.int .i64 x.kind, .int .i64 x.n, .string x.s, .slice x.a x.keep.length x.kc, vb x.c]
/-- What an act keeps lies there. -/
structure GaMem (w : World) (x : Ga) : Prop where
  sl : Sl w x.a (x.keep.map vi)
  le : x.keep.length ≤ x.kc
  cm : x.kc ≤ maxLen
  keep : ∀ z ∈ x.keep, -9223372036854775808 ≤ z ∧ z ≤ 9223372036854775807
  n : -9223372036854775808 ≤ x.n ∧ x.n ≤ 9223372036854775807
  kind : -9223372036854775808 ≤ x.kind ∧ x.kind ≤ 9223372036854775807
  text : x.s.size ≤ maxLen
/-- Acts lie there. -/
structure Gas (w : World) (a : Option Addr) (n c : Nat) (l : List Ga) : Prop where
  sl : Sl w a (l.map gaRow).flatten
  len : l.length = n
  le : n ≤ c
  cm : c ≤ maxLen
  mem : ∀ x ∈ l, GaMem w x
theorem GaMem.below {w w' : World} {x : Ga} (h : GaMem w x) (hb : Below w.heap.size w w') : GaMem w' x := ⟨h.sl.below hb, h.le, h.cm, h.keep, h.n, h.kind, h.text⟩
theorem Gas.below {w w' : World} {a : Option Addr} {n c : Nat} {l : List Ga} (h : Gas w a n c l) (hb : Below w.heap.size w w') : Gas w' a n c l := ⟨h.sl.below hb, h.len, h.le, h.cm, fun x hx => (h.mem x hx).below hb⟩
theorem Gas.get {w : World} {a : Option Addr} {n c : Nat} {l : List Ga} (h : Gas w a n c l) (j : Nat) (hj : j < l.length) :
    ∃ b off, a = some ⟨b, off, none⟩ ∧ ∀ t v, (gaRow l[j])[t]? = some v → w.cell? ⟨b, off + (j * 5 + t), none⟩ = some v := by
  have hr : Rw w a 5 (l.map gaRow) := ⟨h.sl, fun r hr => by obtain ⟨p, _, rfl⟩ := List.mem_map.1 hr; rfl⟩
  obtain ⟨b, off, rfl, hc⟩ := hr.get j (by simpa using hj) (by decide)
  refine ⟨b, off, rfl, fun t v hv => hc t v ?_⟩
  rw [List.getElem_map]
  exact hv

section
variable {H : Type} {enc : TypeId × Value → H}
theorem wf_u8 {z : Int} (h : (Lit.int .u8 z).wf = true) : ∃ c : UInt8, Value.int .u8 z = vb c := by
  have hz : 0 ≤ z ∧ z ≤ 255 := by simpa [Lit.wf, IntKind.min, IntKind.max, IntKind.bits, IntKind.signed] using h
  obtain ⟨k, rfl⟩ := Int.eq_ofNat_of_zero_le hz.1
  refine ⟨UInt8.ofNat k, ?_⟩
  unfold vb
  rw [UInt8.toNat_ofNat_of_lt' (by show k < 256; omega)]
theorem gas_of {w : World} {rows : List (List Value)} (h : ∀ cs ∈ rows, ∃ x : Ga, cs = gaRow x ∧ GaMem w x) : ∃ l : List Ga, rows = l.map gaRow ∧ ∀ x ∈ l, GaMem w x := by
  induction rows with
  | nil => exact ⟨[], rfl, by simp⟩
  | cons c cs ih =>
    obtain ⟨p, rfl, hp⟩ := h c (by simp)
    obtain ⟨ps, rfl, hps⟩ := ih (fun x hx => h x (by simp [hx]))
    refine ⟨p :: ps, rfl, ?_⟩
    intro q hq
    rcases List.mem_cons.1 hq with rfl | hq
    · exact hp
    · exact hps q hq
end

end Go.Proofs.Ytlhpibniecfofaa
end

section
/- Rings: what stands there when the power goes: plain law, of pieces by their places. -/
set_option linter.unusedSimpArgs false
set_option linter.unusedVariables false
namespace Go.Ofp
namespace Pcs
/-- A piece whose life may be. -/
def lim (least life : Int) (o : Option Pc) : Option Pc := o.bind fun p => if least ≤ p.life ∧ p.life ≤ life then some p else none
theorem lim_some {least life : Int} {o : Option Pc} {p : Pc} (h : lim least life o = some p) : o = some p ∧ least ≤ p.life ∧ p.life ≤ life := by
  cases o with
  | none => cases h
  | some q =>
    simp only [lim, Option.bind_some] at h
    split at h
    · cases h; exact ⟨rfl, by assumption⟩
    · cases h
theorem lim_of {least life : Int} {p : Pc} (h : least ≤ p.life ∧ p.life ≤ life) : lim least life (some p) = some p := by simp [lim, h]
theorem lim_no {least life : Int} {p : Pc} (h : ¬ (least ≤ p.life ∧ p.life ≤ life)) : lim least life (some p) = none := by simp only [lim, Option.bind_some]; exact if_neg h

theorem gather_at {f : Nat → Option Pc} {k i : Nat} {l : List Pc} (h : gather f k i = some l) : 0 < l.length ∧ l.length ≤ k ∧ (∀ j p, l[j]? = some p → f (i + j) = some p) ∧ ∀ j p, l[j]? = some p → p.last = (j == l.length - 1) := by
  induction k generalizing i l with
  | zero => cases h
  | succ k ih =>
    rw [gather] at h
    split at h
    · cases h
    · rename_i p hp
      split at h
      · rename_i hl
        cases h
        refine ⟨by simp, by simp, fun j q hj => ?_, fun j q hj => ?_⟩
        · cases j with
          | zero => simp at hj; subst hj; exact hp
          | succ j => simp at hj
        · cases j with
          | zero => simp at hj; subst hj; simp [hl]
          | succ j => simp at hj
      · rename_i hl
        obtain ⟨m, hm, rfl⟩ := Option.map_eq_some_iff.1 h
        obtain ⟨h1, h2, h3, h4⟩ := ih hm
        refine ⟨by simp, by simpa using h2, fun j q hj => ?_, fun j q hj => ?_⟩
        · cases j with
          | zero => simp at hj; subst hj; exact hp
          | succ j => rw [show i + (j + 1) = i + 1 + j by omega]; exact h3 j q (by simpa using hj)
        · cases j with
          | zero =>
            simp at hj
            subst hj
            have e : (0 == m.length) = false := by rw [beq_eq_false_iff_ne]; omega
            simp only [List.length_cons, Nat.add_sub_cancel, e]
            simpa using hl
          | succ j =>
            have := h4 j q (by simpa using hj)
            rw [this, Bool.eq_iff_iff]
            simp
            omega
theorem gather_of {f : Nat → Option Pc} {k i : Nat} {l : List Pc} (h0 : 0 < l.length) (hk : l.length ≤ k) (h : ∀ j p, l[j]? = some p → f (i + j) = some p) (hl : ∀ j p, l[j]? = some p → p.last = (j == l.length - 1)) : gather f k i = some l := by
  induction l generalizing k i with
  | nil => simp at h0
  | cons p l ih =>
    obtain ⟨k, rfl⟩ : ∃ q, k = q + 1 := ⟨k - 1, by simp at hk; omega⟩
    have hp : f i = some p := by simpa using h 0 p rfl
    have hpl := hl 0 p rfl
    cases l with
    | nil =>
      exact gather_last hp (by simpa using hpl)
    | cons q l =>
      rw [gather_more (p := p) hp (by simpa using hpl), ih (by simp) (by simpa using hk) (fun j x hj => by rw [show i + 1 + j = i + (j + 1) by omega]; exact h (j + 1) x (by simpa using hj)) (fun j x hj => by
        have := hl (j + 1) x (by simpa using hj)
        rw [this, Bool.eq_iff_iff]
        simp)]
      rfl

/-- The record at a place. -/
def rec1 (P : Nat → Option Pc) (top : Nat) (L least : Int) (i : Nat) : Option (ByteArray × Nat × Int) := recOf (gather (fun j => lim least L (P j)) (top - i) i) i
theorem rec1_some {P : Nat → Option Pc} {top : Nat} {L least : Int} {i : Nat} {s : ByteArray} {t : Nat} {y : Int} (h : rec1 P top L least i = some (s, t, y)) :
    ∃ l : List Pc, 0 < l.length ∧ i + l.length = t ∧ t ≤ top ∧ (∀ j p, l[j]? = some p → P (i + j) = some p ∧ p.life = y ∧ least ≤ p.life ∧ p.life ≤ L ∧ p.last = (j == l.length - 1)) ∧ joinOk l = true ∧ s = str (catB l) := by
  unfold rec1 recOf at h
  split at h
  · cases h
  · rename_i l hg
    split at h
    · rename_i hj
      cases h
      obtain ⟨h1, h2, h3, h4⟩ := gather_at hg
      have h0 : l[0]? = some (l.headD noPc) := by cases l with | nil => simp at h1 | cons a l => rfl
      refine ⟨l, h1, rfl, by omega, fun j p hp => ?_, hj, rfl⟩
      obtain ⟨k1, k2, k3⟩ := lim_some (h3 j p hp)
      exact ⟨k1, ((joinAt_iff _ _ _ _).1 ((joinOk_iff _ _ h0).1 hj j p hp)).2.1, k2, k3, h4 j p hp⟩
    · cases h
theorem rec1_of {P : Nat → Option Pc} {top : Nat} {L least : Int} {i : Nat} {l : List Pc} {y : Int} (h0 : 0 < l.length) (ht : i + l.length ≤ top) (hl : ∀ j p, l[j]? = some p → P (i + j) = some p ∧ p.life = y ∧ least ≤ p.life ∧ p.life ≤ L ∧ p.last = (j == l.length - 1)) (hj : joinOk l = true) :
    rec1 P top L least i = some (str (catB l), i + l.length, y) := by
  have hg : gather (fun j => lim least L (P j)) (top - i) i = some l := gather_of h0 (by omega) (fun j p hp => by
    obtain ⟨a, b, c, d, e⟩ := hl j p hp
    simp only [a]
    exact lim_of ⟨c, d⟩) (fun j p hp => (hl j p hp).2.2.2.2)
  unfold rec1 recOf
  rw [hg]
  simp only [hj, if_true]
  have : (l.headD noPc).life = y := by
    cases l with
    | nil => simp at h0
    | cons a l => exact (hl 0 a rfl).2.1
  rw [this]
/-- A record hangs on its own pieces alone. -/
theorem rec1_same {P Q : Nat → Option Pc} {top : Nat} {L L' least : Int} {i : Nat} {s : ByteArray} {t : Nat} {y : Int} (h : rec1 P top L least i = some (s, t, y)) (hs : ∀ j, i ≤ j → j < t → Q j = P j) (hL : L ≤ L') : rec1 Q top L' least i = some (s, t, y) := by
  obtain ⟨l, h0, rfl, ht, hl, hj, rfl⟩ := rec1_some h
  refine rec1_of h0 ht (fun j p hp => ?_) hj
  obtain ⟨a, b, c, d, e⟩ := hl j p hp
  have hlt := (List.getElem?_eq_some_iff.1 hp).1
  exact ⟨by rw [hs (i + j) (by omega) (by omega)]; exact a, b, c, by omega, e⟩

/-- Records, one behind the other, from a place on. -/
inductive Chain (P : Nat → Option Pc) (top : Nat) (L : Int) : Int → Nat → List ByteArray → Nat → Int → Prop
  | nil {least : Int} {i : Nat} : Chain P top L least i [] i least
  | cons {least : Int} {i : Nat} {s : ByteArray} {t : Nat} {y : Int} {l : List ByteArray} {e : Nat} {z : Int} : rec1 P top L least i = some (s, t, y) → Chain P top L y t l e z → Chain P top L least i (s :: l) e z
theorem Chain.le {P : Nat → Option Pc} {top : Nat} {L least : Int} {i : Nat} {l : List ByteArray} {e : Nat} {z : Int} (h : Chain P top L least i l e z) (hi : i ≤ top) : i ≤ e ∧ e ≤ top := by
  induction h with
  | nil => exact ⟨Nat.le_refl _, hi⟩
  | cons h1 _ ih =>
    obtain ⟨l, h0, h2, h3, -⟩ := rec1_some h1
    have := ih h3
    omega
theorem Chain.same {P Q : Nat → Option Pc} {top : Nat} {L L' least : Int} {i : Nat} {l : List ByteArray} {e : Nat} {z : Int} (h : Chain P top L least i l e z) (hi : i ≤ top) (hs : ∀ j, i ≤ j → j < e → Q j = P j) (hL : L ≤ L') : Chain Q top L' least i l e z := by
  induction h with
  | nil => exact .nil
  | cons h1 h2 ih =>
    obtain ⟨l, h0, h3, h4, -⟩ := rec1_some h1
    have := h2.le h4
    exact .cons (rec1_same h1 (fun j a b => hs j a (by omega)) hL) (ih h4 fun j a b => hs j (by omega) b)
theorem Chain.snoc {P : Nat → Option Pc} {top : Nat} {L least : Int} {i : Nat} {l : List ByteArray} {e : Nat} {z : Int} {s : ByteArray} {t : Nat} {y : Int} (h : Chain P top L least i l e z) (h1 : rec1 P top L z e = some (s, t, y)) : Chain P top L least i (l ++ [s]) t y := by
  induction h with
  | nil => exact .cons h1 .nil
  | cons h2 _ ih => exact .cons h2 (ih h1)
theorem Chain.least {P : Nat → Option Pc} {top : Nat} {L least : Int} {i : Nat} {l : List ByteArray} {e : Nat} {z : Int} (h : Chain P top L least i l e z) (h0 : least ≤ L) : z ≤ L := by
  induction h with
  | nil => exact h0
  | cons h1 _ ih =>
    obtain ⟨l, k0, -, -, hl, -⟩ := rec1_some h1
    obtain ⟨p, hp⟩ : ∃ p, l[0]? = some p := ⟨_, List.getElem?_eq_getElem k0⟩
    obtain ⟨a, b, c, d, -⟩ := hl 0 p hp
    exact ih (by omega)

/-- New pieces of one life from a place on: records, whole, and it may be a part of a last one. -/
inductive Lay (Q : Nat → Option Pc) (L : Int) (top : Nat) : Nat → List ByteArray → Nat → Prop
  | nil {c : Nat} : Lay Q L top c [] c
  | cons {c e : Nat} {s : ByteArray} {l : List ByteArray} : cutOk L c (manyB s.size) = true → c + manyB s.size ≤ top → (∀ j, j < manyB s.size → Q (c + j) = (cutB L c s)[j]?) → Lay Q L top (c + manyB s.size) l e → Lay Q L top c (s :: l) e
  | part {c k : Nat} {s : ByteArray} : cutOk L c (manyB s.size) = true → k < manyB s.size → c + k ≤ top → (∀ j, j < k → Q (c + j) = (cutB L c s)[j]?) → Lay Q L top c [s] (c + k)

theorem cut_last {L : Int} {c : Nat} {s : ByteArray} (h : cutOk L c (manyB s.size) = true) {j : Nat} {p : Pc} (hp : (cutB L c s)[j]? = some p) : p.last = (j == manyB s.size - 1) := by
  have hl := cutB_length h
  have hpos := manyB_pos s.size
  have hj : joinOk (cutB L c s) = true := by
    have := join_cut h
    unfold joinB at this
    split at this
    · assumption
    · simp at this
  have h0 : (cutB L c s)[0]? = some ((cutB L c s).headD noPc) := by
    cases hc : cutB L c s with
    | nil => rw [hc] at hl; simp at hl; omega
    | cons a l => rfl
  have := (joinAt_iff _ _ _ _).1 ((joinOk_iff _ _ h0).1 hj j p hp)
  rw [this.2.2.2.2.1, hl]

/-- WHAT STANDS THERE BEHIND A FALL. -/
theorem stands {P0 P2 Q : Nat → Option Pc} {L L' : Int} {top : Nat} (hL : L ≤ L') (hold : ∀ i p, P0 i = some p → p.life < L) (hnew : ∀ i p, Q i = some p → p.life = L) {c e : Nat} {rs : List ByteArray} (hlay : Lay Q L top c rs e) :
    ∀ {y least : Int} {i : Nat} {l : List ByteArray}, i ≤ top → (hc : Chain P2 top L' least i l c y) → (y = L ∨ (y ≤ L ∧ rec1 P0 top L' y c = none)) → (∀ j, c ≤ j → j < e → P2 j = P0 j ∨ P2 j = Q j ∨ P2 j = none) → (∀ j, e ≤ j → j < top → P2 j = P0 j) →
      ∃ k t z, k ≤ rs.length ∧ Chain P2 top L' least i (l ++ rs.take k) t z ∧ rec1 P2 top L' z t = none := by
  -- what any record there is made of
  have key : ∀ {y : Int} {c e : Nat}, (y = L ∨ (y ≤ L ∧ rec1 P0 top L' y c = none)) → (∀ j, c ≤ j → j < e → P2 j = P0 j ∨ P2 j = Q j ∨ P2 j = none) → (∀ j, e ≤ j → j < top → P2 j = P0 j) → ∀ {s t z}, rec1 P2 top L' y c = some (s, t, z) →
      z = L ∧ t ≤ max c e ∧ ∀ j, c ≤ j → j < t → P2 j = Q j := by
    intro y c e hy hin hout s t z h
    obtain ⟨l, h0, rfl, ht, hl, hj, rfl⟩ := rec1_some h
    have hz : y ≤ z := by
      obtain ⟨p, hp⟩ : ∃ p, l[0]? = some p := ⟨_, List.getElem?_eq_getElem h0⟩
      obtain ⟨-, b, c', -⟩ := hl 0 p hp
      omega
    have hkind : ∀ j p, l[j]? = some p → (P0 (c + j) = some p ∧ z < L) ∨ (Q (c + j) = some p ∧ z = L ∧ c + j < e) := by
      intro j p hp
      obtain ⟨a, b, -⟩ := hl j p hp
      have hlt := (List.getElem?_eq_some_iff.1 hp).1
      by_cases hce : c + j < e
      · rcases hin (c + j) (by omega) hce with k | k | k
        · rw [a] at k
          have := hold _ _ k.symm
          exact .inl ⟨k.symm, by omega⟩
        · rw [a] at k
          have := hnew _ _ k.symm
          exact .inr ⟨k.symm, by omega, hce⟩
        · rw [a] at k; cases k
      · have k := hout (c + j) (by omega) (by omega)
        rw [a] at k
        have := hold _ _ k.symm
        exact .inl ⟨k.symm, by omega⟩
    have hzL : z = L := by
      obtain ⟨p, hp⟩ : ∃ p, l[0]? = some p := ⟨_, List.getElem?_eq_getElem h0⟩
      rcases hkind 0 p hp with ⟨-, k⟩ | ⟨-, k, -⟩
      · exfalso
        rcases hy with hy | ⟨hy, hn⟩
        · omega
        · have := rec1_of (P := P0) (top := top) (L := L') (least := y) h0 ht (fun j q hq => by
            obtain ⟨a, b, c', d, f⟩ := hl j q hq
            rcases hkind j q hq with ⟨k1, -⟩ | ⟨-, k2, -⟩
            · exact ⟨k1, b, c', d, f⟩
            · omega) hj
          rw [this] at hn
          cases hn
      · exact k
    refine ⟨hzL, ?_, fun j h1 h2 => ?_⟩
    · obtain ⟨p, hp⟩ : ∃ p, l[l.length - 1]? = some p := ⟨_, List.getElem?_eq_getElem (by omega)⟩
      rcases hkind _ p hp with ⟨-, k⟩ | ⟨-, -, k⟩
      · omega
      · omega
    · obtain ⟨j, rfl⟩ : ∃ k, j = c + k := ⟨j - c, by omega⟩
      obtain ⟨p, hp⟩ : ∃ p, l[j]? = some p := ⟨_, List.getElem?_eq_getElem (by omega)⟩
      obtain ⟨a, -⟩ := hl j p hp
      rcases hkind j p hp with ⟨-, k⟩ | ⟨k, -⟩
      · omega
      · rw [a, k]
  induction hlay with
  | nil =>
    intro y least i l hi hc hy hin hout
    cases h : rec1 P2 top L' y _ with
    | none => exact ⟨0, _, y, by simp, by simpa using hc, h⟩
    | some x =>
      obtain ⟨s, t, z⟩ := x
      obtain ⟨l', h0, h1, -⟩ := rec1_some h
      have := (key hy hin hout h).2.1
      omega
  | @cons c e s rs hcut htop hQ hrest ih =>
    intro y least i l hi hc hy hin hout
    cases h : rec1 P2 top L' y c with
    | none => exact ⟨0, _, y, by simp, by simpa using hc, h⟩
    | some x =>
      obtain ⟨s', t, z⟩ := x
      obtain ⟨hz, -, hq⟩ := key hy hin hout h
      obtain ⟨l', h0, h1, h2, hl, hj, hs'⟩ := rec1_some h
      have hcl := cutB_length hcut
      -- the pieces are the record's
      have hpc : ∀ j p, j < manyB s.size → l'[j]? = some p → (cutB L c s)[j]? = some p := fun j p h3 h4 => by
        have hlt := (List.getElem?_eq_some_iff.1 h4).1
        rw [← hQ j h3, ← hq (c + j) (by omega) (by omega)]
        exact (hl j p h4).1
      have hpos := manyB_pos s.size
      have hlen : l'.length = manyB s.size := by
        rcases Nat.lt_trichotomy l'.length (manyB s.size) with h3 | h3 | h3
        · exfalso
          obtain ⟨p, hp⟩ : ∃ p, l'[l'.length - 1]? = some p := ⟨_, List.getElem?_eq_getElem (by omega)⟩
          have k1 := (hl _ p hp).2.2.2.2
          have k2 := cut_last hcut (hpc _ p (by omega) hp)
          rw [k1, Bool.eq_iff_iff] at k2
          simp at k2
          omega
        · exact h3
        · exfalso
          obtain ⟨p, hp⟩ : ∃ p, l'[manyB s.size - 1]? = some p := ⟨_, List.getElem?_eq_getElem (by omega)⟩
          have k1 := (hl _ p hp).2.2.2.2
          have k2 := cut_last hcut (hpc _ p (by omega) hp)
          rw [k1, Bool.eq_iff_iff] at k2
          simp at k2
          omega
      have hsame : l' = cutB L c s := by
        apply List.ext_getElem?
        intro j
        by_cases h3 : j < l'.length
        · rw [List.getElem?_eq_getElem h3]
          exact (hpc j _ (by omega) (List.getElem?_eq_getElem h3)).symm
        · rw [List.getElem?_eq_none (by omega), List.getElem?_eq_none (by omega)]
      subst hz
      have hs : s' = s := by
        have := join_cut hcut
        unfold joinB at this
        rw [← hsame, if_pos hj] at this
        rw [hs']
        exact (Prod.mk.inj this).1
      subst hs
      obtain rfl : t = c + manyB s'.size := by omega
      obtain ⟨k, t', z', h3, h4, h5⟩ := ih hi (hc.snoc h) (.inl rfl) (fun j a b => hin j (by omega) b) hout
      refine ⟨k + 1, t', z', by simpa using h3, ?_, h5⟩
      simpa using h4
  | @part c k s hcut hk htop hQ =>
    intro y least i l hi hc hy hin hout
    cases h : rec1 P2 top L' y c with
    | none => exact ⟨0, _, y, by simp, by simpa using hc, h⟩
    | some x =>
      exfalso
      obtain ⟨s', t, z⟩ := x
      obtain ⟨hz, ht, hq⟩ := key hy hin hout h
      obtain ⟨l', h0, h1, h2, hl, hj, hs'⟩ := rec1_some h
      obtain ⟨p, hp⟩ : ∃ p, l'[l'.length - 1]? = some p := ⟨_, List.getElem?_eq_getElem (by omega)⟩
      obtain ⟨k0, -, -, -, k1⟩ := hl _ p hp
      rw [hq _ (by omega) (by omega), hQ _ (by omega)] at k0
      have k2 := cut_last hcut k0
      rw [k1, Bool.eq_iff_iff] at k2
      simp at k2
      omega
end Pcs
end Go.Ofp
end

section
/- Rings: a record is put on a disk whose power does not go: plain law. -/
set_option linter.unusedSimpArgs false
set_option linter.unusedVariables false
namespace Go.Ofp
namespace Dk
/-- A disk whose power does not go. -/
structure Live (d : Dk) (n : Nat) : Prop where
  dead : d.dead = false
  fuse : d.fuse < 0
  sec : d.sec.length = n
theorem Live.new (n : Nat) : (Dk.new n).Live n := ⟨rfl, by simp [Dk.new], by simp [Dk.new]⟩
theorem Live.write {d : Dk} {n : Nat} (h : d.Live n) {i : Int} {b : List UInt8} (h0 : 0 ≤ i) (h1 : i < n) (hb : b.length = 64) : (d.write i b).2 = 0 ∧ (d.write i b).1.Live n := by
  have hr : d.ready i = 0 := by rw [Dk.ready, if_neg (by simp [h.dead]), if_neg (by have := h.sec; omega)]
  have hf := h.fuse
  have hst : (Dk.step { d with wait := d.wait ++ [⟨i, b⟩] }) = { d with wait := d.wait ++ [⟨i, b⟩] } := by
    unfold Dk.step
    rw [if_neg (by simp only; omega), if_neg (by simp only; omega)]
  rw [Dk.write, if_pos hr, if_pos hb, hst]
  exact ⟨by simp [h.dead], h.dead, h.fuse, h.sec⟩
theorem Live.writes {n : Nat} (l : List (Int × List UInt8)) : ∀ {d : Dk}, d.Live n → (∀ x ∈ l, 0 ≤ x.1 ∧ x.1 < n ∧ x.2.length = 64) → (d.writes l).2 = 0 ∧ (d.writes l).1.Live n := by
  induction l with
  | nil => intro d h _; exact ⟨rfl, h⟩
  | cons x l ih =>
    intro d h hl
    obtain ⟨a, b, c⟩ := hl x (by simp)
    obtain ⟨k1, k2⟩ := h.write a b c
    rw [Dk.writes, if_pos k1]
    exact ih k2 fun y hy => hl y (by simp [hy])
end Dk
theorem Rg.lay_ok {r : Rg} {n : Nat} (hr : r.Ok n) {place : Int} {s : ByteArray} (hc : cutOk r.life place (manyB s.size) = true) : ∀ x ∈ r.lay (cutB r.life place s), 0 ≤ x.1 ∧ x.1 < n ∧ x.2.length = 64 := by
  intro x hx
  unfold Rg.lay at hx
  obtain ⟨p, hp, rfl⟩ := List.mem_map.1 hx
  obtain ⟨j, hj, rfl⟩ := List.getElem_of_mem hp
  have h1 := hr.pos
  have h2 := hr.fit
  have hp2 : (cutB r.life place s)[j]? = some (cutB r.life place s)[j] := List.getElem?_eq_getElem hj
  have hok : (cutB r.life place s)[j].ok = true := by
    rw [cutB_get hc] at hp2
    split at hp2
    · rename_i hlt
      rw [← Option.some.inj hp2]
      have := join_cut_at hc ⟨r.life, place, false, false, ⟨#[]⟩⟩ rfl rfl j hlt
      exact ((joinAt_iff _ _ _ _).1 this).1
    · cases hp2
  have hm1 := Int.emod_nonneg (cutB r.life place s)[j].place (show (r.n : Int) ≠ 0 by omega)
  have hm2 := Int.emod_lt_of_pos (cutB r.life place s)[j].place (show (0 : Int) < r.n by omega)
  refine ⟨?_, ?_, putB_length _ hok⟩
  · simp only; omega
  · simp only; omega
/-- A record that fits is put on a disk whose power does not go. -/
theorem Rg.add_live {r : Rg} {n : Nat} (hr : r.Ok n) {d : Dk} (hd : d.Live n) {s : ByteArray} (hf : manyB s.size ≤ r.free) (hc : cutOk r.life r.tail (manyB s.size) = true) :
    (r.add d s).1 = { r with tail := r.tail + manyB s.size } ∧ (r.add d s).2.2 = 0 ∧ (r.add d s).2.1.Live n := by
  have hn : cutB r.life r.tail s ≠ [] := by
    intro e
    have h1 := cutB_length hc
    rw [e] at h1
    have := manyB_pos s.size
    simp at h1
    omega
  have hw := Dk.Live.writes _ hd (Rg.lay_ok hr hc)
  rw [Rg.add, if_neg fun e => e.elim (fun e => absurd e (by omega)) hn, if_pos hw.1]
  exact ⟨rfl, rfl, hw.2⟩
end Go.Ofp
end

section
/- Rings: what stands there when the power goes: plain law, of disks. -/
set_option linter.unusedSimpArgs false
set_option linter.unusedVariables false
namespace Go.Ofp
namespace Pcs
theorem rec1_new {P : Nat → Option Pc} {top c : Nat} {L least : Int} {s : ByteArray} (h : cutOk L c (manyB s.size) = true) (hl : least ≤ L) (ht : c + manyB s.size ≤ top) (hP : ∀ j, j < manyB s.size → P (c + j) = (cutB L c s)[j]?) : rec1 P top L least c = some (s, c + manyB s.size, L) := by
  have hlen := cutB_length h
  have hpos := manyB_pos s.size
  have hjs : joinOk (cutB L c s) = true ∧ str (catB (cutB L c s)) = s := by
    have := join_cut h
    unfold joinB at this
    split at this
    · rename_i hk
      exact ⟨hk, (Prod.mk.inj this).1⟩
    · simp at this
  have hlife : ∀ (j : Nat) (p : Pc), (cutB L c s)[j]? = some p → p.life = L := by
    intro j p hp
    rw [cutB_get h] at hp
    split at hp
    · cases hp; rfl
    · cases hp
  have := rec1_of (P := P) (top := top) (L := L) (least := least) (i := c) (l := cutB L c s) (y := L) (by omega) (by omega) (fun j p hp => by
    have hlt := (List.getElem?_eq_some_iff.1 hp).1
    have k := hlife j p hp
    exact ⟨by rw [hP j (by omega)]; exact hp, k, by omega, by omega, by rw [cut_last h hp, hlen]⟩) hjs.1
  rw [this, hjs.2, hlen]
/-- Nothing begins where there is no piece of that life. -/
theorem rec1_stop {P : Nat → Option Pc} {top : Nat} {L least : Int} {i : Nat} (h : i < top → ∀ p, P i = some p → p.life < least) : rec1 P top L least i = none := by
  cases hr : rec1 P top L least i with
  | none => rfl
  | some x =>
    obtain ⟨s, t, z⟩ := x
    obtain ⟨l, h0, h1, h2, hl, -⟩ := rec1_some hr
    obtain ⟨p, hp⟩ : ∃ p, l[0]? = some p := ⟨_, List.getElem?_eq_getElem h0⟩
    obtain ⟨a, b, c, d, -⟩ := hl 0 p hp
    have := h (by omega) p (by simpa using a)
    omega
/-- The life that may be is raised. -/
theorem rec1_life {P : Nat → Option Pc} {top : Nat} {L L' least : Int} {i : Nat} (hL : L ≤ L') (h : ∀ j p, P j = some p → p.life ≤ L) : rec1 P top L' least i = rec1 P top L least i := by
  have e : (fun j => lim least L' (P j)) = (fun j => lim least L (P j)) := by
    funext j
    cases hp : P j with
    | none => rfl
    | some p =>
      have := h j p hp
      by_cases hl : least ≤ p.life
      · rw [lim_of ⟨hl, by omega⟩, lim_of ⟨hl, this⟩]
      · rw [lim_no (fun k => hl k.1), lim_no (fun k => hl k.1)]
  unfold rec1
  rw [e]
end Pcs
open Pcs
namespace Dk
/-- The pieces by their places. -/
def pcs (d : Dk) (src n : Nat) (i : Nat) : Option Pc := if (d.pc src n i).2 = true then some (d.pc src n i).1 else none
theorem recAt_pcs (d : Dk) (r : Rg) (least : Int) (i : Nat) : d.recAt r least i = rec1 (d.pcs r.src r.n) (r.head + r.n) r.life least i := by
  have e : (fun j : Nat => fits least r.life (d.pc r.src r.n j)) = fun j => lim least r.life (d.pcs r.src r.n j) := by
    funext j
    unfold fits pcs
    by_cases h : (d.pc r.src r.n (j : Nat)).2 = true
    · simp [h, lim]
    · simp [h, lim]
  unfold recAt rec1
  rw [e]
theorem Runs.chain {d : Dk} {r : Rg} {least : Int} {i : Nat} {l : List ByteArray} {e : Nat} {z : Int} (h : Chain (d.pcs r.src r.n) (r.head + r.n) r.life least i l e z) (hs : rec1 (d.pcs r.src r.n) (r.head + r.n) r.life z e = none) : d.Runs r least i l e := by
  induction h with
  | nil => exact .stop (by rw [recAt_pcs]; exact hs)
  | cons h1 _ ih => exact .more (by rw [recAt_pcs]; exact h1) (ih hs)
/-- The piece that a sector has, at a place. -/
def pcSc (s : Sc) (i : Nat) : Option Pc := if s.bad = true then none else if (getB (str s.b)).2 = true ∧ (getB (str s.b)).1.place = i then some (getB (str s.b)).1 else none
theorem pcs_see {d : Dk} {src n i : Nat} (hd : d.dead = false) (h : src + i % n < d.sec.length) : d.pcs src n i = pcSc (d.see ((src + i % n : Nat) : Int)) i := by
  have hr : d.ready ((src + i % n : Nat) : Int) = 0 := by rw [ready, if_neg (by simp [hd]), if_neg (by omega)]
  have e : ((src : Int) + (i : Int) % (n : Int)) = ((src + i % n : Nat) : Int) := by simp
  unfold pcs pc pcSc
  rw [e, Dk.read, if_pos hr]
  generalize d.see ((src + i % n : Nat) : Int) = s
  obtain ⟨b, bad⟩ := s
  cases bad
  · simp
  · simp
theorem pcSc_put {p : Pc} {i : Nat} (hp : p.ok = true) (hi : p.place = i) : pcSc ⟨putB p, false⟩ i = some p := by
  unfold pcSc
  rw [get_put p hp]
  simp [hi]
theorem see_none {d : Dk} (h : d.wait = []) (k : Int) : d.see k = d.sec.getD k.toNat ⟨[], true⟩ := by unfold see; rw [h]; rfl
end Dk
theorem mod_inj {n a j k : Nat} (hj : a ≤ j ∧ j < a + n) (hk : a ≤ k ∧ k < a + n) (h : j % n = k % n) : j = k := by
  rcases Nat.le_total j k with hle | hle
  · have := Nat.sub_mod_eq_zero_of_mod_eq h.symm
    rw [Nat.mod_eq_of_lt (by omega)] at this
    omega
  · have := Nat.sub_mod_eq_zero_of_mod_eq h
    rw [Nat.mod_eq_of_lt (by omega)] at this
    omega
/-- Writes that wait. -/
def wts (r : Rg) (l : List Pc) : List Wt := (r.lay l).map fun x => ⟨x.1, x.2⟩
theorem wts_append (r : Rg) (l m : List Pc) : wts r (l ++ m) = wts r l ++ wts r m := by simp [wts, Rg.lay]
theorem wts_mem {r : Rg} {l : List Pc} {x : Wt} (h : x ∈ wts r l) : ∃ (j : Nat) (p : Pc), l[j]? = some p ∧ x = ⟨(r.src : Int) + p.place % r.n, putB p⟩ := by
  unfold wts Rg.lay at h
  obtain ⟨y, hy, rfl⟩ := List.mem_map.1 h
  obtain ⟨p, hp, rfl⟩ := List.mem_map.1 hy
  obtain ⟨j, hj, rfl⟩ := List.getElem_of_mem hp
  exact ⟨j, _, List.getElem?_eq_getElem hj, rfl⟩
/-- Pieces of places one behind the other, that may be. -/
def Row (t : Nat) (l : List Pc) : Prop := ∀ (j : Nat) (p : Pc), l[j]? = some p → p.ok = true ∧ p.place = ((t + j : Nat) : Int)
theorem Row.append {t : Nat} {l m : List Pc} (h : Row t l) (k : Row (t + l.length) m) : Row t (l ++ m) := by
  intro j p hp
  by_cases hj : j < l.length
  · rw [List.getElem?_append_left hj] at hp
    exact h j p hp
  · rw [List.getElem?_append_right (by omega)] at hp
    have := k _ p hp
    rw [show t + l.length + (j - l.length) = t + j by omega] at this
    exact this
theorem Row.take {t k : Nat} {l : List Pc} (h : Row t l) : Row t (l.take k) := by
  intro j p hp
  rw [List.getElem?_take] at hp
  split at hp
  · exact h j p hp
  · cases hp
theorem Row.cut {L : Int} {t : Nat} {s : ByteArray} (h : cutOk L t (manyB s.size) = true) : Row t (cutB L t s) := by
  intro j p hp
  rw [cutB_get h] at hp
  split at hp
  · rename_i hj
    cases hp
    have := join_cut_at h ⟨L, t, false, false, ⟨#[]⟩⟩ rfl rfl j hj
    have := (joinAt_iff _ _ _ _).1 this
    exact ⟨this.1, by rw [this.2.2.1]; simp⟩
  · cases hp
/-- What a sector has behind writes of a row. -/
theorem see_row {r : Rg} {t : Nat} {l : List Pc} (hl : Row t l) (h0 : r.head ≤ t) (h1 : t + l.length ≤ r.head + r.n) {j : Nat} (hj : r.head ≤ j ∧ j < r.head + r.n) (s : Sc) :
    (wts r l).foldl (fun s w => if w.place = ((r.src + j % r.n : Nat) : Int) then ⟨w.b, false⟩ else s) s = if t ≤ j ∧ j < t + l.length then ⟨putB (l.getD (j - t) noPc), false⟩ else s := by
  have key : ∀ k, k ≤ l.length → (wts r (l.take k)).foldl (fun s w => if w.place = ((r.src + j % r.n : Nat) : Int) then ⟨w.b, false⟩ else s) s = if t ≤ j ∧ j < t + k then ⟨putB (l.getD (j - t) noPc), false⟩ else s := by
    intro k
    induction k with
    | zero => intro _; simp [wts, Rg.lay]; omega
    | succ k ih =>
      intro hk
      have hkl : k < l.length := by omega
      rw [List.take_succ_eq_append_getElem hkl, wts_append, List.foldl_append, ih (by omega)]
      obtain ⟨-, hpl⟩ := hl k _ (List.getElem?_eq_getElem hkl)
      have e : wts r [l[k]] = [⟨((r.src + (t + k) % r.n : Nat) : Int), putB l[k]⟩] := by
        simp only [wts, Rg.lay, List.map_cons, List.map_nil, hpl]
        simp
      rw [e]
      simp only [List.foldl_cons, List.foldl_nil]
      by_cases hjk : j = t + k
      · subst hjk
        rw [if_pos rfl, if_pos ⟨by omega, by omega⟩]
        rw [show t + k - t = k by omega, List.getD_eq_getElem?_getD, List.getElem?_eq_getElem hkl]
        rfl
      · rw [if_neg (fun h => hjk (mod_inj hj ⟨by omega, by omega⟩ (by omega)))]
        by_cases hc : t ≤ j ∧ j < t + k
        · rw [if_pos hc, if_pos ⟨hc.1, by omega⟩]
        · rw [if_neg hc, if_neg (fun h => hc ⟨h.1, by omega⟩)]
  have := key l.length (Nat.le_refl _)
  rw [List.take_length] at this
  exact this
end Go.Ofp
end

section
/- Rings: what stands there when the power goes: plain law, step by step. -/
set_option linter.unusedSimpArgs false
set_option linter.unusedVariables false
namespace Go.Ofp
open Pcs
namespace Pcs
theorem gather_in {f g : Nat → Option Pc} {k : Nat} : ∀ {i : Nat}, (∀ j, i ≤ j → j < i + k → f j = g j) → gather f k i = gather g k i := by
  induction k with
  | zero => intro i _; rfl
  | succ k ih =>
    intro i h
    rw [gather, gather, h i (Nat.le_refl _) (by omega), ih fun j hj hk => h j (by omega) (by omega)]
theorem rec1_in {P Q : Nat → Option Pc} {top : Nat} {L least : Int} {i : Nat} (h : ∀ j, i ≤ j → j < top → P j = Q j) : rec1 P top L least i = rec1 Q top L least i := by
  unfold rec1
  rw [gather_in fun j hj hk => by rw [h j hj (by omega)]]
/-- New pieces of one life: whole records alone. -/
inductive Whole (Q : Nat → Option Pc) (L : Int) (top : Nat) : Nat → List ByteArray → Nat → Prop
  | nil {c : Nat} : Whole Q L top c [] c
  | cons {c e : Nat} {s : ByteArray} {l : List ByteArray} : cutOk L c (manyB s.size) = true → c + manyB s.size ≤ top → (∀ j, j < manyB s.size → Q (c + j) = (cutB L c s)[j]?) → Whole Q L top (c + manyB s.size) l e → Whole Q L top c (s :: l) e
theorem Whole.app {Q : Nat → Option Pc} {L : Int} {top c e e' : Nat} {l m : List ByteArray} (h : Whole Q L top c l e) (k : Lay Q L top e m e') : Lay Q L top c (l ++ m) e' := by
  induction h with
  | nil => exact k
  | cons a b c' _ ih => exact .cons a b c' (ih k)
theorem Whole.le {Q : Nat → Option Pc} {L : Int} {top c e : Nat} {l : List ByteArray} (h : Whole Q L top c l e) : c ≤ e := by
  induction h with
  | nil => exact Nat.le_refl _
  | cons _ _ _ _ ih => omega
theorem Whole.same {Q Q' : Nat → Option Pc} {L : Int} {top c e : Nat} {l : List ByteArray} (h : Whole Q L top c l e) (hs : ∀ j, c ≤ j → j < e → Q' j = Q j) : Whole Q' L top c l e := by
  induction h with
  | nil => exact .nil
  | cons a b k h2 ih =>
    have := h2.le
    exact .cons a b (fun j hj => by rw [hs _ (by omega) (by omega)]; exact k j hj) (ih fun j x y => hs j (by omega) y)
theorem Whole.snoc {Q : Nat → Option Pc} {L : Int} {top c e : Nat} {l : List ByteArray} {s : ByteArray} (h : Whole Q L top c l e) (a : cutOk L e (manyB s.size) = true) (b : e + manyB s.size ≤ top) (k : ∀ j, j < manyB s.size → Q (e + j) = (cutB L e s)[j]?) : Whole Q L top c (l ++ [s]) (e + manyB s.size) := by
  induction h with
  | nil => exact .cons a b k .nil
  | cons a' b' k' _ ih => exact .cons a' b' k' (ih a b k)
end Pcs

/-- Records stand on a disk whose power does not go, and what is behind them is older. -/
structure Stands (d : Dk) (r : Rg) (size : Nat) (l : List ByteArray) : Prop where
  live : d.Live size
  ok : d.Ok
  ring : r.Ok size
  chain : ∃ y, Chain (d.pcs r.src r.n) (r.head + r.n) r.life 1 r.head l r.tail y ∧ rec1 (d.pcs r.src r.n) (r.head + r.n) r.life y r.tail = none
  cap : ∀ i p, r.head ≤ i → i < r.head + r.n → d.pcs r.src r.n i = some p → p.life ≤ r.life
  far : ∀ i p, r.tail ≤ i → i < r.head + r.n → d.pcs r.src r.n i = some p → p.life < r.life

theorem Rg.Ok.sect {r : Rg} {size : Nat} (h : r.Ok size) (i : Nat) : r.src + i % r.n < size := by
  have := Nat.mod_lt i h.pos
  have := h.fit
  omega
namespace Dk
theorem Live.with_wait {d : Dk} {n : Nat} (h : d.Live n) (l : List Wt) : ({ d with wait := l } : Dk).Live n := ⟨h.dead, h.fuse, h.sec⟩
theorem writes_wait {n : Nat} (l : List (Int × List UInt8)) : ∀ {d : Dk}, d.Live n → (∀ x ∈ l, 0 ≤ x.1 ∧ x.1 < n ∧ x.2.length = 64) → d.writes l = ({ d with wait := d.wait ++ l.map fun x => ⟨x.1, x.2⟩ }, 0) := by
  induction l with
  | nil => intro d _ _; simp [writes]
  | cons x l ih =>
    intro d h hl
    obtain ⟨a, b, c⟩ := hl x (by simp)
    have hr : d.ready x.1 = 0 := by rw [ready, if_neg (by simp [h.dead]), if_neg (by have := h.sec; omega)]
    have hst : (step { d with wait := d.wait ++ [⟨x.1, x.2⟩] }) = { d with wait := d.wait ++ [⟨x.1, x.2⟩] } := by
      have hf := h.fuse
      unfold step
      rw [if_neg (by simp only; omega), if_neg (by simp only; omega)]
    have hw : d.write x.1 x.2 = ({ d with wait := d.wait ++ [⟨x.1, x.2⟩] }, 0) := by
      rw [write, if_pos hr, if_pos c, hst]
      simp [h.dead]
    rw [writes, hw, if_pos rfl, ih (h.with_wait _) fun y hy => hl y (by simp [hy])]
    simp
/-- The pieces behind writes of a row. -/
theorem pcs_row {d : Dk} {r : Rg} {size t : Nat} {l : List Pc} (hd : d.dead = false) (hs : d.sec.length = size) (hr : r.Ok size) (hl : Row t l) (h0 : r.head ≤ t) (h1 : t + l.length ≤ r.head + r.n) {j : Nat} (hj : r.head ≤ j ∧ j < r.head + r.n) :
    ({ d with wait := d.wait ++ wts r l } : Dk).pcs r.src r.n j = if t ≤ j ∧ j < t + l.length then l[j - t]? else d.pcs r.src r.n j := by
  have hsec := hr.sect j
  rw [pcs_see (by exact hd) (by simp only; omega), pcs_see hd (by omega)]
  have e : ({ d with wait := d.wait ++ wts r l } : Dk).see ((r.src + j % r.n : Nat) : Int) = (wts r l).foldl (fun s w => if w.place = ((r.src + j % r.n : Nat) : Int) then ⟨w.b, false⟩ else s) (d.see ((r.src + j % r.n : Nat) : Int)) := by
    unfold see
    simp only [List.foldl_append]
  rw [e, see_row hl h0 h1 hj]
  split
  · rename_i hc
    obtain ⟨p, hp⟩ : ∃ p, l[j - t]? = some p := ⟨_, List.getElem?_eq_getElem (by omega)⟩
    obtain ⟨k1, k2⟩ := hl _ p hp
    rw [List.getD_eq_getElem?_getD, hp]
    exact pcSc_put (p := p) k1 (by rw [k2]; omega)
  · rfl
theorem done_get (l : List Wt) : ∀ (sec : List Sc) (k : Nat), k < sec.length → (∀ w ∈ l, 0 ≤ w.place) → (done sec l).getD k ⟨[], true⟩ = l.foldl (fun s w => if w.place = (k : Int) then ⟨w.b, false⟩ else s) (sec.getD k ⟨[], true⟩) := by
  induction l with
  | nil => intro sec k _ _; rfl
  | cons w l ih =>
    intro sec k hk hw
    have hp := hw w (by simp)
    have e : done sec (w :: l) = done (sec.set w.place.toNat ⟨w.b, false⟩) l := rfl
    rw [e, ih _ k (by simpa using hk) fun x hx => hw x (by simp [hx]), List.foldl_cons]
    congr 1
    rw [List.getD_eq_getElem?_getD, List.getElem?_set]
    by_cases h : w.place = (k : Int)
    · rw [if_pos h, if_pos (by omega), if_pos (by omega)]
      rfl
    · rw [if_neg h, if_neg (by omega), List.getD_eq_getElem?_getD]
theorem sync_live {d : Dk} {n : Nat} (h : d.Live n) (hok : d.Ok) : d.sync.2 = 0 ∧ d.sync.1.Live n ∧ d.sync.1.wait = [] ∧ ∀ k : Nat, k < n → d.sync.1.see k = d.see k := by
  have hp := hok.pos
  have hr : d.ready 0 = 0 := by rw [ready, if_neg (by simp [h.dead]), if_neg (by omega)]
  have hst : d.step = d := by
    have hf := h.fuse
    unfold step
    rw [if_neg (by omega), if_neg (by omega)]
  have e : d.sync = ({ d with sec := done d.sec d.wait, wait := [] }, 0) := by rw [sync, if_pos hr, hst, if_neg (by simp [h.dead])]
  rw [e]
  refine ⟨rfl, ⟨h.dead, h.fuse, by simp only [done_length]; exact h.sec⟩, rfl, fun k hk => ?_⟩
  rw [see_none rfl]
  simp only [Int.toNat_natCast]
  rw [done_get _ _ _ (by have := h.sec; omega) fun w hw => (hok.wait w hw).1]
  unfold see
  simp
end Dk
/-- A record is put behind what stands there. -/
theorem Stands.add {d : Dk} {r : Rg} {size : Nat} {l : List ByteArray} (h : Stands d r size l) (s : ByteArray) :
    ((r.add d s).2.2 = 0 ∧ Stands (r.add d s).2.1 (r.add d s).1 size (l ++ [s]) ∧ (r.add d s).1.head = r.head ∧ (r.add d s).1.src = r.src ∧ (r.add d s).1.n = r.n ∧ (r.add d s).1.life = r.life) ∨ ((r.add d s).2.2 = 8 ∧ (r.add d s).1 = r ∧ (r.add d s).2.1 = d) := by
  by_cases hf : r.free < manyB s.size
  · right
    rw [Rg.add, if_pos (.inl hf)]
    exact ⟨rfl, rfl, rfl⟩
  · by_cases hc : cutOk r.life r.tail (manyB s.size) = true
    · left
      have hn : cutB r.life r.tail s ≠ [] := by
        intro e
        have h1 := cutB_length hc
        rw [e] at h1
        have := manyB_pos s.size
        simp at h1
        omega
      have hw := Dk.writes_wait _ h.live (Rg.lay_ok h.ring hc)
      have hlay : (r.lay (cutB r.life r.tail s)).map (fun x => (⟨x.1, x.2⟩ : Wt)) = wts r (cutB r.life r.tail s) := rfl
      rw [hlay] at hw
      have hok2 := h.ok
      have hadd : r.add d s = ({ r with tail := r.tail + manyB s.size }, { d with wait := d.wait ++ wts r (cutB r.life r.tail s) }, 0) := by
        rw [Rg.add, if_neg fun e => e.elim (fun e => absurd e (by omega)) hn, hw, if_pos rfl]
      have hlen := cutB_length hc
      have htl := h.ring.tail
      have htop : r.tail + manyB s.size ≤ r.head + r.n := by unfold Rg.free at hf; omega
      have hrow := Row.cut hc
      have hp := fun j (hj : r.head ≤ j ∧ j < r.head + r.n) => Dk.pcs_row (l := cutB r.life r.tail s) h.live.dead h.live.sec h.ring hrow htl.1 (by omega) hj
      have hrO := (h.ring.add d s)
      have hfO : ({ d with wait := d.wait ++ wts r (cutB r.life r.tail s) } : Dk).Ok := by
        refine ⟨h.ok.pos, h.ok.sec, fun w hw' => ?_⟩
        rcases List.mem_append.1 hw' with hw' | hw'
        · exact h.ok.wait w hw'
        · obtain ⟨j, p, hp', rfl⟩ := wts_mem hw'
          have := Rg.lay_ok h.ring hc ((r.src : Int) + p.place % r.n, putB p) (by
            unfold Rg.lay
            exact List.mem_map.2 ⟨p, List.mem_of_getElem? hp', rfl⟩)
          have hsz := h.live.sec
          simp only at this ⊢
          omega
      rw [hadd] at hrO
      rw [hadd]
      obtain ⟨y, hch, hst⟩ := h.chain
      have hy : y ≤ r.life := hch.least (by have := h.ring.life; omega)
      have hlife : ∀ (j : Nat) (p : Pc), (cutB r.life r.tail s)[j]? = some p → p.life = r.life := by
        intro j p hp
        rw [cutB_get hc] at hp
        split at hp
        · cases hp; rfl
        · cases hp
      refine ⟨rfl, ⟨h.live.with_wait _, hfO, hrO, ⟨r.life, ?_, ?_⟩, ?_, ?_⟩, rfl, rfl, rfl, rfl⟩
      · refine (hch.same (by omega) (fun j a b => ?_) (Int.le_refl _)).snoc (rec1_new hc hy htop fun j hj => ?_)
        · rw [hp j ⟨a, by omega⟩, if_neg (by omega)]
        · rw [hp _ ⟨by omega, by omega⟩, if_pos ⟨by omega, by omega⟩]
          congr 1
          omega
      · refine rec1_stop fun hlt p hp' => ?_
        simp only at hlt hp'
        rw [hp _ ⟨by omega, by omega⟩, if_neg (by omega)] at hp'
        exact h.far _ p (by omega) (by omega) hp'
      · intro i p a b hp'
        simp only at a b hp'
        rw [hp i ⟨a, b⟩] at hp'
        split at hp'
        · exact Int.le_of_eq (hlife _ p hp')
        · exact h.cap i p a b hp'
      · intro i p a b hp'
        simp only at a b hp'
        rw [hp i ⟨by omega, b⟩, if_neg (by omega)] at hp'
        exact h.far i p (by omega) b hp'
    · right
      have hn : cutB r.life r.tail s = [] := by unfold cutB; rw [if_neg hc]
      rw [Rg.add, if_pos (.inr hn)]
      exact ⟨rfl, rfl, rfl⟩
/-- What stands there is synced. -/
theorem Stands.sync {d : Dk} {r : Rg} {size : Nat} {l : List ByteArray} (h : Stands d r size l) : d.sync.2 = 0 ∧ Stands d.sync.1 r size l ∧ d.sync.1.wait = [] := by
  obtain ⟨h1, h2, h3, h4⟩ := Dk.sync_live h.live h.ok
  have e : d.sync.1.pcs r.src r.n = d.pcs r.src r.n := by
    funext i
    have hs := h.ring.sect i
    rw [Dk.pcs_see h2.dead (by have := h2.sec; omega), Dk.pcs_see h.live.dead (by have := h.live.sec; omega), h4 _ hs]
  refine ⟨h1, ⟨h2, h.ok.sync, h.ring, ?_, ?_, ?_⟩, h3⟩
  · rw [e]; exact h.chain
  · rw [e]; exact h.cap
  · rw [e]; exact h.far
end Go.Ofp
end

section
/- Rings: what stands there when the power goes: plain law, the fall. -/
set_option linter.unusedSimpArgs false
set_option linter.unusedVariables false
namespace Go.Ofp
open Pcs
namespace Dk
/-- Writes with a fuse: all, or up to where the power goes. -/
theorem writes_fuse {n : Nat} (l : List (Int × List UInt8)) : ∀ {d : Dk} (f : Nat), d.dead = false → d.fuse = f → d.sec.length = n → (∀ x ∈ l, 0 ≤ x.1 ∧ x.1 < n ∧ x.2.length = 64) →
    (l.length ≤ f → d.writes l = ({ d with wait := d.wait ++ l.map (fun x => ⟨x.1, x.2⟩), fuse := ((f - l.length : Nat) : Int) }, 0)) ∧
    (f < l.length → d.writes l = (⟨d.sec, d.wait ++ (l.take (f + 1)).map (fun x => ⟨x.1, x.2⟩), 0, true⟩, 15)) := by
  induction l with
  | nil =>
    intro d f _ hf _ _
    refine ⟨fun _ => ?_, fun h => by simp at h⟩
    simp [writes, ← hf]
  | cons x l ih =>
    intro d f hd hf hs hl
    obtain ⟨a, b, c⟩ := hl x (by simp)
    have hr : d.ready x.1 = 0 := by rw [ready, if_neg (by simp [hd]), if_neg (by omega)]
    cases f with
    | zero =>
      refine ⟨fun h => by simp at h, fun _ => ?_⟩
      have hw : d.write x.1 x.2 = (⟨d.sec, d.wait ++ [⟨x.1, x.2⟩], 0, true⟩, 15) := by
        have hst : (step { d with wait := d.wait ++ [⟨x.1, x.2⟩] }) = ⟨d.sec, d.wait ++ [⟨x.1, x.2⟩], 0, true⟩ := by
          unfold step
          rw [if_pos (by simp only; omega)]
          simp [hf]
        rw [write, if_pos hr, if_pos c, hst]
        rfl
      rw [writes, hw, if_neg (by simp)]
      simp
    | succ f =>
      have hw : d.write x.1 x.2 = ({ d with wait := d.wait ++ [⟨x.1, x.2⟩], fuse := (f : Int) }, 0) := by
        have hst : (step { d with wait := d.wait ++ [⟨x.1, x.2⟩] }) = { d with wait := d.wait ++ [⟨x.1, x.2⟩], fuse := (f : Int) } := by
          unfold step
          rw [if_neg (by simp only; omega), if_pos (by simp only; omega)]
          simp only
          congr 1
          omega
        rw [write, if_pos hr, if_pos c, hst]
        simp [hd]
      obtain ⟨h1, h2⟩ := ih (d := { d with wait := d.wait ++ [⟨x.1, x.2⟩], fuse := (f : Int) }) f hd rfl hs fun y hy => hl y (by simp [hy])
      refine ⟨fun h => ?_, fun h => ?_⟩
      · rw [writes, hw, if_pos rfl, h1 (by simpa using h)]
        simp
      · rw [writes, hw, if_pos rfl, h2 (by simpa using h)]
        simp
end Dk
/-- The pieces of a row by their places. -/
def rowAt (t : Nat) (l : List Pc) (i : Nat) : Option Pc := if t ≤ i then l[i - t]? else none
/-- Where the power may go: records that wait, behind what is sure. -/
structure Waits (d1 : Dk) (r1 : Rg) (size : Nat) (d : Dk) (r : Rg) (rest : List ByteArray) : Prop where
  dead : d.dead = false
  sec : d.sec = d1.sec
  fuse : 0 ≤ d.fuse
  ring : r.Ok size
  same : r = { r1 with tail := r.tail }
  row : ∃ l : List Pc, d.wait = wts r1 l ∧ Row r1.tail l ∧ r1.tail + l.length = r.tail ∧ (∀ p ∈ l, p.life = r1.life) ∧ Pcs.Whole (rowAt r1.tail l) r1.life (r1.head + r1.n) r1.tail rest r.tail
/-- The same, whether the power went or not. -/
def Gone (d1 : Dk) (r1 : Rg) (d : Dk) (rest : List ByteArray) : Prop := d.sec = d1.sec ∧ ∃ (l : List Pc) (e : Nat), d.wait = wts r1 l ∧ Row r1.tail l ∧ r1.tail + l.length = e ∧ e ≤ r1.head + r1.n ∧ (∀ p ∈ l, p.life = r1.life) ∧ Lay (rowAt r1.tail l) r1.life (r1.head + r1.n) r1.tail rest e
theorem Waits.gone {d1 : Dk} {r1 : Rg} {size : Nat} {d : Dk} {r : Rg} {rest : List ByteArray} (h : Waits d1 r1 size d r rest) : Gone d1 r1 d rest := by
  obtain ⟨l, a, b, c, d', e⟩ := h.row
  have hs := h.same
  have ht := h.ring.tail
  have e1 : r.head = r1.head := by rw [hs]
  have e2 : r.n = r1.n := by rw [hs]
  refine ⟨h.sec, l, r.tail, a, b, c, by omega, d', ?_⟩
  have := e.app (Lay.nil)
  rwa [List.append_nil] at this
theorem Waits.start {d : Dk} {r : Rg} {size : Nat} {l : List ByteArray} (h : Stands d r size l) (hw : d.wait = []) {f : Int} (hf : 0 ≤ f) : Waits d r size { d with fuse := f } r [] :=
  ⟨h.live.dead, rfl, hf, h.ring, rfl, [], by simpa [wts, Rg.lay] using hw, fun j p hp => by simp at hp, rfl, by simp, .nil⟩
theorem rowAt_left {t : Nat} {l m : List Pc} {i : Nat} (h : i < t + l.length) : rowAt t (l ++ m) i = rowAt t l i := by
  unfold rowAt
  split
  · rw [List.getElem?_append_left (by omega)]
  · rfl
theorem rowAt_right {t : Nat} {l m : List Pc} {j : Nat} : rowAt t (l ++ m) (t + l.length + j) = m[j]? := by
  unfold rowAt
  rw [if_pos (by omega), List.getElem?_append_right (by omega)]
  congr 1
  omega
/-- A record is put where the power may go. -/
theorem Waits.add {d1 : Dk} {r1 : Rg} {size : Nat} {d : Dk} {r : Rg} {rest : List ByteArray} (h : Waits d1 r1 size d r rest) (hs1 : d1.sec.length = size) (s : ByteArray) :
    ((r.add d s).2.2 = 0 ∧ Waits d1 r1 size (r.add d s).2.1 (r.add d s).1 (rest ++ [s])) ∨ ((r.add d s).2.2 = 8 ∧ (r.add d s).1 = r ∧ (r.add d s).2.1 = d) ∨ ((r.add d s).2.2 = 15 ∧ Gone d1 r1 (r.add d s).2.1 (rest ++ [s])) := by
  by_cases hf : r.free < manyB s.size
  · right; left
    rw [Rg.add, if_pos (.inl hf)]
    exact ⟨rfl, rfl, rfl⟩
  · by_cases hc : cutOk r.life r.tail (manyB s.size) = true
    · have hn : cutB r.life r.tail s ≠ [] := by
        intro e
        have h1 := cutB_length hc
        rw [e] at h1
        have := manyB_pos s.size
        simp at h1
        omega
      obtain ⟨f, hfz⟩ := Int.eq_ofNat_of_zero_le h.fuse
      have hsl : d.sec.length = size := by rw [h.sec]; exact hs1
      obtain ⟨hw1, hw2⟩ := Dk.writes_fuse (n := size) (r.lay (cutB r.life r.tail s)) f h.dead hfz hsl (Rg.lay_ok h.ring hc)
      have hlen := cutB_length hc
      have hpos := manyB_pos s.size
      have htl := h.ring.tail
      have htop : r.tail + manyB s.size ≤ r.head + r.n := by unfold Rg.free at hf; omega
      obtain ⟨l, hwl, hrow, hlt, hlf, hwh⟩ := h.row
      have hsame := h.same
      have q1 : r.head = r1.head := by rw [hsame]
      have q2 : r.n = r1.n := by rw [hsame]
      have q3 : r.src = r1.src := by rw [hsame]
      have q4 : r.life = r1.life := by rw [hsame]
      have hlay : ∀ m : List Pc, (r.lay m).map (fun x => (⟨x.1, x.2⟩ : Wt)) = wts r1 m := fun m => by
        unfold wts Rg.lay
        rw [q3, q2]
      have hcr := Row.cut hc
      have hlife : ∀ (j : Nat) (p : Pc), (cutB r.life r.tail s)[j]? = some p → p.life = r1.life := by
        intro j p hp
        rw [cutB_get hc] at hp
        split at hp
        · cases hp; simp only [pieceAt]; omega
        · cases hp
      have hwh2 := hwh.same (Q' := rowAt r1.tail (l ++ cutB r.life r.tail s)) fun j a b => rowAt_left (by omega)
      rw [Rg.lay_length, hlen] at hw1 hw2
      by_cases hfm : manyB s.size ≤ f
      · left
        have hadd : r.add d s = ({ r with tail := r.tail + manyB s.size }, { d with wait := d.wait ++ wts r1 (cutB r.life r.tail s), fuse := ((f - manyB s.size : Nat) : Int) }, 0) := by
          rw [Rg.add, if_neg fun e => e.elim (fun e => absurd e (by omega)) hn, hw1 hfm, if_pos rfl, hlay]
        have hrO := h.ring.add d s
        rw [hadd] at hrO
        rw [hadd]
        refine ⟨rfl, h.dead, h.sec, by simp only; omega, hrO, by simp only; rw [hsame], l ++ cutB r.life r.tail s, ?_, ?_, ?_, ?_, ?_⟩
        · simp only [hwl, wts_append]
        · exact hrow.append (by rw [hlt]; exact hcr)
        · simp only [List.length_append, hlen]; omega
        · intro p hp
          rcases List.mem_append.1 hp with hp | hp
          · exact hlf p hp
          · obtain ⟨j, hj, rfl⟩ := List.getElem_of_mem hp
            exact hlife j _ (List.getElem?_eq_getElem hj)
        · refine hwh2.snoc (by rw [← q4]; exact hc) (by omega) fun j hj => ?_
          rw [← hlt, rowAt_right, hlt, q4]
      · right; right
        have hff : f < manyB s.size := by omega
        have htake : (r.lay (cutB r.life r.tail s)).take (f + 1) = r.lay ((cutB r.life r.tail s).take (f + 1)) := by unfold Rg.lay; rw [List.map_take]
        have hadd : r.add d s = (r, ⟨d.sec, d.wait ++ wts r1 ((cutB r.life r.tail s).take (f + 1)), 0, true⟩, 15) := by
          rw [Rg.add, if_neg fun e => e.elim (fun e => absurd e (by omega)) hn, hw2 hff, if_neg (by simp), htake, hlay]
        rw [hadd]
        have hwh3 := hwh.same (Q' := rowAt r1.tail (l ++ (cutB r.life r.tail s).take (f + 1))) fun j a b => rowAt_left (by omega)
        have htk : ((cutB r.life r.tail s).take (f + 1)).length = f + 1 := by rw [List.length_take, hlen]; omega
        refine ⟨rfl, h.sec, l ++ (cutB r.life r.tail s).take (f + 1), r.tail + (f + 1), ?_, ?_, ?_, by omega, ?_, ?_⟩
        · simp only [hwl, wts_append]
        · exact hrow.append (by rw [hlt]; exact hcr.take)
        · simp only [List.length_append, htk]; omega
        · intro p hp
          rcases List.mem_append.1 hp with hp | hp
          · exact hlf p hp
          · obtain ⟨j, hj, rfl⟩ := List.getElem_of_mem (List.mem_of_mem_take hp)
            exact hlife j _ (List.getElem?_eq_getElem hj)
        · refine hwh3.app ?_
          have hq : ∀ j, j < f + 1 → rowAt r1.tail (l ++ (cutB r.life r.tail s).take (f + 1)) (r.tail + j) = (cutB r1.life r.tail s)[j]? := fun j hj => by
            rw [← hlt, rowAt_right, List.getElem?_take, if_pos hj, hlt, q4]
          by_cases he : f + 1 = manyB s.size
          · have e2 : r.tail + (f + 1) = r.tail + manyB s.size := by omega
            rw [e2]
            exact .cons (by rw [← q4]; exact hc) (by omega) (fun j hj => hq j (by omega)) .nil
          · exact .part (by rw [← q4]; exact hc) (by omega) (by omega) hq
    · right; left
      have hn : cutB r.life r.tail s = [] := by unfold cutB; rw [if_neg hc]
      rw [Rg.add, if_pos (.inr hn)]
      exact ⟨rfl, rfl, rfl⟩
/-- WHAT WAS SYNCED STANDS THERE BEHIND A FALL, and as many of the others as stayed in a row. -/
theorem Gone.crash {d1 : Dk} {r1 : Rg} {size : Nat} {d : Dk} {l rest : List ByteArray} (h : Gone d1 r1 d rest) (hS : Stands d1 r1 size l) (hw : d1.wait = []) (hok : d.Ok) (keep : List Int) (hlife : (r1.life : Int) + 1 < 4294967296) :
    ∃ k t, k ≤ rest.length ∧ (d.crash keep).Runs ⟨r1.src, r1.n, r1.head, r1.head, r1.life + 1⟩ 1 r1.head (l ++ rest.take k) t ∧ Stands (d.crash keep) ⟨r1.src, r1.n, r1.head, t, r1.life + 1⟩ size (l ++ rest.take k) ∧ (d.crash keep).wait = [] := by
  obtain ⟨hsec, L, e, hwl, hrow, he, hetop, hlf, hlay⟩ := h
  have hlive : (d.crash keep).Live size := ⟨rfl, by simp [Dk.crash], by
    have := (Dk.fall_ok keep d.wait 0 d.sec hok.sec fun w hw => (hok.wait w hw).2.2).2
    simp only [Dk.crash]
    rw [this, hsec]
    exact hS.live.sec⟩
  have hmay : Dk.May d1.sec d.wait (d.crash keep).sec := by
    have h0 : Dk.May d1.sec d.wait d.sec := fun k s hs => .inl (by rw [← hsec]; exact hs)
    exact Dk.may_fall (fun x hx => (hok.wait x hx).1) keep d.wait 0 d.sec (fun x hx => hx) h0
  have htl := hS.ring.tail
  -- the pieces behind the fall
  have hP2 : ∀ j, r1.head ≤ j → j < r1.head + r1.n → (d.crash keep).pcs r1.src r1.n j = d1.pcs r1.src r1.n j ∨ ((r1.tail ≤ j ∧ j < e) ∧ ((d.crash keep).pcs r1.src r1.n j = rowAt r1.tail L j ∨ (d.crash keep).pcs r1.src r1.n j = none)) := by
    intro j h1 h2
    have hs := hS.ring.sect j
    have hl1 := hlive.sec
    have hl2 := hS.live.sec
    rw [Dk.pcs_see hlive.dead (by omega), Dk.pcs_see hS.live.dead (by omega), Dk.see_none (by rfl), Dk.see_none hw]
    simp only [Int.toNat_natCast]
    rw [List.getD_eq_getElem?_getD, List.getElem?_eq_getElem (show r1.src + j % r1.n < (d.crash keep).sec.length by omega), Option.getD_some]
    rcases hmay _ _ (List.getElem?_eq_getElem (show r1.src + j % r1.n < (d.crash keep).sec.length by omega)) with k | ⟨x, hx, hxp, k⟩
    · left
      rw [List.getD_eq_getElem?_getD, k, Option.getD_some]
    · right
      rw [hwl] at hx
      obtain ⟨q, p, hp, rfl⟩ := wts_mem hx
      obtain ⟨hpo, hpp⟩ := hrow q p hp
      have hql := (List.getElem?_eq_some_iff.1 hp).1
      simp only at hxp
      have hq : r1.tail + q = j := by
        refine mod_inj (n := r1.n) (a := r1.head) ⟨by omega, by omega⟩ ⟨h1, h2⟩ ?_
        rw [hpp] at hxp
        omega
      refine ⟨by omega, ?_⟩
      rcases k with k | k
      · right
        unfold Dk.pcSc
        rw [if_pos k]
      · left
        rw [k]
        simp only
        rw [Dk.pcSc_put hpo (by rw [hpp, hq])]
        unfold rowAt
        rw [if_pos (by omega), show j - r1.tail = q by omega, hp]
  obtain ⟨y, hch, hst⟩ := hS.chain
  have hy : y ≤ r1.life := hch.least (by have := hS.ring.life; omega)
  -- what was there ahead, from the tail on
  obtain ⟨P0, hP0⟩ : ∃ P0 : Nat → Option Pc, P0 = fun i => if r1.tail ≤ i ∧ i < r1.head + r1.n then d1.pcs r1.src r1.n i else none := ⟨_, rfl⟩
  have hold : ∀ i p, P0 i = some p → p.life < r1.life := by
    intro i p hp
    rw [hP0] at hp
    simp only at hp
    split at hp
    · rename_i hc
      exact hS.far i p hc.1 hc.2 hp
    · cases hp
  have hin : ∀ j, r1.tail ≤ j → j < r1.head + r1.n → P0 j = d1.pcs r1.src r1.n j := fun j a b => by
    rw [hP0]
    simp only
    rw [if_pos ⟨a, b⟩]
  have hnew : ∀ i p, rowAt r1.tail L i = some p → p.life = r1.life := by
    intro i p hp
    unfold rowAt at hp
    split at hp
    · exact hlf p (List.mem_of_getElem? hp)
    · cases hp
  have hc2 : Chain ((d.crash keep).pcs r1.src r1.n) (r1.head + r1.n) ((r1.life : Int) + 1) 1 r1.head l r1.tail y := hch.same (by omega) (fun j a b => by
    rcases hP2 j a (by omega) with k | ⟨k, -⟩
    · exact k
    · omega) (by omega)
  have hst2 : rec1 P0 (r1.head + r1.n) ((r1.life : Int) + 1) y r1.tail = none := by
    rw [rec1_life (L := r1.life) (by omega) fun j p hp => by have := hold j p hp; omega, rec1_in hin]
    exact hst
  obtain ⟨k, t, z, hk, hc3, hs3⟩ := stands (P0 := P0) (P2 := (d.crash keep).pcs r1.src r1.n) (Q := rowAt r1.tail L) (L := r1.life) (L' := (r1.life : Int) + 1) (by omega) hold hnew hlay (by omega) hc2 (.inr ⟨hy, hst2⟩)
    (fun j a b => by
      rcases hP2 j (by omega) (by omega) with k | ⟨-, k | k⟩
      · exact .inl (by rw [hin j a (by omega)]; exact k)
      · exact .inr (.inl k)
      · exact .inr (.inr k))
    (fun j a b => by
      rcases hP2 j (by omega) b with k | ⟨k, -⟩
      · rw [hin j (by omega) b]; exact k
      · omega)
  have hruns : (d.crash keep).Runs ⟨r1.src, r1.n, r1.head, r1.head, r1.life + 1⟩ 1 r1.head (l ++ rest.take k) t := Dk.Runs.chain (z := z) (by simpa using hc3) (by simpa using hs3)
  have hle := hc3.le (by omega)
  have htop := hruns.top (by have := hS.ring.top; omega)
  have hcap : ∀ i p, r1.head ≤ i → i < r1.head + r1.n → (d.crash keep).pcs r1.src r1.n i = some p → p.life ≤ r1.life := by
    intro i p a b hp
    rcases hP2 i a b with k | ⟨-, k | k⟩
    · rw [k] at hp; exact hS.cap i p a b hp
    · rw [k] at hp; exact Int.le_of_eq (hnew i p hp)
    · rw [k] at hp; cases hp
  refine ⟨k, t, hk, hruns, ⟨hlive, hok.crash keep, ⟨hS.ring.pos, hS.ring.fit, hle, htop, by simp only; omega⟩, ⟨z, by simpa using hc3, by simpa using hs3⟩, ?_, ?_⟩, rfl⟩
  · intro i p a b hp
    simp only at a b hp ⊢
    have := hcap i p a b hp
    omega
  · intro i p a b hp
    simp only at a b hp ⊢
    have := hcap i p (by omega) b hp
    omega
end Go.Ofp
end

section
/- Rings: falls in memory, and opened; the ring where falls begin. -/
set_option linter.unusedSimpArgs false
set_option linter.unusedVariables false
namespace Go.Ofp
open Pcs
theorem zero_piece : (getB (str (List.replicate 64 0))).2 = false := by
  cases h : (getB (str (List.replicate 64 0))).2 with
  | false => rfl
  | true =>
    exfalso
    have hk := (Pc.ok_iff _).1 (getB_ok h)
    unfold getB at h hk
    split at h
    · rename_i hc
      rw [if_pos hc] at hk
      have e : (readPc (str (List.replicate 64 0))).life = 0 := rfl
      simp only [e] at hk
      omega
    · cases h
/-- A new disk, and a ring without records. -/
theorem Stands.new {size : Nat} {r : Rg} (hr : r.Ok size) (ht : r.tail = r.head) : Stands (Dk.new size) r size [] := by
  have hp : ∀ i, (Dk.new size).pcs r.src r.n i = none := by
    intro i
    have hs := hr.sect i
    rw [Dk.pcs_see rfl (by simp [Dk.new]; exact hs), Dk.see_none rfl]
    simp only [Int.toNat_natCast]
    have e : (Dk.new size).sec.getD (r.src + i % r.n) ⟨[], true⟩ = ⟨List.replicate 64 0, false⟩ := by
      simp [Dk.new, List.getD_eq_getElem?_getD, List.getElem?_replicate, hs]
    rw [e]
    unfold Dk.pcSc
    rw [if_neg (by simp), if_neg (by rw [zero_piece]; simp)]
  have hpos : 0 < size := by have := hr.sect 0; omega
  refine ⟨Dk.Live.new size, Dk.Ok.new size hpos, hr, ⟨1, by rw [ht]; exact .nil, rec1_stop fun _ p h => (by rw [hp] at h; cases h)⟩, fun i p _ _ h => (by rw [hp] at h; cases h), fun i p _ _ h => (by rw [hp] at h; cases h)⟩
end Go.Ofp
namespace Go.Proofs.Ytlhpibniecfofaa
open Go.RowKit Go.Ofp Go.WideShapes
set_option linter.unusedVariables false
set_option maxRecDepth 100000
set_option maxHeartbeats 4000000

/-- A fall. -/
structure Fa where
  sa : Option Addr
  sc : Nat
  sure : List ByteArray
  ra : Option Addr
  rc : Nat
  rest : List ByteArray
  ka : Option Addr
  kc : Nat
  keep : List Int
  fuse : Int
def faRow (x : Fa) : List Value := [.slice x.sa x.sure.length x.sc, .slice x.ra x.rest.length x.rc, .slice x.ka x.keep.length x.kc, .int .i64 x.fuse]
structure FaMem (w : World) (x : Fa) : Prop where
  s1 : Sl w x.sa (x.sure.map vs)
  s2 : x.sure.length ≤ x.sc ∧ x.sc ≤ maxLen
  s3 : ∀ s ∈ x.sure, s.size ≤ maxLen
  r1 : Sl w x.ra (x.rest.map vs)
  r2 : x.rest.length ≤ x.rc ∧ x.rc ≤ maxLen
  r3 : ∀ s ∈ x.rest, s.size ≤ maxLen
  k1 : Sl w x.ka (x.keep.map vi)
  k2 : x.keep.length ≤ x.kc ∧ x.kc ≤ maxLen
  k3 : ∀ z ∈ x.keep, -9223372036854775808 ≤ z ∧ z ≤ 9223372036854775807
  f : -9223372036854775808 ≤ x.fuse ∧ x.fuse ≤ 9223372036854775807
structure Fas (w : World) (a : Option Addr) (n c : Nat) (l : List Fa) : Prop where
  sl : Sl w a (l.map faRow).flatten
  len : l.length = n
  le : n ≤ c
  cm : c ≤ maxLen
  mem : ∀ x ∈ l, FaMem w x
theorem Fas.get {w : World} {a : Option Addr} {n c : Nat} {l : List Fa} (h : Fas w a n c l) (j : Nat) (hj : j < l.length) :
    ∃ b off, a = some ⟨b, off, none⟩ ∧ ∀ t v, (faRow l[j])[t]? = some v → w.cell? ⟨b, off + (j * 4 + t), none⟩ = some v := by
  have hr : Rw w a 4 (l.map faRow) := ⟨h.sl, fun r hr => by obtain ⟨p, _, rfl⟩ := List.mem_map.1 hr; rfl⟩
  obtain ⟨b, off, rfl, hc⟩ := hr.get j (by simpa using hj) (by decide)
  refine ⟨b, off, rfl, fun t v hv => hc t v ?_⟩
  rw [List.getElem_map]
  exact hv

section
variable {H : Type} {enc : TypeId × Value → H}
end
end Go.Proofs.Ytlhpibniecfofaa
end

section
/- What was put is read: plain mathematics. -/
set_option linter.unusedSimpArgs false
set_option linter.unusedVariables false
namespace Go.Ofp

theorem numB_pos (n : Nat) : 0 < (numB n).length := by
  by_cases h : n < 128
  · rw [numB_lt n h]; simp
  · rw [numB_ge n h]; simp

theorem lead_numB (k n : Nat) (rest : List UInt8) (h : (numB n).length ≤ k) : lead k (numB n ++ rest) = (numB n).length - 1 := by
  induction k generalizing n with
  | zero => have := numB_pos n; omega
  | succ k ih =>
    by_cases h1 : n < 128
    · rw [numB_lt n h1]
      simp only [List.cons_append, List.nil_append, lead, List.length_singleton]
      rw [if_neg]
      rw [UInt8.toNat_ofNat']
      omega
    · rw [numB_ge n h1] at h ⊢
      simp only [List.length_cons] at h
      have hp := numB_pos (n / 128)
      simp only [List.cons_append, lead, List.length_cons]
      rw [if_pos (by rw [UInt8.toNat_ofNat']; omega), ih _ (by omega)]
      omega

theorem val7_numB (n : Nat) : val7 (numB n) = n := by
  induction n using Nat.strongRecOn with
  | _ n ih =>
    by_cases h1 : n < 128
    · rw [numB_lt n h1]
      simp only [val7, UInt8.toNat_ofNat']
      omega
    · rw [numB_ge n h1]
      simp only [val7, UInt8.toNat_ofNat']
      rw [ih (n / 128) (by omega)]
      omega

theorem last_numB (n : Nat) (h : 0 < n) (rest : List UInt8) : (numB n ++ rest).getD ((numB n).length - 1) 0 ≠ 0 := by
  induction n using Nat.strongRecOn with
  | _ n ih =>
    by_cases h1 : n < 128
    · rw [numB_lt n h1]
      simp only [List.cons_append, List.length_singleton, Nat.sub_self, List.getD_cons_zero]
      intro e
      have := congrArg UInt8.toNat e
      rw [UInt8.toNat_ofNat', UInt8.toNat_zero] at this
      omega
    · rw [numB_ge n h1]
      have hp := numB_pos (n / 128)
      simp only [List.cons_append, List.length_cons, Nat.add_sub_cancel]
      rw [show (numB (n / 128)).length = (numB (n / 128)).length - 1 + 1 by omega, List.getD_cons_succ]
      exact ih _ (by omega) (by omega)

theorem nextB_numB (n : Nat) (most : Int) (rest : List UInt8) (hn : n ≤ maxNum) (hm : (n : Int) ≤ most) : nextB (numB n ++ rest) most = (n, (numB n).length, 0) := by
  have hl := lead_numB 6 n rest (numB_six n hn)
  have hp := numB_pos n
  have h6 := numB_six n hn
  unfold nextB
  simp only [hl]
  rw [if_neg (by omega), if_neg (by simp; omega)]
  have ht : (numB n ++ rest).take ((numB n).length - 1 + 1) = numB n := by rw [show (numB n).length - 1 + 1 = (numB n).length by omega]; exact List.take_left
  rw [ht, val7_numB]
  rw [if_neg, if_neg (by omega), show (numB n).length - 1 + 1 = (numB n).length by omega]
  rintro ⟨h1, h2⟩
  refine last_numB n ?_ rest h2
  rcases Nat.eq_zero_or_pos n with rfl | h
  · rw [numB_lt 0 (by decide)] at h1; simp at h1
  · exact h

end Go.Ofp
end

section
/- Roots: the chapter's example; a root read back. -/
set_option linter.unusedSimpArgs false
set_option linter.unusedVariables false
namespace Go.Ofp
namespace Rt
theorem read_secB (x : Rt) (h : x.ok = true) : read x.secB = (x, 0) := by
  obtain ⟨h1, h2, h3, h4, h5, h6⟩ := x.ok_iff.1 h
  obtain ⟨a, b, c⟩ := x
  simp only at h1 h2 h3 h4 h5 h6
  obtain ⟨a, rfl⟩ := Int.eq_ofNat_of_zero_le (show 0 ≤ a by omega)
  obtain ⟨b, rfl⟩ := Int.eq_ofNat_of_zero_le (show 0 ≤ b by omega)
  obtain ⟨c, rfl⟩ := Int.eq_ofNat_of_zero_le (show 0 ≤ c by omega)
  have ca : clampN (a : Int) = a := by unfold clampN maxNum; omega
  have cb : clampN (b : Int) = b := by unfold clampN maxNum; omega
  have cc : clampN (c : Int) = c := by unfold clampN maxNum; omega
  have e : ∃ r, ((⟨a, b, c⟩ : Rt).secB).drop 4 = numB a ++ (numB b ++ (numB c ++ r)) := by
    refine ⟨List.replicate (60 - (front ⟨a, b, c⟩).length) 0 ++ le4 (crc (body ⟨a, b, c⟩)), ?_⟩
    rw [secB, sealed]
    generalize le4 (crc (body ⟨a, b, c⟩)) = cr
    rw [body]
    simp only [front, ca, cb, cc]
    simp
  obtain ⟨r, hr⟩ := e
  unfold read
  rw [hr]
  have n1 := nextB_numB a 4294967295 (numB b ++ (numB c ++ r)) (by unfold maxNum; omega) (by omega)
  have n2 := nextB_numB b 4294967295 (numB c ++ r) (by unfold maxNum; omega) (by omega)
  have n3 := nextB_numB c 1099511627775 r (by unfold maxNum; omega) (by omega)
  simp [rdNum, n1, n2, n3]
theorem get_secB (x : Rt) (h : x.ok = true) : getB x.secB = (x, true) := by
  have ht : x.secB.take 4 = [114, 111, 111, 116] := by
    rw [secB, sealed, body, front]
    simp
  rw [getB, isB, if_pos]
  · rw [read_secB x h]
  · rw [decide_eq_true_eq, read_secB x h]
    exact ⟨x.secB_length, ht, rfl, h, rfl⟩
end Rt
namespace Dk
/-- A disk of two sectors on which nothing waits. -/
def two (a b : Sc) : Dk := ⟨[a, b], [], -1, false⟩
theorem two_read0 (a b : Sc) : (two a b).read 0 = if a.bad then ([], 16) else (a.b, 0) := by
  simp [read, two, ready, see]
theorem two_read1 (a b : Sc) : (two a b).read 1 = if b.bad then ([], 16) else (b.b, 0) := by
  simp [read, two, ready, see]
/-- The root of a sector, or none. -/
def rootOf (s : Sc) : Rt × Bool := if s.bad then (Rt.none, false) else Rt.getB s.b
def over1 (b : Rt) (g : Rt × Bool) : Rt := if g.2 = true ∧ b.seq < g.1.seq then g.1 else b
theorem better_of (d : Dk) (b : Rt) (i : Int) (s : Sc) (h : d.read i = if s.bad then ([], 16) else (s.b, 0)) : d.better b i = over1 b (rootOf s) := by
  unfold better over1 rootOf
  rw [h]
  cases s.bad with
  | true => simp
  | false => simp
theorem two_best (a b : Sc) : (two a b).best 2 = over1 (over1 Rt.none (rootOf a)) (rootOf b) := by
  show better _ (better _ Rt.none 0) 1 = _
  rw [better_of _ _ _ b (two_read1 a b), better_of _ _ _ a (two_read0 a b)]
theorem two_load (a b : Sc) : (two a b).load = if (over1 (over1 Rt.none (rootOf a)) (rootOf b)).seq = 0 then (Rt.none, 16) else (over1 (over1 Rt.none (rootOf a)) (rootOf b), 0) := by
  rw [load, if_neg (by simp [two]), two_best]
theorem rootOf_sec (x : Rt) (h : x.ok = true) : rootOf ⟨x.secB, false⟩ = (x, true) := by
  rw [rootOf, if_neg (by simp), Rt.get_secB x h]
theorem rootOf_zero : rootOf ⟨List.replicate 64 0, false⟩ = (Rt.none, false) := by
  rw [rootOf, if_neg (by simp), Rt.getB, Rt.isB, if_neg]
  rw [decide_eq_true_eq]
  intro h
  have := h.2.1
  simp at this
end Dk
end Go.Ofp
end

section
/- Roots: what stays when the power goes in a Store: plain law. -/
set_option linter.unusedSimpArgs false
set_option linter.unusedVariables false
namespace Go.Ofp
namespace Dk
/-- What a sector has is no root, or one of less. -/
def Less (s : Sc) (x : Rt) : Prop := (rootOf s).2 = true → (rootOf s).1.seq < x.seq
/-- The root lies on the sector that is its, and the other has less. -/
def Holds (a b : Sc) (x : Rt) : Prop := x.ok = true ∧ ((x.seq % 2 = 0 ∧ a = ⟨x.secB, false⟩ ∧ Less b x) ∨ (x.seq % 2 = 1 ∧ b = ⟨x.secB, false⟩ ∧ Less a x))
theorem Holds.load {a b : Sc} {x : Rt} (h : Holds a b x) : (two a b).load = (x, 0) := by
  obtain ⟨hx, h⟩ := h
  have h1 := (x.ok_iff.1 hx).1
  have e : over1 (over1 Rt.none (rootOf a)) (rootOf b) = x := by
    rcases h with ⟨-, rfl, hl⟩ | ⟨-, rfl, hl⟩
    · rw [rootOf_sec x hx]
      have e1 : over1 Rt.none (x, true) = x := by
        rw [over1, if_pos]
        exact ⟨rfl, by simp [Rt.none]; omega⟩
      rw [e1, over1, if_neg]
      rintro ⟨k1, k2⟩
      have := hl k1
      omega
    · rw [rootOf_sec x hx]
      have e1 : (over1 Rt.none (rootOf a)).seq < x.seq := by
        unfold over1
        split
        · rename_i k; exact hl k.1
        · simp [Rt.none]; omega
      rw [over1, if_pos ⟨rfl, e1⟩]
  rw [two_load, e, if_neg (by omega)]
theorem Less.bad {s : Sc} {x : Rt} : Less { s with bad := true } x := by
  intro h
  rw [rootOf, if_pos rfl] at h
  cases h
theorem Less.mono {s : Sc} {x y : Rt} (h : Less s x) (hxy : x.seq ≤ y.seq) : Less s y := fun k => by have := h k; omega
theorem Less.sec {x y : Rt} (hx : x.ok = true) (hxy : x.seq < y.seq) : Less ⟨x.secB, false⟩ y := by
  intro _
  rw [rootOf_sec x hx]
  exact hxy
theorem fate_cases (keep : List Int) (i : Nat) : fate keep i = 0 ∨ fate keep i = 1 ∨ fate keep i = 2 := by
  unfold fate
  split
  · omega
  · omega
theorem fall_one (keep : List Int) (l : List Sc) (x : Wt) : fall keep 0 l [x] = fall1 keep l 0 x := rfl

/-- A Store with a fuse, and a crash behind it. -/
theorem falls (a b : Sc) (now next : Rt) (f : Int) (keep : List Int) (h : Holds a b now) (hn : next.ok = true) (hs : next.seq = now.seq + 1) (hf : 0 ≤ f ∧ f < 4) :
    ∃ a' b' now', (({ two a b with fuse := f } : Dk).store next).1.crash keep = two a' b' ∧ Holds a' b' now' ∧ (now' = now ∨ now' = next) ∧
      ((({ two a b with fuse := f } : Dk).store next).2 = 0 ∧ now' = next ∨ (({ two a b with fuse := f } : Dk).store next).2 = 15) := by
  obtain ⟨hx, h⟩ := h
  have hp : next.putB = next.secB := if_pos hn
  have hl := next.secB_length
  have hf4 : f = 0 ∨ f = 1 ∨ f = 2 ∨ f = 3 := by omega
  have hk := fate_cases keep 0
  rcases h with ⟨h0, ha, hb⟩ | ⟨h1, hb, ha⟩
  · have hs1 : next.seq % 2 = 1 := by omega
    have g0 : Holds a b now := ⟨hx, .inl ⟨h0, ha, hb⟩⟩
    have g1 : Holds a ⟨next.secB, false⟩ next := ⟨hn, .inr ⟨hs1, rfl, by rw [ha]; exact Less.sec hx (by omega)⟩⟩
    have g2 : Holds a { b with bad := true } now := ⟨hx, .inl ⟨h0, ha, Less.bad⟩⟩
    have est : ({ two a b with fuse := f } : Dk).store next = if f = 0 then (⟨[a, b], [⟨1, next.secB⟩], 0, true⟩, 15) else if f = 1 then (⟨[a, b], [⟨1, next.secB⟩], 0, true⟩, 15) else (⟨[a, ⟨next.secB, false⟩], [], f - 2, false⟩, 0) := by
      rw [store, if_neg (by simp [hn, two]), hs1, hp]
      rcases hf4 with rfl | rfl | rfl | rfl <;> simp [write, two, ready, step, hl, sync, done]
    rw [est]
    rcases hf4 with rfl | rfl | rfl | rfl
    · rcases hk with hk | hk | hk
      · exact ⟨a, b, now, by simp [crash, fall_one, fall1, hk, two], g0, .inl rfl, .inr (by simp)⟩
      · exact ⟨a, _, next, by simp [crash, fall_one, fall1, hk, two], g1, .inr rfl, .inr (by simp)⟩
      · exact ⟨a, _, now, by simp [crash, fall_one, fall1, hk, two], g2, .inl rfl, .inr (by simp)⟩
    · rcases hk with hk | hk | hk
      · exact ⟨a, b, now, by simp [crash, fall_one, fall1, hk, two], g0, .inl rfl, .inr (by simp)⟩
      · exact ⟨a, _, next, by simp [crash, fall_one, fall1, hk, two], g1, .inr rfl, .inr (by simp)⟩
      · exact ⟨a, _, now, by simp [crash, fall_one, fall1, hk, two], g2, .inl rfl, .inr (by simp)⟩
    · exact ⟨a, _, next, by simp [crash, fall, two], g1, .inr rfl, .inl (by simp)⟩
    · exact ⟨a, _, next, by simp [crash, fall, two], g1, .inr rfl, .inl (by simp)⟩
  · have hs1 : next.seq % 2 = 0 := by omega
    have g0 : Holds a b now := ⟨hx, .inr ⟨h1, hb, ha⟩⟩
    have g1 : Holds ⟨next.secB, false⟩ b next := ⟨hn, .inl ⟨hs1, rfl, by rw [hb]; exact Less.sec hx (by omega)⟩⟩
    have g2 : Holds { a with bad := true } b now := ⟨hx, .inr ⟨h1, hb, Less.bad⟩⟩
    have est : ({ two a b with fuse := f } : Dk).store next = if f = 0 then (⟨[a, b], [⟨0, next.secB⟩], 0, true⟩, 15) else if f = 1 then (⟨[a, b], [⟨0, next.secB⟩], 0, true⟩, 15) else (⟨[⟨next.secB, false⟩, b], [], f - 2, false⟩, 0) := by
      rw [store, if_neg (by simp [hn, two]), hs1, hp]
      rcases hf4 with rfl | rfl | rfl | rfl <;> simp [write, two, ready, step, hl, sync, done]
    rw [est]
    rcases hf4 with rfl | rfl | rfl | rfl
    · rcases hk with hk | hk | hk
      · exact ⟨a, b, now, by simp [crash, fall_one, fall1, hk, two], g0, .inl rfl, .inr (by simp)⟩
      · exact ⟨_, b, next, by simp [crash, fall_one, fall1, hk, two], g1, .inr rfl, .inr (by simp)⟩
      · exact ⟨_, b, now, by simp [crash, fall_one, fall1, hk, two], g2, .inl rfl, .inr (by simp)⟩
    · rcases hk with hk | hk | hk
      · exact ⟨a, b, now, by simp [crash, fall_one, fall1, hk, two], g0, .inl rfl, .inr (by simp)⟩
      · exact ⟨_, b, next, by simp [crash, fall_one, fall1, hk, two], g1, .inr rfl, .inr (by simp)⟩
      · exact ⟨_, b, now, by simp [crash, fall_one, fall1, hk, two], g2, .inl rfl, .inr (by simp)⟩
    · exact ⟨_, b, next, by simp [crash, fall, two], g1, .inr rfl, .inl (by simp)⟩
    · exact ⟨_, b, next, by simp [crash, fall, two], g1, .inr rfl, .inl (by simp)⟩
end Dk
end Go.Ofp
end
