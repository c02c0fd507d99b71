/- The law SumBurst. -/
import Derived.Test.YtcpkmgmdhjhfaaaSumLaws
import Derived.StillTailTactics
namespace Go.Proofs.Ytcpkmgmdhjhfaaa
open Go.RowKit Go.Ofp

theorem opened_reg (l p : List UInt8) (h : opened l = some p) : reg ones l = steps 32 ones := by
  rcases Nat.lt_or_ge l.length 4 with h4 | h4
  · simp [opened, h4] at h
  · obtain ⟨q, b0, b1, b2, b3, rfl⟩ := split4 l h4
    rw [opened_four] at h
    split at h
    · rename_i hw; exact (reg_seal q b0 b1 b2 b3).2 hw
    · cases h

/-- Bytes of which some among four in a row are turned. -/
def turned (p q : List UInt8) (a0 a1 a2 a3 t0 t1 t2 t3 : UInt8) (k : Nat) : List UInt8 :=
  p ++ ([a0 ^^^ t0, a1 ^^^ t1, a2 ^^^ t2, a3 ^^^ t3].take k ++ [a0, a1, a2, a3].drop k) ++ q

theorem turned_four (p q : List UInt8) (a0 a1 a2 a3 t0 t1 t2 t3 : UInt8) (h : ¬ (t0 = 0 ∧ t1 = 0 ∧ t2 = 0 ∧ t3 = 0)) (hs : opened (p ++ [a0, a1, a2, a3] ++ q) ≠ none) :
    opened (turned p q a0 a1 a2 a3 t0 t1 t2 t3 4) = none := by
  cases h1 : opened (p ++ [a0, a1, a2, a3] ++ q) with
  | none => exact absurd h1 hs
  | some x =>
    cases h2 : opened (turned p q a0 a1 a2 a3 t0 t1 t2 t3 4) with
    | none => rfl
    | some y => exact absurd (burst p q a0 a1 a2 a3 t0 t1 t2 t3 (opened_reg _ _ h1) (by have := opened_reg _ _ h2; simpa [turned] using this)) h

theorem turned_step (p q : List UInt8) (a0 a1 a2 a3 t0 t1 t2 t3 : UInt8) (k : Nat) (hk : k < 4) :
    ∃ x y : UInt8, (turned p q a0 a1 a2 a3 t0 t1 t2 t3 k)[p.length + k]? = some x ∧ [t0, t1, t2, t3][k]? = some y ∧ (turned p q a0 a1 a2 a3 t0 t1 t2 t3 k).set (p.length + k) (x ^^^ y) = turned p q a0 a1 a2 a3 t0 t1 t2 t3 (k + 1) := by
  rcases (by omega : k = 0 ∨ k = 1 ∨ k = 2 ∨ k = 3) with rfl | rfl | rfl | rfl
  · exact ⟨a0, t0, by simp [turned], rfl, by simp [turned]⟩
  · exact ⟨a1, t1, by simp [turned], rfl, by simp [turned]⟩
  · exact ⟨a2, t2, by simp [turned], rfl, by simp [turned]⟩
  · exact ⟨a3, t3, by simp [turned], rfl, by simp [turned]⟩

theorem turned_length (p q : List UInt8) (a0 a1 a2 a3 t0 t1 t2 t3 : UInt8) (k : Nat) (hk : k ≤ 4) : (turned p q a0 a1 a2 a3 t0 t1 t2 t3 k).length = p.length + 4 + q.length := by
  simp [turned]; omega

theorem split_at (l : List UInt8) (k : Nat) (h : k + 4 ≤ l.length) : ∃ p a0 a1 a2 a3 q, l = p ++ [a0, a1, a2, a3] ++ q ∧ p.length = k := by
  have e : ((l.drop k).take 4).length = 4 := by rw [List.length_take, List.length_drop]; omega
  have e2 : l = l.take k ++ ((l.drop k).take 4 ++ (l.drop k).drop 4) := by rw [List.take_append_drop, List.take_append_drop]
  generalize (l.drop k).take 4 = q4 at e e2
  match q4, e with
  | [a0, a1, a2, a3], _ => exact ⟨l.take k, a0, a1, a2, a3, _, by rw [List.append_assoc]; exact e2, by rw [List.length_take]; omega⟩

theorem eq4 {P : Program} {w : World} {t e : TypeId} {z : Value} {by_ : Nat} (d : Nat) (ht : P.underlying t = some (.array 4 e)) (he : P.underlying e = some (.int .u8)) (hE : Elem P e z 1 by_) (a0 a1 a2 a3 b0 b1 b2 b3 : Int) :
    (Op.equalIn (d + 2) t (.agg #[.int .u8 a0, .int .u8 a1, .int .u8 a2, .int .u8 a3]) (.agg #[.int .u8 b0, .int .u8 b1, .int .u8 b2, .int .u8 b3])).run P w = .ok (a0 == b0 && a1 == b1 && a2 == b2 && a3 == b3) w := by
  obtain ⟨i, hi, _, hs, _⟩ := hE
  have hq (a b : Int) : (Op.equalIn (d + 1) e (.int .u8 a) (.int .u8 b)).run P w = .ok (a == b) w := run_equalIn_int w d e .u8 .u8 a b he
  have hag : (isAgg e).run P w = .ok false w := by simp [isAgg, run_underlying he]
  rw [show d + 2 = (d + 1) + 1 from rfl]
  unfold Op.equalIn
  simp [run_underlying ht, sizeOf, typeInfo, hi, hs, List.range', part, hag, hq]
  by_cases h0 : a0 = b0 <;> by_cases h1 : a1 = b1 <;> by_cases h2 : a2 = b2 <;> by_cases h3 : a3 = b3 <;> simp [h0, h1, h2, h3]
set_option maxRecDepth 10000 in
set_option maxHeartbeats 1000000 in
theorem burst_main (a : Option Addr) (l : List UInt8) (cap : Nat) (k : Nat) (t0 t1 t2 t3 : UInt8) (w : World) (ha : Sl w a (l.map vb)) (hl : l.length ≤ 2000) (hk : k ≤ l.length) (ht : ¬ (t0 = 0 ∧ t1 = 0 ∧ t2 = 0 ∧ t3 = 0)) :
    Calls Try.prog 4 #[.slice a l.length cap, .int .i64 k, .agg #[.int .u8 t0.toNat, .int .u8 t1.toNat, .int .u8 t2.toNat, .int .u8 t3.toNat]] w fun e w' => e = .returned (.bool true) ∧ Below w.heap.size w w' := by
  have heq : ∀ W, (Op.equalIn 10000 29 (.agg #[.int .u8 (t0.toNat : Int), .int .u8 (t1.toNat : Int), .int .u8 (t2.toNat : Int), .int .u8 (t3.toNat : Int)]) (.agg #[.int .u8 0, .int .u8 0, .int .u8 0, .int .u8 0])).run Try.prog W = .ok false W := by
    intro W
    rw [eq4 9998 Try.underlying29 Try.underlying5 elem_u8]
    congr 1
    have hz : ∀ t : UInt8, ((t.toNat : Int) == 0) = decide (t = 0) := fun t => by
      rw [Bool.eq_iff_iff]; simp [← UInt8.toNat_inj]
    rw [hz, hz, hz, hz]
    simp only [Bool.and_eq_false_iff, decide_eq_false_iff_not]
    have := ht
    by_cases h0 : t0 = 0 <;> by_cases h1 : t1 = 0 <;> by_cases h2 : t2 = 0 <;> simp_all
  obtain ⟨p, a0, a1, a2, a3, q, hsp, hpl⟩ := split_at (sealed l) k (by simp [sealed, le4]; omega)
  have hq : q.length = l.length - k := by have := congrArg List.length hsp; simp [sealed, le4] at this; omega
  have hop : opened (turned p q a0 a1 a2 a3 t0 t1 t2 t3 4) = none := turned_four p q a0 a1 a2 a3 t0 t1 t2 t3 ht (by rw [← hsp, opened_sealed]; simp)
  have hstart : sealed l = turned p q a0 a1 a2 a3 t0 t1 t2 t3 0 := by rw [hsp]; rfl
  clear hsp ht
  replace hop := Lib.hid hop
  replace hpl := Lib.hid hpl
  replace hq := Lib.hid hq
  replace hstart := Lib.hid hstart
  replace ha := Lib.hid ha
  go_enter Try.func4, Try.ntmps4
  go_wp2_with fail
  have hbW : Below w.heap.size w (w.alloc (.cells #[.int .u8 (t0.toNat : Int), .int .u8 (t1.toNat : Int), .int .u8 (t2.toNat : Int), .int .u8 (t3.toNat : Int)] 29)) := (Below.refl _ _).alloc (Nat.le_refl _) _
  have hbox := Sl.new w #[.int .u8 (t0.toNat : Int), .int .u8 (t1.toNat : Int), .int .u8 (t2.toNat : Int), .int .u8 (t3.toNat : Int)] 29 (0, 0)
  generalize w.alloc (.cells #[.int .u8 (t0.toNat : Int), .int .u8 (t1.toNat : Int), .int .u8 (t2.toNat : Int), .int .u8 (t3.toNat : Int)] 29) = W at hbW hbox ⊢
  replace hbox := Lib.hid hbox
  clear heq
  refine (seal_at a l cap W _ rfl (ha.out.below hbW) (by omega)).mono ?_
  rintro e w1 ⟨v1, rfl, ho1, hb1⟩
  rw [hstart.out] at ho1
  have hne : v1.ownBlock ≠ none := by
    rcases ho1.2 with ⟨_, h0⟩ | ⟨g, c, cur, rfl, _⟩
    · omega
    · simp [Value.ownBlock]
  obtain ⟨g, c1, rfl⟩ : ∃ g c, v1 = .slice (some ⟨g, 0, none⟩) (l.length + 4) c := by
    rcases ho1.2 with ⟨_, h0⟩ | ⟨g, c, cur, rfl, _⟩
    · omega
    · exact ⟨g, c, rfl⟩
  clear hne
  replace ho1 := Lib.hid ho1
  go_wp2_with fail
  go_loopg [8] 4 (fun gk i wr => ∃ j : Nat, j + gk = 4 ∧ i = .int .i64 j ∧ wr.ownsRow W.heap.size 5 1 (.slice (some ⟨g, 0, none⟩) (l.length + 4) c1) (l.length + 4) ((turned p q a0 a1 a2 a3 t0 t1 t2 t3 j).map vb) ∧ Below W.heap.size W wr)
  case atStart => exact ⟨0, rfl, rfl, ho1.out, hb1⟩
  case round =>
    obtain ⟨j, hj, rfl, ho, hb⟩ := hrel
    replace hj := Lib.hid hj
    by_cases hlt : j < 4
    · obtain ⟨x, y, hx, hy, hset⟩ := turned_step p q a0 a1 a2 a3 t0 t1 t2 t3 j hlt
      rw [hpl.out] at hx hset
      have hc : wr.cell? ⟨g, k + j, none⟩ = some (.int .u8 (x.toNat : Int)) := by
        rw [ho.cellAt (k + j) (by omega), List.getElem?_map, hx]; rfl
      have hf := ho.frozenAt (k + j)
      have hd : wr.cell? ⟨w.heap.size, j, none⟩ = some (.int .u8 (y.toNat : Int)) := by
        have h4 : [Value.int .u8 (t0.toNat : Int), .int .u8 (t1.toNat : Int), .int .u8 (t2.toNat : Int), .int .u8 (t3.toNat : Int)] = [t0, t1, t2, t3].map vb := rfl
        have hh := (hbox.out.below hb)
        rw [h4] at hh
        have := hh.add j (vb y) (by rw [List.getElem?_map, hy]; rfl)
        rw [Addr.add_lit, Nat.zero_add] at this
        exact this
      have hxy : bits .xor .u8 (x.toNat : Int) (y.toNat : Int) = ((x ^^^ y).toNat : Int) := by
        rw [u8_xor_nat _ _ x.toNat_lt y.toNat_lt, UInt8.toNat_xor]
      have hset2 : ((turned p q a0 a1 a2 a3 t0 t1 t2 t3 j).map vb).set (k + j) (vb (x ^^^ y)) = (turned p q a0 a1 a2 a3 t0 t1 t2 t3 (j + 1)).map vb := by rw [← List.map_set, hset]
      have hst := ho.stored (k + j) (vb (x ^^^ y))
      rw [hset2] at hst
      replace hst := Lib.hid hst
      replace hxy := Lib.hid hxy
      clear hset hset2 hx hy
      replace ho := Lib.hid ho
      have hb0 : ((k : Int) + j) < (l.length : Int) + 4 := by omega
      have hb1 : (0 : Int) ≤ (k : Int) + j := by omega
      go_wp2_with fail
      have hw : IntKind.i64.wrap ((k : Int) + (j : Int)) = (k : Int) + j := IntWalk.i64_in _ (by omega)
      have hw2 : ((k : Int) + (j : Int)).toNat = k + j := by omega
      go_still_tail 15, (by kernel_rfl)
      clear hw hw2
      go_wp2_with fail
      go_roundg (gk - 1)
      case measure => have := hj.out; omega
      case rel =>
        refine ⟨j + 1, by have := hj.out; omega, by go_num, ?_, ?_⟩
        · rw [hxy.out]
          exact hst.out.1.drew
        · exact (hb.trans (Below.refl _ _).drew).setCell (ho.out.lt g rfl).1 _
    · obtain rfl : j = 4 := by have := hj.out; omega
      obtain ⟨ad2, c2, e2, hs2, _, hc2, _⟩ := owns_sl ho
      have hlen : (turned p q a0 a1 a2 a3 t0 t1 t2 t3 4).length = l.length + 4 := by
        rw [turned_length _ _ _ _ _ _ _ _ _ _ _ (Nat.le_refl _), hpl.out, hq.out]; omega
      cases e2
      clear ho
      go_wp2_with fail
      refine (open_none _ _ c1 _ _ hlen.symm hs2 (by rw [hlen]; omega) (by rw [hlen]; exact hc2) hop.out).mono ?_
      rintro e w2 ⟨rfl, hb2⟩
      replace hlen := Lib.hid hlen
      clear hs2
      go_wp2_with (go_at_call 15; refine (awake02_any _).mono ?_; rintro e w' ⟨rfl, hb3⟩)
      go_ret
      exact ⟨rfl, below_step (below_step (below_step hbW hb) hb2) hb3⟩

theorem burst_skip (a : Option Addr) (n : Nat) (cap : Nat) (k : Int) (t0 t1 t2 t3 : UInt8) (w : World) (hm : n ≤ maxLen) (hs : 2000 < n ∨ k < 0 ∨ (n : Int) < k ∨ (t0 = 0 ∧ t1 = 0 ∧ t2 = 0 ∧ t3 = 0)) :
    Calls Try.prog 4 #[.slice a n cap, .int .i64 k, .agg #[.int .u8 t0.toNat, .int .u8 t1.toNat, .int .u8 t2.toNat, .int .u8 t3.toNat]] w fun e w' => e = .returned (.bool true) ∧ Below w.heap.size w w' := by
  unfold maxLen at hm
  have heq : ∀ W, (Op.equalIn 10000 29 (.agg #[.int .u8 (t0.toNat : Int), .int .u8 (t1.toNat : Int), .int .u8 (t2.toNat : Int), .int .u8 (t3.toNat : Int)]) (.agg #[.int .u8 0, .int .u8 0, .int .u8 0, .int .u8 0])).run Try.prog W = .ok (decide (t0 = 0 ∧ t1 = 0 ∧ t2 = 0 ∧ t3 = 0)) W := by
    intro W
    rw [eq4 9998 Try.underlying29 Try.underlying5 elem_u8]
    congr 1
    have hz : ∀ t : UInt8, ((t.toNat : Int) == 0) = decide (t = 0) := fun t => by
      rw [Bool.eq_iff_iff]; simp [← UInt8.toNat_inj]
    rw [hz, hz, hz, hz]
    simp only [Bool.decide_and, Bool.and_assoc]
  have fin : ∀ W W' : World, W = w.alloc (.cells #[.int .u8 (t0.toNat : Int), .int .u8 (t1.toNat : Int), .int .u8 (t2.toNat : Int), .int .u8 (t3.toNat : Int)] 29) → Below W.heap.size W W' → Below w.heap.size w W' := by
    rintro W W' rfl hb
    exact below_step ((Below.refl _ _).alloc (Nat.le_refl _) _) hb
  replace fin := Lib.hid fin
  by_cases h1 : 2000 < n
  · clear heq hs
    go_enter Try.func4, Try.ntmps4
    go_wp2_with (go_at_call 15; refine (awake02_any _).mono ?_; rintro e w' ⟨rfl, hb⟩)
    go_ret
    exact ⟨rfl, fin.out _ _ rfl hb⟩
  by_cases h2 : t0 = 0 ∧ t1 = 0 ∧ t2 = 0 ∧ t3 = 0
  · rw [decide_eq_true h2] at heq
    clear hs h2
    go_enter Try.func4, Try.ntmps4
    go_wp2_with (go_at_call 15; refine (awake02_any _).mono ?_; rintro e w' ⟨rfl, hb⟩)
    go_ret
    exact ⟨rfl, fin.out _ _ rfl hb⟩
  rw [decide_eq_false h2] at heq
  replace h2 := Lib.hid h2
  by_cases h3 : k < 0
  · clear hs
    go_enter Try.func4, Try.ntmps4
    go_wp2_with (go_at_call 15; refine (awake02_any _).mono ?_; rintro e w' ⟨rfl, hb⟩)
    go_ret
    exact ⟨rfl, fin.out _ _ rfl hb⟩
  · have h4 : (n : Int) < k := by rcases hs with h | h | h | h <;> first | omega | exact absurd h h2.out
    clear hs
    go_enter Try.func4, Try.ntmps4
    go_wp2_with (go_at_call 15; refine (awake02_any _).mono ?_; rintro e w' ⟨rfl, hb⟩)
    go_ret
    exact ⟨rfl, fin.out _ _ rfl hb⟩

theorem burst_all (a : Option Addr) (l : List UInt8) (cap : Nat) (k : Int) (t0 t1 t2 t3 : UInt8) (w : World) (ha : Sl w a (l.map vb)) (hm : l.length ≤ maxLen) :
    Calls Try.prog 4 #[.slice a l.length cap, .int .i64 k, .agg #[.int .u8 t0.toNat, .int .u8 t1.toNat, .int .u8 t2.toNat, .int .u8 t3.toNat]] w fun e w' => e = .returned (.bool true) ∧ Below w.heap.size w w' := by
  by_cases hs : 2000 < l.length ∨ k < 0 ∨ (l.length : Int) < k ∨ (t0 = 0 ∧ t1 = 0 ∧ t2 = 0 ∧ t3 = 0)
  · exact burst_skip a _ cap k t0 t1 t2 t3 w hm hs
  · simp only [not_or] at hs
    obtain ⟨j, rfl⟩ := Int.eq_ofNat_of_zero_le (show 0 ≤ k by omega)
    exact burst_main a l cap j t0 t1 t2 t3 w ha (by omega) (by omega) hs.2.2.2

end Go.Proofs.Ytcpkmgmdhjhfaaa
