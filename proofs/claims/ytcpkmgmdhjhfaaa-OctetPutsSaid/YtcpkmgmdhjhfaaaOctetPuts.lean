/- The law OctetPuts. -/
import Derived.Test.YtcpkmgmdhjhfaaaOctetLaws
import Derived.Test.YtcpkmgmdhjhfaaaMix
namespace Go.Proofs.Ytcpkmgmdhjhfaaa
open Go.RowKit Go.Ofp
set_option linter.unusedVariables false
set_option maxRecDepth 100000
set_option maxHeartbeats 100000000

theorem str_same (x y : List UInt8) : (x ++ y == (str x ++ str y).toList) = true := by
  rw [str_append, str_data, str_toList]
  simp

theorem puts_main (a : Option Addr) (l : List UInt8) (m cap : Nat) (n : Int) (s : ByteArray) (w : World) (hm : m = l.length) (ha : Sl w a (l.map vb)) (hl : m ≤ 1000) (hcap : m ≤ cap) (hs : s.size ≤ 1000) (hn : -9223372036854775808 ≤ n ∧ n ≤ 9223372036854775807) :
    Calls Try.prog 8 #[.slice a m cap, .int .i64 n, .string s] w fun e w' => e = .returned (.bool true) ∧ Below w.heap.size w w' := by
  replace hm := Lib.hid hm
  replace ha := Lib.hid ha
  replace hn := Lib.hid hn
  have hcn := numB_six (clampN n) (clampN_le n)
  have z1 := str_same l (numB (clampN n))
  have z2 := str_same l (numB s.size ++ s.data.toList)
  obtain ⟨b, hbb⟩ : ∃ b, (n.tmod 2 == 0) = b := ⟨_, rfl⟩
  have z3 := str_same l [if b then 1 else 0]
  have hsn := numB_six s.size (by unfold maxNum; omega)
  have q1 : ¬ 9223372036854775807 < l.length + (numB (clampN n)).length := by have := hm.out; omega
  have q2 : ¬ 9223372036854775807 < l.length + ((numB s.size).length + s.size) := by have := hm.out; omega
  have q3 : ¬ 9223372036854775807 < l.length + 1 := by have := hm.out; omega
  go_enter Try.func8, Try.ntmps8
  go_wp2_with (with_reducible refine wpList_bts (src := 22) (dst := 9) (x := .tmp 18) (l := l) rfl rfl Try.underlying22 Try.underlying5 Try.underlying9 rfl ha.out hm.out ?_)
  refine mix_begin (by kernel_rfl) ?_
  have ha0 : Sl w.drew a (l.map vb) := ha.out.same fun _ => rfl
  have hw0 : Below w.heap.size w w.drew := (Below.refl _ _).drew
  generalize w.drew = w0 at ha0 hw0 ⊢
  have h0 : Below w0.heap.size w0 w0 := Below.refl _ _
  refine mix_take 0 (v := ?_) rfl (by kernel_rfl) (fun _ _ _ h => h) (by kernel_rfl) (by assumption) (fun s => ?hy) ?_; case hy => (go_simp <;> with_reducible rfl)
  try simp only [Act.put, List.setIfInBounds_toArray, List.set_cons_zero, List.set_cons_succ]
  refine mix_take 1 (v := ?_) rfl (by kernel_rfl) (fun _ _ _ h => h) (by kernel_rfl) (by assumption) (fun s => ?hy) ?_; case hy => (go_simp <;> with_reducible rfl)
  try simp only [Act.put, List.setIfInBounds_toArray, List.set_cons_zero, List.set_cons_succ]
  refine mix_take 4 (v := ?_) rfl (by kernel_rfl) (fun _ _ _ h => h) (by kernel_rfl) (by assumption) (fun s => ?hy) ?_; case hy => (go_simp <;> with_reducible rfl)
  try simp only [Act.put, List.setIfInBounds_toArray, List.set_cons_zero, List.set_cons_succ]
  refine mix_take 5 (v := ?_) rfl (by kernel_rfl) (fun _ _ _ h => h) (by kernel_rfl) (by assumption) (fun s => ?hy) ?_; case hy => (go_simp <;> with_reducible rfl)
  try simp only [Act.put, List.setIfInBounds_toArray, List.set_cons_zero, List.set_cons_succ]
  refine mix_one 2 (by kernel_rfl) rfl (by assumption) (fun K hK => ?_)
  go_simp
  (refine (num_any a l m cap n w0 hm.out ha0 (by omega) hcap).mono ?_; rintro _ w1 ⟨v1, rfl, ho1, hb1⟩; obtain ⟨b1, c1, rfl, hs1, hl1, _, _⟩ := owns_sl ho1)
  refine hK.out _ _ hb1 fun h1 => ?_
  clear hK K
  have k1 : ∀ u : Past w1, (convert 22 9 (.slice b1 (m + (numB (clampN n)).length) c1)).run Try.prog u.1 = .ok (.string (str (l ++ numB (clampN n)))) u.1 := fun u => run_bts u.1 _ _ _ Try.underlying22 Try.underlying5 Try.underlying9 (u.sl (by simpa using hs1)) _ _ (by simpa using hl1.symm)
  clear ho1 hl1 hs1
  have ha1 : Sl w1 a (l.map vb) := ha0.below hb1
  have hw1 : Below w.heap.size w w1 := hw0.trans (hb1.mono hw0.size)
  clear ha0 hw0 h0 hb1
  refine mix_take 3 (v := ?_) rfl (by kernel_rfl) (fun _ _ _ h => h) (by kernel_rfl) (by assumption) (fun s => ?hy) ?_; case hy => (go_simp <;> with_reducible rfl)
  try simp only [Act.put, List.setIfInBounds_toArray, List.set_cons_zero, List.set_cons_succ]
  refine mix_one 6 (by kernel_rfl) rfl (by assumption) (fun K hK => ?_)
  go_simp
  (refine (rnum_any n w1 hn.out).mono ?_; rintro _ w2 ⟨rfl, hb2⟩)
  refine hK.out _ _ hb2 fun h2 => ?_
  clear hK K
  have ha2 : Sl w2 a (l.map vb) := ha1.below hb2
  have hw2 : Below w.heap.size w w2 := hw1.trans (hb2.mono hw1.size)
  clear ha1 hw1 h1 hb2
  clear k1
  refine mix_take 7 (v := ?_) rfl (by kernel_rfl) (fun _ _ _ h => h) (by kernel_rfl) (by assumption) (fun s => ?hy) ?_; case hy => (go_simp <;> with_reducible rfl)
  try simp only [Act.put, List.setIfInBounds_toArray, List.set_cons_zero, List.set_cons_succ]
  refine mix_take 8 (v := ?_) rfl (by kernel_rfl) (fun _ _ _ h => h) (by kernel_rfl) (by assumption) (fun s => ?hy) ?_; case hy => (go_simp <;> with_reducible rfl)
  try simp only [Act.put, List.setIfInBounds_toArray, List.set_cons_zero, List.set_cons_succ]
  refine mix_take 9 (v := ?_) rfl (by kernel_rfl) (fun _ _ _ h => h) (by kernel_rfl) (by assumption) (fun s => ?hy) ?_; case hy => (go_simp <;> with_reducible rfl)
  try simp only [Act.put, List.setIfInBounds_toArray, List.set_cons_zero, List.set_cons_succ]
  refine mix_take 10 (v := ?_) rfl (by kernel_rfl) (fun _ _ _ h => h) (by kernel_rfl) (by assumption) (fun s => ?hy) ?_; case hy => (go_simp <;> with_reducible rfl)
  try simp only [Act.put, List.setIfInBounds_toArray, List.set_cons_zero, List.set_cons_succ]
  refine mix_take 11 (v := ?_) rfl (by kernel_rfl) (fun _ _ _ h => h) (by kernel_rfl) (by assumption) (fun s => ?hy) ?_; case hy => (go_simp <;> with_reducible rfl)
  try simp only [Act.put, List.setIfInBounds_toArray, List.set_cons_zero, List.set_cons_succ]
  refine mix_take 14 (v := ?_) rfl (by kernel_rfl) (fun _ _ _ h => h) (by kernel_rfl) (by assumption) (fun s => ?hy) ?_; case hy => (go_simp <;> with_reducible rfl)
  try simp only [Act.put, List.setIfInBounds_toArray, List.set_cons_zero, List.set_cons_succ]
  refine mix_take 15 (v := ?_) rfl (by kernel_rfl) (fun _ _ _ h => h) (by kernel_rfl) (by assumption) (fun s => ?hy) ?_; case hy => (go_simp <;> with_reducible rfl)
  try simp only [Act.put, List.setIfInBounds_toArray, List.set_cons_zero, List.set_cons_succ]
  refine mix_one 12 (by kernel_rfl) rfl (by assumption) (fun K hK => ?_)
  go_simp
  (refine (str_any a l m cap s w2 hm.out ha2 (by omega) hcap (by omega)).mono ?_; rintro _ w3 ⟨v3, rfl, ho3, hb3⟩; obtain ⟨b3, c3, rfl, hs3, hl3, _, _⟩ := owns_sl ho3)
  refine hK.out _ _ hb3 fun h3 => ?_
  clear hK K
  have k3 : ∀ u : Past w3, (convert 22 9 (.slice b3 (m + (numB s.size).length + s.size) c3)).run Try.prog u.1 = .ok (.string (str (l ++ (numB s.size ++ s.data.toList)))) u.1 := fun u => run_bts u.1 _ _ _ Try.underlying22 Try.underlying5 Try.underlying9 (u.sl (by simpa using hs3)) _ _ (by simpa using hl3.symm)
  clear ho3 hl3 hs3
  have ha3 : Sl w3 a (l.map vb) := ha2.below hb3
  have hw3 : Below w.heap.size w w3 := hw2.trans (hb3.mono hw2.size)
  clear ha2 hw2 h2 hb3
  refine mix_take 13 (v := ?_) rfl (by kernel_rfl) (fun _ _ _ h => h) (by kernel_rfl) (by assumption) (fun s => ?hy) ?_; case hy => (go_simp <;> with_reducible rfl)
  try simp only [Act.put, List.setIfInBounds_toArray, List.set_cons_zero, List.set_cons_succ]
  refine mix_one 16 (by kernel_rfl) rfl (by assumption) (fun K hK => ?_)
  go_simp
  (refine (rstr_any s w3 (by omega)).mono ?_; rintro _ w4 ⟨rfl, hb4⟩)
  refine hK.out _ _ hb4 fun h4 => ?_
  clear hK K
  have ha4 : Sl w4 a (l.map vb) := ha3.below hb4
  have hw4 : Below w.heap.size w w4 := hw3.trans (hb4.mono hw3.size)
  clear ha3 hw3 h3 hb4
  clear k3
  refine mix_take 17 (v := ?_) rfl (by kernel_rfl) (fun _ _ _ h => h) (by kernel_rfl) (by assumption) (fun s => ?hy) ?_; case hy => (go_simp <;> with_reducible rfl)
  try simp only [Act.put, List.setIfInBounds_toArray, List.set_cons_zero, List.set_cons_succ]
  refine mix_take 18 (v := ?_) rfl (by kernel_rfl) (fun _ _ _ h => h) (by kernel_rfl) (by assumption) (fun s => ?hy) ?_; case hy => (go_simp <;> with_reducible rfl)
  try simp only [Act.put, List.setIfInBounds_toArray, List.set_cons_zero, List.set_cons_succ]
  refine mix_take 19 (v := ?_) rfl (by kernel_rfl) (fun _ _ _ h => h) (by kernel_rfl) (by assumption) (fun s => ?hy) ?_; case hy => (go_simp <;> with_reducible rfl)
  try simp only [Act.put, List.setIfInBounds_toArray, List.set_cons_zero, List.set_cons_succ]
  refine mix_take 20 (v := ?_) rfl (by kernel_rfl) (fun _ _ _ h => h) (by kernel_rfl) (by assumption) (fun s => ?hy) ?_; case hy => (go_simp <;> with_reducible rfl)
  try simp only [Act.put, List.setIfInBounds_toArray, List.set_cons_zero, List.set_cons_succ]
  refine mix_take 21 (v := ?_) rfl (by kernel_rfl) (fun _ _ _ h => h) (by kernel_rfl) (by assumption) (fun s => ?hy) ?_; case hy => (go_simp <;> with_reducible rfl)
  try simp only [Act.put, List.setIfInBounds_toArray, List.set_cons_zero, List.set_cons_succ]
  refine mix_take 22 (v := ?_) rfl (by kernel_rfl) (fun _ _ _ h => h) (by kernel_rfl) (by assumption) (fun s => ?hy) ?_; case hy => (go_simp <;> with_reducible rfl)
  try simp only [Act.put, List.setIfInBounds_toArray, List.set_cons_zero, List.set_cons_succ]
  refine mix_take 25 (v := ?_) rfl (by kernel_rfl) (fun _ _ _ h => h) (by kernel_rfl) (by assumption) (fun s => ?hy) ?_; case hy => (go_simp <;> with_reducible rfl)
  try simp only [Act.put, List.setIfInBounds_toArray, List.set_cons_zero, List.set_cons_succ]
  refine mix_take 26 (v := ?_) rfl (by kernel_rfl) (fun _ _ _ h => h) (by kernel_rfl) (by assumption) (fun s => ?hy) ?_; case hy => (go_simp <;> with_reducible rfl)
  try simp only [Act.put, List.setIfInBounds_toArray, List.set_cons_zero, List.set_cons_succ]
  refine mix_one 23 (by kernel_rfl) rfl (by assumption) (fun K hK => ?_)
  go_simp
  (refine (flag_any a l m cap b w4 hm.out ha4 (by omega) hcap).mono ?_; rintro _ w5 ⟨v5, rfl, ho5, hb5⟩; obtain ⟨b5, c5, rfl, hs5, hl5, _, _⟩ := owns_sl ho5)
  refine hK.out _ _ hb5 fun h5 => ?_
  clear hK K
  have k5 : ∀ u : Past w5, (convert 22 9 (.slice b5 (m + 1) c5)).run Try.prog u.1 = .ok (.string (str (l ++ [if b then 1 else 0]))) u.1 := fun u => run_bts u.1 _ _ _ Try.underlying22 Try.underlying5 Try.underlying9 (u.sl (by simpa using hs5)) _ _ (by simpa using hl5.symm)
  clear ho5 hl5 hs5
  have ha5 : Sl w5 a (l.map vb) := ha4.below hb5
  have hw5 : Below w.heap.size w w5 := hw4.trans (hb5.mono hw4.size)
  clear ha4 hw4 h4 hb5
  refine mix_take 24 (v := ?_) rfl (by kernel_rfl) (fun _ _ _ h => h) (by kernel_rfl) (by assumption) (fun s => ?hy) ?_; case hy => (go_simp <;> with_reducible rfl)
  try simp only [Act.put, List.setIfInBounds_toArray, List.set_cons_zero, List.set_cons_succ]
  refine mix_one 27 (by kernel_rfl) rfl (by assumption) (fun K hK => ?_)
  go_simp
  (refine (rflag_any b w5).mono ?_; rintro _ w6 ⟨rfl, hb6⟩)
  refine hK.out _ _ hb6 fun h6 => ?_
  clear hK K
  have ha6 : Sl w6 a (l.map vb) := ha5.below hb6
  have hw6 : Below w.heap.size w w6 := hw5.trans (hb6.mono hw5.size)
  clear ha5 hw5 h5 hb6
  have k7 : ∀ u : Past w6, (convert 22 9 (.slice a m cap)).run Try.prog u.1 = .ok (.string (str l)) u.1 := fun u => run_bts u.1 _ _ _ Try.underlying22 Try.underlying5 Try.underlying9 (u.sl ha6) _ _ hm.out
  refine mix_take 28 (v := ?_) rfl (by kernel_rfl) (fun _ _ _ h => h) (by kernel_rfl) (by assumption) (fun s => ?hy) ?_; case hy => (go_simp <;> with_reducible rfl)
  try simp only [Act.put, List.setIfInBounds_toArray, List.set_cons_zero, List.set_cons_succ]
  refine mix_take 29 (v := ?_) rfl (by kernel_rfl) (fun _ _ _ h => h) (by kernel_rfl) (by assumption) (fun s => ?hy) ?_; case hy => (go_simp <;> with_reducible rfl)
  try simp only [Act.put, List.setIfInBounds_toArray, List.set_cons_zero, List.set_cons_succ]
  refine mix_take 30 (v := ?_) rfl (by kernel_rfl) (fun _ _ _ h => h) (by kernel_rfl) (by assumption) (fun s => ?hy) ?_; case hy => (go_simp <;> with_reducible rfl)
  try simp only [Act.put, List.setIfInBounds_toArray, List.set_cons_zero, List.set_cons_succ]
  refine mix_take 31 (v := ?_) rfl (by kernel_rfl) (fun _ _ _ h => h) (by kernel_rfl) (by assumption) (fun s => ?hy) ?_; case hy => (go_simp <;> with_reducible rfl)
  try simp only [Act.put, List.setIfInBounds_toArray, List.set_cons_zero, List.set_cons_succ]
  refine mix_take 32 (v := ?_) rfl (by kernel_rfl) (fun _ _ _ h => h) (by kernel_rfl) (by assumption) (fun s => ?hy) ?_; case hy => (go_simp <;> with_reducible rfl)
  try simp only [Act.put, List.setIfInBounds_toArray, List.set_cons_zero, List.set_cons_succ]
  refine mix_take 33 (v := ?_) rfl (by kernel_rfl) (fun _ _ _ h => h) (by kernel_rfl) (by assumption) (fun s => ?hy) ?_; case hy => (go_simp <;> with_reducible rfl)
  try simp only [Act.put, List.setIfInBounds_toArray, List.set_cons_zero, List.set_cons_succ]
  refine mix_take 34 (v := ?_) rfl (by kernel_rfl) (fun _ _ _ h => h) (by kernel_rfl) (by assumption) (fun s => ?hy) ?_; case hy => (go_simp <;> with_reducible rfl)
  try simp only [Act.put, List.setIfInBounds_toArray, List.set_cons_zero, List.set_cons_succ]
  refine mix_take 35 (v := ?_) rfl (by kernel_rfl) (fun _ _ _ h => h) (by kernel_rfl) (by assumption) (fun s => ?hy) ?_; case hy => (go_simp <;> with_reducible rfl)
  try simp only [Act.put, List.setIfInBounds_toArray, List.set_cons_zero, List.set_cons_succ]
  refine mix_take 36 (v := ?_) rfl (by kernel_rfl) (fun _ _ _ h => h) (by kernel_rfl) (by assumption) (fun s => ?hy) ?_; case hy => (go_simp <;> with_reducible rfl)
  try simp only [Act.put, List.setIfInBounds_toArray, List.set_cons_zero, List.set_cons_succ]
  refine mix_take 37 (v := ?_) rfl (by kernel_rfl) (fun _ _ _ h => h) (by kernel_rfl) (by assumption) (fun s => ?hy) ?_; case hy => (go_simp <;> with_reducible rfl)
  try simp only [Act.put, List.setIfInBounds_toArray, List.set_cons_zero, List.set_cons_succ]
  refine mix_one 38 (by kernel_rfl) rfl (by assumption) (fun K hK => ?_)
  go_simp
  (refine (awake01_any w6).mono ?_; rintro _ w7 ⟨rfl, hb7⟩)
  refine hK.out _ _ hb7 fun h7 => ?_
  clear hK K
  have hw7 : Below w.heap.size w w7 := hw6.trans (hb7.mono hw6.size)
  refine mix_take 39 (v := ?_) rfl (by kernel_rfl) (fun _ _ _ h => h) (by kernel_rfl) (by assumption) (fun s => ?hy) ?_; case hy => (go_simp <;> with_reducible rfl)
  try simp only [Act.put, List.setIfInBounds_toArray, List.set_cons_zero, List.set_cons_succ]
  refine mix_take 40 (v := ?_) rfl (by kernel_rfl) (fun _ _ _ h => h) (by kernel_rfl) (by assumption) (fun s => ?hy) ?_; case hy => (go_simp <;> with_reducible rfl)
  try simp only [Act.put, List.setIfInBounds_toArray, List.set_cons_zero, List.set_cons_succ]
  clear k5 k7
  refine wpAnyH_done (by kernel_rfl) ?_ _
  go_wp2_with fail
  all_goals
    go_ret
    exact ⟨rfl, hw7⟩

theorem puts_skip (a : Option Addr) (m cap : Nat) (n : Int) (s : ByteArray) (w : World) (hm : m ≤ maxLen) (hs : s.size ≤ maxLen) (h : 1000 < m ∨ 1000 < s.size) :
    Calls Try.prog 8 #[.slice a m cap, .int .i64 n, .string s] w fun e w' => e = .returned (.bool true) ∧ Below w.heap.size w w' := by
  unfold maxLen at hs hm
  by_cases h1 : 1000 < m
  · clear h
    go_enter Try.func8, Try.ntmps8
    go_wp2_with (go_at_call 31; refine (awake01_any _).mono ?_; rintro e w' ⟨rfl, hb⟩)
    go_ret
    exact ⟨rfl, hb⟩
  · have h2 : 1000 < s.size := by omega
    clear h
    go_enter Try.func8, Try.ntmps8
    go_wp2_with (go_at_call 31; refine (awake01_any _).mono ?_; rintro e w' ⟨rfl, hb⟩)
    go_ret
    exact ⟨rfl, hb⟩

theorem puts_all (a : Option Addr) (l : List UInt8) (cap : Nat) (n : Int) (s : ByteArray) (w : World) (ha : Sl w a (l.map vb)) (hcap : l.length ≤ cap) (hl : l.length ≤ maxLen) (hs : s.size ≤ maxLen) (hn : -9223372036854775808 ≤ n ∧ n ≤ 9223372036854775807) :
    Calls Try.prog 8 #[.slice a l.length cap, .int .i64 n, .string s] w fun e w' => e = .returned (.bool true) ∧ Below w.heap.size w w' := by
  by_cases h : 1000 < l.length ∨ 1000 < s.size
  · exact puts_skip a l.length cap n s w hl hs h
  · exact puts_main a l l.length cap n s w rfl ha (by omega) hcap (by omega) hn

end Go.Proofs.Ytcpkmgmdhjhfaaa
