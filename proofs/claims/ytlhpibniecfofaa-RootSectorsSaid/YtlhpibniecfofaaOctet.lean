/- The walks of package octet (numbers, texts, truths put behind bytes) and of its reference. -/
import Derived.Test.YtlhpibniecfofaaKit
import Derived.Test.YtlhpibniecfofaaOctetMath
import Derived.Test.YtlhpibniecfofaaSum
set_option linter.unusedSimpArgs false
set_option linter.unusedVariables false
namespace Go.Proofs.Ytlhpibniecfofaa
open Go.RowKit Go.Ofp

theorem clamp_cases (n : Int) : (n < 0 ∧ clampN n = 0) ∨ (0 ≤ n ∧ n ≤ 1099511627776 ∧ (clampN n : Int) = n) ∨ (1099511627776 < n ∧ clampN n = 1099511627776) := by
  unfold clampN maxNum
  omega

set_option maxRecDepth 10000 in
set_option maxHeartbeats 1000000 in
theorem num_any (a : Option Addr) (l : List UInt8) (m cap : Nat) (n : Int) (w : World) (hm : m = l.length) (ha : Sl w a (l.map vb)) (hl : m ≤ 1000000) (hcap : m ≤ cap) :
    Calls Try.prog 97 #[.slice a m cap, .int .i64 n] w fun e w' => ∃ v, e = .returned v ∧ w'.ownsRow w.heap.size 5 1 v (m + (numB (clampN n)).length) ((l ++ numB (clampN n)).map vb) ∧ Below w.heap.size w w' := by
  replace hm := Lib.hid hm
  replace ha := Lib.hid ha
  obtain ⟨c, hc⟩ : ∃ c, c = clampN n := ⟨_, rfl⟩
  have hcl : c ≤ 1099511627776 := by rw [hc]; exact clampN_le n
  rw [← hc]
  have hcc := clamp_cases n
  rw [← hc] at hcc
  clear hc
  have hs : ∀ W : World, ∀ v : Int, True := fun _ _ => trivial
  clear hs
  rcases hcc with ⟨h0, rfl⟩ | ⟨h0, h1, rfl⟩ | ⟨h1, rfl⟩
  · go_enter Try.func97, Try.ntmps97
    go_wp2_with fail
    go_loopg [0, 5] 0 (fun gk v i wr => ∃ (d : Nat) (pre : List UInt8), d = gk ∧ d ≤ 1099511627776 ∧ i = .int .i64 d ∧ Full wr w.heap.size 5 1 v (m + pre.length) ((l ++ pre).map vb) ∧ Below w.heap.size w wr ∧ pre ++ numB d = numB 0 ∧ pre.length ≤ 6)
    case atStart => exact ⟨0, [], rfl, by decide, rfl, by simpa using Full.full ha.out (by simp [hm.out]), Below.refl _ _, rfl, by decide⟩
    case round =>
      obtain ⟨d, pre, rfl, hd, rfl, hf, hb, hpre, hpl⟩ := hrel
      have hlen := congrArg List.length hpre
      rw [List.length_append] at hlen
      have hs6 := numB_six 0 (by decide)
      replace hpre := Lib.hid hpre
      by_cases hlt : d < 128
      · rw [numB_lt d hlt] at hlen
        simp only [List.length_singleton] at hlen
        replace hlen := Lib.hid hlen
        replace hf := Lib.hid hf
        have hvb := Lib.hid (vb_small d (by omega))
        go_wp2_with (at_builtin; refine wpList_app_full (s := .tmp 25) (x := .tmp 28) rfl rfl Try.underlying127 elem_u8 (hf.out.alloc _) rfl (Src.slice Try.underlying127 (Sl.new _ _ _ _) (by simp)) rfl (by simp [Value.oneCell']) (by decide) (by omega) (by unfold maxLen; omega) (by have := hb.size; simp; omega) ?_; intro v' w' ho' hb')
        go_ret
        refine ⟨_, rfl, ?_, (hb.alloc hb.size _).trans hb'⟩
        have := hpre.out
        rw [numB_lt d hlt] at this
        have e1 : List.map vb l ++ List.map vb (numB 0) = List.map vb (l ++ pre) ++ [.int .u8 (d : Int)] := by rw [← this, ← hvb.out]; simp
        have e2 : m + (numB 0).length = m + pre.length + 1 := by rw [← this, List.length_append, Nat.add_assoc]; rfl
        rw [e1, e2]
        exact ho'
      · have hge := numB_ge d hlt
        rw [hge] at hlen
        simp only [List.length_cons] at hlen
        have hlp : 0 < (numB (d / 128)).length := by
          by_cases h : d / 128 < 128
          · rw [numB_lt _ h]; simp
          · rw [numB_ge _ h]; simp
        have hpl5 : pre.length ≤ 5 := by omega
        have hdiv : (d : Int) / (128 : Int) = ((d / 128 : Nat) : Int) := by omega
        have hor := or_high d
        have hvb := Lib.hid (vb_small (d % 128 + 128) (by omega))
        replace hlen := Lib.hid hlen
        replace hf := Lib.hid hf
        replace hge := Lib.hid hge
        replace hor := Lib.hid hor
        replace hdiv := Lib.hid hdiv
        clear hlp
        go_wp2_with (at_builtin; refine wpList_app_full (s := .tmp 17) (x := .tmp 21) rfl rfl Try.underlying127 elem_u8 (hf.out.alloc _) rfl (Src.slice Try.underlying127 (Sl.new _ _ _ _) (by simp)) rfl (by simp [Value.oneCell']) (by decide) (by omega) (by unfold maxLen; omega) (by have := hb.size; simp; omega) ?_; intro v' w' ho' hb')
        go_roundg (d / 128)
        case measure => omega
        case rel =>
          refine ⟨d / 128, pre ++ [UInt8.ofNat (d % 128 + 128)], rfl, by omega, congrArg (Value.int .i64) hdiv.out, ?_, (hb.alloc hb.size _).trans hb', ?_, by simp; omega⟩
          · refine Full.own ?_
            rw [hor.out] at ho'
            rw [← List.append_assoc, List.map_append, List.map_cons, List.map_nil, hvb.out, List.length_append, List.length_singleton, ← Nat.add_assoc]
            exact ho'
          · have := hpre.out
            rw [hge.out] at this
            rw [← this]
            simp

  · go_enter Try.func97, Try.ntmps97
    go_wp2_with fail
    go_loopg [0, 5] c (fun gk v i wr => ∃ (d : Nat) (pre : List UInt8), d = gk ∧ d ≤ 1099511627776 ∧ i = .int .i64 d ∧ Full wr w.heap.size 5 1 v (m + pre.length) ((l ++ pre).map vb) ∧ Below w.heap.size w wr ∧ pre ++ numB d = numB c ∧ pre.length ≤ 6)
    case atStart => exact ⟨c, [], rfl, hcl, rfl, by simpa using Full.full ha.out (by simp [hm.out]), Below.refl _ _, rfl, by decide⟩
    case round =>
      obtain ⟨d, pre, rfl, hd, rfl, hf, hb, hpre, hpl⟩ := hrel
      have hlen := congrArg List.length hpre
      rw [List.length_append] at hlen
      have hs6 := numB_six c hcl
      replace hpre := Lib.hid hpre
      by_cases hlt : d < 128
      · rw [numB_lt d hlt] at hlen
        simp only [List.length_singleton] at hlen
        replace hlen := Lib.hid hlen
        replace hf := Lib.hid hf
        have hvb := Lib.hid (vb_small d (by omega))
        go_wp2_with (at_builtin; refine wpList_app_full (s := .tmp 25) (x := .tmp 28) rfl rfl Try.underlying127 elem_u8 (hf.out.alloc _) rfl (Src.slice Try.underlying127 (Sl.new _ _ _ _) (by simp)) rfl (by simp [Value.oneCell']) (by decide) (by omega) (by unfold maxLen; omega) (by have := hb.size; simp; omega) ?_; intro v' w' ho' hb')
        go_ret
        refine ⟨_, rfl, ?_, (hb.alloc hb.size _).trans hb'⟩
        have := hpre.out
        rw [numB_lt d hlt] at this
        have e1 : List.map vb l ++ List.map vb (numB c) = List.map vb (l ++ pre) ++ [.int .u8 (d : Int)] := by rw [← this, ← hvb.out]; simp
        have e2 : m + (numB c).length = m + pre.length + 1 := by rw [← this, List.length_append, Nat.add_assoc]; rfl
        rw [e1, e2]
        exact ho'
      · have hge := numB_ge d hlt
        rw [hge] at hlen
        simp only [List.length_cons] at hlen
        have hlp : 0 < (numB (d / 128)).length := by
          by_cases h : d / 128 < 128
          · rw [numB_lt _ h]; simp
          · rw [numB_ge _ h]; simp
        have hpl5 : pre.length ≤ 5 := by omega
        have hdiv : (d : Int) / (128 : Int) = ((d / 128 : Nat) : Int) := by omega
        have hor := or_high d
        have hvb := Lib.hid (vb_small (d % 128 + 128) (by omega))
        replace hlen := Lib.hid hlen
        replace hf := Lib.hid hf
        replace hge := Lib.hid hge
        replace hor := Lib.hid hor
        replace hdiv := Lib.hid hdiv
        clear hlp
        go_wp2_with (at_builtin; refine wpList_app_full (s := .tmp 17) (x := .tmp 21) rfl rfl Try.underlying127 elem_u8 (hf.out.alloc _) rfl (Src.slice Try.underlying127 (Sl.new _ _ _ _) (by simp)) rfl (by simp [Value.oneCell']) (by decide) (by omega) (by unfold maxLen; omega) (by have := hb.size; simp; omega) ?_; intro v' w' ho' hb')
        go_roundg (d / 128)
        case measure => omega
        case rel =>
          refine ⟨d / 128, pre ++ [UInt8.ofNat (d % 128 + 128)], rfl, by omega, congrArg (Value.int .i64) hdiv.out, ?_, (hb.alloc hb.size _).trans hb', ?_, by simp; omega⟩
          · refine Full.own ?_
            rw [hor.out] at ho'
            rw [← List.append_assoc, List.map_append, List.map_cons, List.map_nil, hvb.out, List.length_append, List.length_singleton, ← Nat.add_assoc]
            exact ho'
          · have := hpre.out
            rw [hge.out] at this
            rw [← this]
            simp

  · go_enter Try.func97, Try.ntmps97
    go_wp2_with fail
    go_loopg [0, 5] 1099511627776 (fun gk v i wr => ∃ (d : Nat) (pre : List UInt8), d = gk ∧ d ≤ 1099511627776 ∧ i = .int .i64 d ∧ Full wr w.heap.size 5 1 v (m + pre.length) ((l ++ pre).map vb) ∧ Below w.heap.size w wr ∧ pre ++ numB d = numB 1099511627776 ∧ pre.length ≤ 6)
    case atStart => exact ⟨1099511627776, [], rfl, by decide, rfl, by simpa using Full.full ha.out (by simp [hm.out]), Below.refl _ _, rfl, by decide⟩
    case round =>
      obtain ⟨d, pre, rfl, hd, rfl, hf, hb, hpre, hpl⟩ := hrel
      have hlen := congrArg List.length hpre
      rw [List.length_append] at hlen
      have hs6 := numB_six 1099511627776 (by decide)
      replace hpre := Lib.hid hpre
      by_cases hlt : d < 128
      · rw [numB_lt d hlt] at hlen
        simp only [List.length_singleton] at hlen
        replace hlen := Lib.hid hlen
        replace hf := Lib.hid hf
        have hvb := Lib.hid (vb_small d (by omega))
        go_wp2_with (at_builtin; refine wpList_app_full (s := .tmp 25) (x := .tmp 28) rfl rfl Try.underlying127 elem_u8 (hf.out.alloc _) rfl (Src.slice Try.underlying127 (Sl.new _ _ _ _) (by simp)) rfl (by simp [Value.oneCell']) (by decide) (by omega) (by unfold maxLen; omega) (by have := hb.size; simp; omega) ?_; intro v' w' ho' hb')
        go_ret
        refine ⟨_, rfl, ?_, (hb.alloc hb.size _).trans hb'⟩
        have := hpre.out
        rw [numB_lt d hlt] at this
        have e1 : List.map vb l ++ List.map vb (numB 1099511627776) = List.map vb (l ++ pre) ++ [.int .u8 (d : Int)] := by rw [← this, ← hvb.out]; simp
        have e2 : m + (numB 1099511627776).length = m + pre.length + 1 := by rw [← this, List.length_append, Nat.add_assoc]; rfl
        rw [e1, e2]
        exact ho'
      · have hge := numB_ge d hlt
        rw [hge] at hlen
        simp only [List.length_cons] at hlen
        have hlp : 0 < (numB (d / 128)).length := by
          by_cases h : d / 128 < 128
          · rw [numB_lt _ h]; simp
          · rw [numB_ge _ h]; simp
        have hpl5 : pre.length ≤ 5 := by omega
        have hdiv : (d : Int) / (128 : Int) = ((d / 128 : Nat) : Int) := by omega
        have hor := or_high d
        have hvb := Lib.hid (vb_small (d % 128 + 128) (by omega))
        replace hlen := Lib.hid hlen
        replace hf := Lib.hid hf
        replace hge := Lib.hid hge
        replace hor := Lib.hid hor
        replace hdiv := Lib.hid hdiv
        clear hlp
        go_wp2_with (at_builtin; refine wpList_app_full (s := .tmp 17) (x := .tmp 21) rfl rfl Try.underlying127 elem_u8 (hf.out.alloc _) rfl (Src.slice Try.underlying127 (Sl.new _ _ _ _) (by simp)) rfl (by simp [Value.oneCell']) (by decide) (by omega) (by unfold maxLen; omega) (by have := hb.size; simp; omega) ?_; intro v' w' ho' hb')
        go_roundg (d / 128)
        case measure => omega
        case rel =>
          refine ⟨d / 128, pre ++ [UInt8.ofNat (d % 128 + 128)], rfl, by omega, congrArg (Value.int .i64) hdiv.out, ?_, (hb.alloc hb.size _).trans hb', ?_, by simp; omega⟩
          · refine Full.own ?_
            rw [hor.out] at ho'
            rw [← List.append_assoc, List.map_append, List.map_cons, List.map_nil, hvb.out, List.length_append, List.length_singleton, ← Nat.add_assoc]
            exact ho'
          · have := hpre.out
            rw [hge.out] at this
            rw [← this]
            simp

theorem clamp_nat (n : Nat) (h : n ≤ 1099511627776) : clampN n = n := by unfold clampN maxNum; omega

set_option maxRecDepth 10000 in
theorem rnum_any (n : Int) (w : World) (hn : -9223372036854775808 ≤ n ∧ n ≤ 9223372036854775807) :
    Calls Try.prog 78 #[.int .i64 n] w fun e w' => e = .returned (.string (str (numB (clampN n)))) ∧ Below w.heap.size w w' := by
  obtain ⟨hn0, hn1⟩ := hn
  obtain ⟨c, hc⟩ : ∃ c, c = clampN n := ⟨_, rfl⟩
  have hcl : c ≤ 1099511627776 := by rw [hc]; exact clampN_le n
  rw [← hc]
  have hcc := clamp_cases n
  rw [← hc] at hcc
  clear hc
  rcases hcc with ⟨h0, rfl⟩ | ⟨h0, h1, rfl⟩ | ⟨h1, rfl⟩
  · go_enter Try.func78, Try.ntmps78
    go_wp2_with fail
    go_loopg [3, 4] 0 (fun gk i v wr => ∃ (d : Nat) (pre : List UInt8), d = gk ∧ d ≤ 1099511627776 ∧ i = .int .i64 d ∧ v = .string (str pre) ∧ Below w.heap.size w wr ∧ pre ++ numB d = numB 0 ∧ pre.length ≤ 6)
    case atStart => exact ⟨0, [], rfl, (by decide), rfl, rfl, Below.refl _ _, rfl, by decide⟩
    case round =>
      obtain ⟨d, pre, rfl, hd, rfl, rfl, hb, hpre, hpl⟩ := hrel
      have hlen := congrArg List.length hpre
      rw [List.length_append] at hlen
      have hs6 := numB_six 0 (by decide)
      replace hpre := Lib.hid hpre
      by_cases hlt : d < 128
      · rw [numB_lt d hlt] at hlen
        simp only [List.length_singleton] at hlen
        replace hlen := Lib.hid hlen
        have hvb := vb_small d (by omega)
        have hsl : Sl (wr.alloc (.cells #[.int .u8 (d : Int)] 5)) (some ⟨wr.heap.size, 0, none⟩) ([UInt8.ofNat d].map vb) := by
          rw [List.map_singleton, hvb]; exact Sl.new wr #[.int .u8 (d : Int)] _ _
        have hsz : pre.length + 1 ≤ 9223372036854775807 := by omega
        replace hsl := Lib.hid hsl
        replace hvb := Lib.hid hvb
        go_wp2_with (with_reducible refine wpList_bts (src := 127) (dst := 9) (x := .tmp 23) (l := [UInt8.ofNat d]) rfl rfl Try.underlying127 Try.underlying5 Try.underlying9 rfl hsl.out rfl ?_)
        go_ret
        refine ⟨ret_val ?_, hb.alloc hb.size _⟩
        show Value.string (str pre ++ str [UInt8.ofNat d]) = _
        rw [str_append, str_data, ← hpre.out, numB_lt d hlt]
      · have hge := numB_ge d hlt
        rw [hge] at hlen
        simp only [List.length_cons] at hlen
        have hlp : 0 < (numB (d / 128)).length := by
          by_cases h : d / 128 < 128
          · rw [numB_lt _ h]; simp
          · rw [numB_ge _ h]; simp
        have hpl5 : pre.length ≤ 5 := by omega
        have hdiv : (d : Int) / (128 : Int) = ((d / 128 : Nat) : Int) := by omega
        have hvb := vb_small (d % 128 + 128) (by omega)
        have hmod : ((d % 128 + 128 : Nat) : Int) = (d : Int) % 128 + 128 := by omega
        have hsl : Sl (wr.alloc (.cells #[.int .u8 ((d : Int) % 128 + 128)] 5)) (some ⟨wr.heap.size, 0, none⟩) ([UInt8.ofNat (d % 128 + 128)].map vb) := by
          rw [List.map_singleton, hvb, hmod]; exact Sl.new wr #[.int .u8 ((d : Int) % 128 + 128)] _ _
        have hsz : pre.length + 1 ≤ 9223372036854775807 := by omega
        have hm0 : 0 ≤ (d : Int) % 128 := by omega
        have hm1 : (d : Int) % 128 < 128 := by omega
        replace hsl := Lib.hid hsl
        replace hvb := Lib.hid hvb
        replace hmod := Lib.hid hmod
        replace hlen := Lib.hid hlen
        replace hge := Lib.hid hge
        replace hdiv := Lib.hid hdiv
        clear hlp
        go_wp2_with (with_reducible refine wpList_bts (src := 127) (dst := 9) (x := .tmp 15) (l := [UInt8.ofNat (d % 128 + 128)]) rfl rfl Try.underlying127 Try.underlying5 Try.underlying9 rfl hsl.out rfl ?_)
        go_roundg (d / 128)
        case measure => omega
        case rel =>
          refine ⟨d / 128, pre ++ [UInt8.ofNat (d % 128 + 128)], rfl, by omega, congrArg (Value.int .i64) hdiv.out, ?_, hb.alloc hb.size _, ?_, by simp; omega⟩
          · rw [str_append, str_data, UInt8.ofNat_add (d % 128) 128]; rfl
          · have := hpre.out
            rw [hge.out] at this
            rw [← this]
            simp

  · go_enter Try.func78, Try.ntmps78
    go_wp2_with fail
    go_loopg [3, 4] c (fun gk i v wr => ∃ (d : Nat) (pre : List UInt8), d = gk ∧ d ≤ 1099511627776 ∧ i = .int .i64 d ∧ v = .string (str pre) ∧ Below w.heap.size w wr ∧ pre ++ numB d = numB c ∧ pre.length ≤ 6)
    case atStart => exact ⟨c, [], rfl, hcl, rfl, rfl, Below.refl _ _, rfl, by decide⟩
    case round =>
      obtain ⟨d, pre, rfl, hd, rfl, rfl, hb, hpre, hpl⟩ := hrel
      have hlen := congrArg List.length hpre
      rw [List.length_append] at hlen
      have hs6 := numB_six c hcl
      replace hpre := Lib.hid hpre
      by_cases hlt : d < 128
      · rw [numB_lt d hlt] at hlen
        simp only [List.length_singleton] at hlen
        replace hlen := Lib.hid hlen
        have hvb := vb_small d (by omega)
        have hsl : Sl (wr.alloc (.cells #[.int .u8 (d : Int)] 5)) (some ⟨wr.heap.size, 0, none⟩) ([UInt8.ofNat d].map vb) := by
          rw [List.map_singleton, hvb]; exact Sl.new wr #[.int .u8 (d : Int)] _ _
        have hsz : pre.length + 1 ≤ 9223372036854775807 := by omega
        replace hsl := Lib.hid hsl
        replace hvb := Lib.hid hvb
        go_wp2_with (with_reducible refine wpList_bts (src := 127) (dst := 9) (x := .tmp 23) (l := [UInt8.ofNat d]) rfl rfl Try.underlying127 Try.underlying5 Try.underlying9 rfl hsl.out rfl ?_)
        go_ret
        refine ⟨ret_val ?_, hb.alloc hb.size _⟩
        show Value.string (str pre ++ str [UInt8.ofNat d]) = _
        rw [str_append, str_data, ← hpre.out, numB_lt d hlt]
      · have hge := numB_ge d hlt
        rw [hge] at hlen
        simp only [List.length_cons] at hlen
        have hlp : 0 < (numB (d / 128)).length := by
          by_cases h : d / 128 < 128
          · rw [numB_lt _ h]; simp
          · rw [numB_ge _ h]; simp
        have hpl5 : pre.length ≤ 5 := by omega
        have hdiv : (d : Int) / (128 : Int) = ((d / 128 : Nat) : Int) := by omega
        have hvb := vb_small (d % 128 + 128) (by omega)
        have hmod : ((d % 128 + 128 : Nat) : Int) = (d : Int) % 128 + 128 := by omega
        have hsl : Sl (wr.alloc (.cells #[.int .u8 ((d : Int) % 128 + 128)] 5)) (some ⟨wr.heap.size, 0, none⟩) ([UInt8.ofNat (d % 128 + 128)].map vb) := by
          rw [List.map_singleton, hvb, hmod]; exact Sl.new wr #[.int .u8 ((d : Int) % 128 + 128)] _ _
        have hsz : pre.length + 1 ≤ 9223372036854775807 := by omega
        have hm0 : 0 ≤ (d : Int) % 128 := by omega
        have hm1 : (d : Int) % 128 < 128 := by omega
        replace hsl := Lib.hid hsl
        replace hvb := Lib.hid hvb
        replace hmod := Lib.hid hmod
        replace hlen := Lib.hid hlen
        replace hge := Lib.hid hge
        replace hdiv := Lib.hid hdiv
        clear hlp
        go_wp2_with (with_reducible refine wpList_bts (src := 127) (dst := 9) (x := .tmp 15) (l := [UInt8.ofNat (d % 128 + 128)]) rfl rfl Try.underlying127 Try.underlying5 Try.underlying9 rfl hsl.out rfl ?_)
        go_roundg (d / 128)
        case measure => omega
        case rel =>
          refine ⟨d / 128, pre ++ [UInt8.ofNat (d % 128 + 128)], rfl, by omega, congrArg (Value.int .i64) hdiv.out, ?_, hb.alloc hb.size _, ?_, by simp; omega⟩
          · rw [str_append, str_data, UInt8.ofNat_add (d % 128) 128]; rfl
          · have := hpre.out
            rw [hge.out] at this
            rw [← this]
            simp

  · go_enter Try.func78, Try.ntmps78
    go_wp2_with fail
    go_loopg [3, 4] 1099511627776 (fun gk i v wr => ∃ (d : Nat) (pre : List UInt8), d = gk ∧ d ≤ 1099511627776 ∧ i = .int .i64 d ∧ v = .string (str pre) ∧ Below w.heap.size w wr ∧ pre ++ numB d = numB 1099511627776 ∧ pre.length ≤ 6)
    case atStart => exact ⟨1099511627776, [], rfl, (by decide), rfl, rfl, Below.refl _ _, rfl, by decide⟩
    case round =>
      obtain ⟨d, pre, rfl, hd, rfl, rfl, hb, hpre, hpl⟩ := hrel
      have hlen := congrArg List.length hpre
      rw [List.length_append] at hlen
      have hs6 := numB_six 1099511627776 (by decide)
      replace hpre := Lib.hid hpre
      by_cases hlt : d < 128
      · rw [numB_lt d hlt] at hlen
        simp only [List.length_singleton] at hlen
        replace hlen := Lib.hid hlen
        have hvb := vb_small d (by omega)
        have hsl : Sl (wr.alloc (.cells #[.int .u8 (d : Int)] 5)) (some ⟨wr.heap.size, 0, none⟩) ([UInt8.ofNat d].map vb) := by
          rw [List.map_singleton, hvb]; exact Sl.new wr #[.int .u8 (d : Int)] _ _
        have hsz : pre.length + 1 ≤ 9223372036854775807 := by omega
        replace hsl := Lib.hid hsl
        replace hvb := Lib.hid hvb
        go_wp2_with (with_reducible refine wpList_bts (src := 127) (dst := 9) (x := .tmp 23) (l := [UInt8.ofNat d]) rfl rfl Try.underlying127 Try.underlying5 Try.underlying9 rfl hsl.out rfl ?_)
        go_ret
        refine ⟨ret_val ?_, hb.alloc hb.size _⟩
        show Value.string (str pre ++ str [UInt8.ofNat d]) = _
        rw [str_append, str_data, ← hpre.out, numB_lt d hlt]
      · have hge := numB_ge d hlt
        rw [hge] at hlen
        simp only [List.length_cons] at hlen
        have hlp : 0 < (numB (d / 128)).length := by
          by_cases h : d / 128 < 128
          · rw [numB_lt _ h]; simp
          · rw [numB_ge _ h]; simp
        have hpl5 : pre.length ≤ 5 := by omega
        have hdiv : (d : Int) / (128 : Int) = ((d / 128 : Nat) : Int) := by omega
        have hvb := vb_small (d % 128 + 128) (by omega)
        have hmod : ((d % 128 + 128 : Nat) : Int) = (d : Int) % 128 + 128 := by omega
        have hsl : Sl (wr.alloc (.cells #[.int .u8 ((d : Int) % 128 + 128)] 5)) (some ⟨wr.heap.size, 0, none⟩) ([UInt8.ofNat (d % 128 + 128)].map vb) := by
          rw [List.map_singleton, hvb, hmod]; exact Sl.new wr #[.int .u8 ((d : Int) % 128 + 128)] _ _
        have hsz : pre.length + 1 ≤ 9223372036854775807 := by omega
        have hm0 : 0 ≤ (d : Int) % 128 := by omega
        have hm1 : (d : Int) % 128 < 128 := by omega
        replace hsl := Lib.hid hsl
        replace hvb := Lib.hid hvb
        replace hmod := Lib.hid hmod
        replace hlen := Lib.hid hlen
        replace hge := Lib.hid hge
        replace hdiv := Lib.hid hdiv
        clear hlp
        go_wp2_with (with_reducible refine wpList_bts (src := 127) (dst := 9) (x := .tmp 15) (l := [UInt8.ofNat (d % 128 + 128)]) rfl rfl Try.underlying127 Try.underlying5 Try.underlying9 rfl hsl.out rfl ?_)
        go_roundg (d / 128)
        case measure => omega
        case rel =>
          refine ⟨d / 128, pre ++ [UInt8.ofNat (d % 128 + 128)], rfl, by omega, congrArg (Value.int .i64) hdiv.out, ?_, hb.alloc hb.size _, ?_, by simp; omega⟩
          · rw [str_append, str_data, UInt8.ofNat_add (d % 128) 128]; rfl
          · have := hpre.out
            rw [hge.out] at this
            rw [← this]
            simp

end Go.Proofs.Ytlhpibniecfofaa
