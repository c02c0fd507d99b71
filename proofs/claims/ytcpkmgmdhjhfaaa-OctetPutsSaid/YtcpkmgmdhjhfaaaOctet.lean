/- The walks of package octet (numbers, texts, truths put behind bytes) and of its reference. -/
import Derived.Test.YtcpkmgmdhjhfaaaKit
import Derived.Test.YtcpkmgmdhjhfaaaOctetMath
import Derived.Test.YtcpkmgmdhjhfaaaSum
namespace Go.Proofs.Ytcpkmgmdhjhfaaa
open Go.RowKit Go.Ofp

theorem clamp_cases (n : Int) : (n < 0 ∧ clampN n = 0) ∨ (0 ≤ n ∧ n ≤ 1099511627776 ∧ (clampN n : Int) = n) ∨ (1099511627776 < n ∧ clampN n = 1099511627776) := by
  unfold clampN maxNum
  omega

set_option maxRecDepth 10000 in
set_option maxHeartbeats 1000000 in
theorem num_any (a : Option Addr) (l : List UInt8) (m cap : Nat) (n : Int) (w : World) (hm : m = l.length) (ha : Sl w a (l.map vb)) (hl : m ≤ 1000000) (hcap : m ≤ cap) :
    Calls Try.prog 32 #[.slice a m cap, .int .i64 n] w fun e w' => ∃ v, e = .returned v ∧ w'.ownsRow w.heap.size 5 1 v (m + (numB (clampN n)).length) ((l ++ numB (clampN n)).map vb) ∧ Below w.heap.size w w' := by
  replace hm := Lib.hid hm
  replace ha := Lib.hid ha
  obtain ⟨c, hc⟩ : ∃ c, c = clampN n := ⟨_, rfl⟩
  have hcl : c ≤ 1099511627776 := by rw [hc]; exact clampN_le n
  rw [← hc]
  have hcc := clamp_cases n
  rw [← hc] at hcc
  clear hc
  have hs : ∀ W : World, ∀ v : Int, True := fun _ _ => trivial
  clear hs
  rcases hcc with ⟨h0, rfl⟩ | ⟨h0, h1, rfl⟩ | ⟨h1, rfl⟩
  · go_enter Try.func32, Try.ntmps32
    go_wp2_with fail
    go_loopg [0, 5] 0 (fun gk v i wr => ∃ (d : Nat) (pre : List UInt8), d = gk ∧ d ≤ 1099511627776 ∧ i = .int .i64 d ∧ Full wr w.heap.size 5 1 v (m + pre.length) ((l ++ pre).map vb) ∧ Below w.heap.size w wr ∧ pre ++ numB d = numB 0 ∧ pre.length ≤ 6)
    case atStart => exact ⟨0, [], rfl, by decide, rfl, by simpa using Full.full ha.out (by simp [hm.out]), Below.refl _ _, rfl, by decide⟩
    case round =>
      obtain ⟨d, pre, rfl, hd, rfl, hf, hb, hpre, hpl⟩ := hrel
      have hlen := congrArg List.length hpre
      rw [List.length_append] at hlen
      have hs6 := numB_six 0 (by decide)
      replace hpre := Lib.hid hpre
      by_cases hlt : d < 128
      · rw [numB_lt d hlt] at hlen
        simp only [List.length_singleton] at hlen
        replace hlen := Lib.hid hlen
        replace hf := Lib.hid hf
        have hvb := Lib.hid (vb_small d (by omega))
        go_wp2_with (at_builtin; refine wpList_app_full (s := .tmp 25) (x := .tmp 28) rfl rfl Try.underlying22 elem_u8 (hf.out.alloc _) rfl (Src.slice Try.underlying22 (Sl.new _ _ _ _) (by simp)) rfl (by simp [Value.oneCell']) (by decide) (by omega) (by unfold maxLen; omega) (by have := hb.size; simp; omega) ?_; intro v' w' ho' hb')
        go_ret
        refine ⟨_, rfl, ?_, (hb.alloc hb.size _).trans hb'⟩
        have := hpre.out
        rw [numB_lt d hlt] at this
        have e1 : List.map vb l ++ List.map vb (numB 0) = List.map vb (l ++ pre) ++ [.int .u8 (d : Int)] := by rw [← this, ← hvb.out]; simp
        have e2 : m + (numB 0).length = m + pre.length + 1 := by rw [← this, List.length_append, Nat.add_assoc]; rfl
        rw [e1, e2]
        exact ho'
      · have hge := numB_ge d hlt
        rw [hge] at hlen
        simp only [List.length_cons] at hlen
        have hlp : 0 < (numB (d / 128)).length := by
          by_cases h : d / 128 < 128
          · rw [numB_lt _ h]; simp
          · rw [numB_ge _ h]; simp
        have hpl5 : pre.length ≤ 5 := by omega
        have hdiv : (d : Int) / (128 : Int) = ((d / 128 : Nat) : Int) := by omega
        have hor := or_high d
        have hvb := Lib.hid (vb_small (d % 128 + 128) (by omega))
        replace hlen := Lib.hid hlen
        replace hf := Lib.hid hf
        replace hge := Lib.hid hge
        replace hor := Lib.hid hor
        replace hdiv := Lib.hid hdiv
        clear hlp
        go_wp2_with (at_builtin; refine wpList_app_full (s := .tmp 17) (x := .tmp 21) rfl rfl Try.underlying22 elem_u8 (hf.out.alloc _) rfl (Src.slice Try.underlying22 (Sl.new _ _ _ _) (by simp)) rfl (by simp [Value.oneCell']) (by decide) (by omega) (by unfold maxLen; omega) (by have := hb.size; simp; omega) ?_; intro v' w' ho' hb')
        go_roundg (d / 128)
        case measure => omega
        case rel =>
          refine ⟨d / 128, pre ++ [UInt8.ofNat (d % 128 + 128)], rfl, by omega, congrArg (Value.int .i64) hdiv.out, ?_, (hb.alloc hb.size _).trans hb', ?_, by simp; omega⟩
          · refine Full.own ?_
            rw [hor.out] at ho'
            rw [← List.append_assoc, List.map_append, List.map_cons, List.map_nil, hvb.out, List.length_append, List.length_singleton, ← Nat.add_assoc]
            exact ho'
          · have := hpre.out
            rw [hge.out] at this
            rw [← this]
            simp

  · go_enter Try.func32, Try.ntmps32
    go_wp2_with fail
    go_loopg [0, 5] c (fun gk v i wr => ∃ (d : Nat) (pre : List UInt8), d = gk ∧ d ≤ 1099511627776 ∧ i = .int .i64 d ∧ Full wr w.heap.size 5 1 v (m + pre.length) ((l ++ pre).map vb) ∧ Below w.heap.size w wr ∧ pre ++ numB d = numB c ∧ pre.length ≤ 6)
    case atStart => exact ⟨c, [], rfl, hcl, rfl, by simpa using Full.full ha.out (by simp [hm.out]), Below.refl _ _, rfl, by decide⟩
    case round =>
      obtain ⟨d, pre, rfl, hd, rfl, hf, hb, hpre, hpl⟩ := hrel
      have hlen := congrArg List.length hpre
      rw [List.length_append] at hlen
      have hs6 := numB_six c hcl
      replace hpre := Lib.hid hpre
      by_cases hlt : d < 128
      · rw [numB_lt d hlt] at hlen
        simp only [List.length_singleton] at hlen
        replace hlen := Lib.hid hlen
        replace hf := Lib.hid hf
        have hvb := Lib.hid (vb_small d (by omega))
        go_wp2_with (at_builtin; refine wpList_app_full (s := .tmp 25) (x := .tmp 28) rfl rfl Try.underlying22 elem_u8 (hf.out.alloc _) rfl (Src.slice Try.underlying22 (Sl.new _ _ _ _) (by simp)) rfl (by simp [Value.oneCell']) (by decide) (by omega) (by unfold maxLen; omega) (by have := hb.size; simp; omega) ?_; intro v' w' ho' hb')
        go_ret
        refine ⟨_, rfl, ?_, (hb.alloc hb.size _).trans hb'⟩
        have := hpre.out
        rw [numB_lt d hlt] at this
        have e1 : List.map vb l ++ List.map vb (numB c) = List.map vb (l ++ pre) ++ [.int .u8 (d : Int)] := by rw [← this, ← hvb.out]; simp
        have e2 : m + (numB c).length = m + pre.length + 1 := by rw [← this, List.length_append, Nat.add_assoc]; rfl
        rw [e1, e2]
        exact ho'
      · have hge := numB_ge d hlt
        rw [hge] at hlen
        simp only [List.length_cons] at hlen
        have hlp : 0 < (numB (d / 128)).length := by
          by_cases h : d / 128 < 128
          · rw [numB_lt _ h]; simp
          · rw [numB_ge _ h]; simp
        have hpl5 : pre.length ≤ 5 := by omega
        have hdiv : (d : Int) / (128 : Int) = ((d / 128 : Nat) : Int) := by omega
        have hor := or_high d
        have hvb := Lib.hid (vb_small (d % 128 + 128) (by omega))
        replace hlen := Lib.hid hlen
        replace hf := Lib.hid hf
        replace hge := Lib.hid hge
        replace hor := Lib.hid hor
        replace hdiv := Lib.hid hdiv
        clear hlp
        go_wp2_with (at_builtin; refine wpList_app_full (s := .tmp 17) (x := .tmp 21) rfl rfl Try.underlying22 elem_u8 (hf.out.alloc _) rfl (Src.slice Try.underlying22 (Sl.new _ _ _ _) (by simp)) rfl (by simp [Value.oneCell']) (by decide) (by omega) (by unfold maxLen; omega) (by have := hb.size; simp; omega) ?_; intro v' w' ho' hb')
        go_roundg (d / 128)
        case measure => omega
        case rel =>
          refine ⟨d / 128, pre ++ [UInt8.ofNat (d % 128 + 128)], rfl, by omega, congrArg (Value.int .i64) hdiv.out, ?_, (hb.alloc hb.size _).trans hb', ?_, by simp; omega⟩
          · refine Full.own ?_
            rw [hor.out] at ho'
            rw [← List.append_assoc, List.map_append, List.map_cons, List.map_nil, hvb.out, List.length_append, List.length_singleton, ← Nat.add_assoc]
            exact ho'
          · have := hpre.out
            rw [hge.out] at this
            rw [← this]
            simp

  · go_enter Try.func32, Try.ntmps32
    go_wp2_with fail
    go_loopg [0, 5] 1099511627776 (fun gk v i wr => ∃ (d : Nat) (pre : List UInt8), d = gk ∧ d ≤ 1099511627776 ∧ i = .int .i64 d ∧ Full wr w.heap.size 5 1 v (m + pre.length) ((l ++ pre).map vb) ∧ Below w.heap.size w wr ∧ pre ++ numB d = numB 1099511627776 ∧ pre.length ≤ 6)
    case atStart => exact ⟨1099511627776, [], rfl, by decide, rfl, by simpa using Full.full ha.out (by simp [hm.out]), Below.refl _ _, rfl, by decide⟩
    case round =>
      obtain ⟨d, pre, rfl, hd, rfl, hf, hb, hpre, hpl⟩ := hrel
      have hlen := congrArg List.length hpre
      rw [List.length_append] at hlen
      have hs6 := numB_six 1099511627776 (by decide)
      replace hpre := Lib.hid hpre
      by_cases hlt : d < 128
      · rw [numB_lt d hlt] at hlen
        simp only [List.length_singleton] at hlen
        replace hlen := Lib.hid hlen
        replace hf := Lib.hid hf
        have hvb := Lib.hid (vb_small d (by omega))
        go_wp2_with (at_builtin; refine wpList_app_full (s := .tmp 25) (x := .tmp 28) rfl rfl Try.underlying22 elem_u8 (hf.out.alloc _) rfl (Src.slice Try.underlying22 (Sl.new _ _ _ _) (by simp)) rfl (by simp [Value.oneCell']) (by decide) (by omega) (by unfold maxLen; omega) (by have := hb.size; simp; omega) ?_; intro v' w' ho' hb')
        go_ret
        refine ⟨_, rfl, ?_, (hb.alloc hb.size _).trans hb'⟩
        have := hpre.out
        rw [numB_lt d hlt] at this
        have e1 : List.map vb l ++ List.map vb (numB 1099511627776) = List.map vb (l ++ pre) ++ [.int .u8 (d : Int)] := by rw [← this, ← hvb.out]; simp
        have e2 : m + (numB 1099511627776).length = m + pre.length + 1 := by rw [← this, List.length_append, Nat.add_assoc]; rfl
        rw [e1, e2]
        exact ho'
      · have hge := numB_ge d hlt
        rw [hge] at hlen
        simp only [List.length_cons] at hlen
        have hlp : 0 < (numB (d / 128)).length := by
          by_cases h : d / 128 < 128
          · rw [numB_lt _ h]; simp
          · rw [numB_ge _ h]; simp
        have hpl5 : pre.length ≤ 5 := by omega
        have hdiv : (d : Int) / (128 : Int) = ((d / 128 : Nat) : Int) := by omega
        have hor := or_high d
        have hvb := Lib.hid (vb_small (d % 128 + 128) (by omega))
        replace hlen := Lib.hid hlen
        replace hf := Lib.hid hf
        replace hge := Lib.hid hge
        replace hor := Lib.hid hor
        replace hdiv := Lib.hid hdiv
        clear hlp
        go_wp2_with (at_builtin; refine wpList_app_full (s := .tmp 17) (x := .tmp 21) rfl rfl Try.underlying22 elem_u8 (hf.out.alloc _) rfl (Src.slice Try.underlying22 (Sl.new _ _ _ _) (by simp)) rfl (by simp [Value.oneCell']) (by decide) (by omega) (by unfold maxLen; omega) (by have := hb.size; simp; omega) ?_; intro v' w' ho' hb')
        go_roundg (d / 128)
        case measure => omega
        case rel =>
          refine ⟨d / 128, pre ++ [UInt8.ofNat (d % 128 + 128)], rfl, by omega, congrArg (Value.int .i64) hdiv.out, ?_, (hb.alloc hb.size _).trans hb', ?_, by simp; omega⟩
          · refine Full.own ?_
            rw [hor.out] at ho'
            rw [← List.append_assoc, List.map_append, List.map_cons, List.map_nil, hvb.out, List.length_append, List.length_singleton, ← Nat.add_assoc]
            exact ho'
          · have := hpre.out
            rw [hge.out] at this
            rw [← this]
            simp

theorem clamp_nat (n : Nat) (h : n ≤ 1099511627776) : clampN n = n := by unfold clampN maxNum; omega

set_option maxRecDepth 10000 in
theorem str_any (a : Option Addr) (l : List UInt8) (m cap : Nat) (s : ByteArray) (w : World) (hm : m = l.length) (ha : Sl w a (l.map vb)) (hl : m ≤ 1000000) (hcap : m ≤ cap) (hs : s.size ≤ 1000000) :
    Calls Try.prog 34 #[.slice a m cap, .string s] w fun e w' => ∃ v, e = .returned v ∧ w'.ownsRow w.heap.size 5 1 v (m + (numB s.size).length + s.size) ((l ++ numB s.size ++ s.data.toList).map vb) ∧ Below w.heap.size w w' := by
  have h6 := numB_six s.size (by unfold maxNum; omega)
  replace hm := Lib.hid hm
  replace ha := Lib.hid ha
  have hcn := Lib.hid (clamp_nat s.size (by omega))
  go_enter Try.func34, Try.ntmps34
  go_wp2_with fail
  refine (num_any a l m cap _ w hm.out ha.out hl hcap).mono ?_
  rintro e w1 ⟨v1, rfl, ho1, hb1⟩
  rw [hcn.out] at ho1
  go_wp2_with (at_builtin; refine wpList_app (s := .tmp 8) (x := .tmp 9) rfl rfl Try.underlying22 elem_u8 ho1 rfl (Src.string _ Try.underlying9 s) rfl (vb_one _) (by omega) (by unfold maxLen; omega) hb1.size ?_; intro v2 w2 ho2 hB2 hg2 hv2)
  go_ret
  exact ⟨_, rfl, by simpa using ho2, hb1.trans hB2⟩

theorem flag_any (a : Option Addr) (l : List UInt8) (m cap : Nat) (b : Bool) (w : World) (hm : m = l.length) (ha : Sl w a (l.map vb)) (hl : m ≤ 1000000) (hcap : m ≤ cap) :
    Calls Try.prog 36 #[.slice a m cap, .bool b] w fun e w' => ∃ v, e = .returned v ∧ w'.ownsRow w.heap.size 5 1 v (m + 1) ((l ++ [if b then 1 else 0]).map vb) ∧ Below w.heap.size w w' := by
  have e1 : numB (clampN 1) = [1] := by rw [show clampN 1 = 1 from by decide, numB_lt 1 (by decide)]; rfl
  have e0 : numB (clampN 0) = [0] := by rw [show clampN 0 = 0 from by decide, numB_lt 0 (by decide)]; rfl
  replace e1 := Lib.hid e1
  replace e0 := Lib.hid e0
  replace hm := Lib.hid hm
  replace ha := Lib.hid ha
  cases b
  all_goals
    go_enter Try.func36, Try.ntmps36
    go_wp2_with fail
    refine (num_any a l m cap _ w hm.out ha.out hl hcap).mono ?_
    rintro e w1 ⟨v1, rfl, ho1, hb1⟩
    first | rw [e0.out] at ho1 | rw [e1.out] at ho1
    go_wp2
    go_ret
    exact ⟨_, rfl, by simpa using ho1, hb1⟩

set_option maxRecDepth 10000 in
theorem rnum_any (n : Int) (w : World) (hn : -9223372036854775808 ≤ n ∧ n ≤ 9223372036854775807) :
    Calls Try.prog 33 #[.int .i64 n] w fun e w' => e = .returned (.string (str (numB (clampN n)))) ∧ Below w.heap.size w w' := by
  obtain ⟨hn0, hn1⟩ := hn
  obtain ⟨c, hc⟩ : ∃ c, c = clampN n := ⟨_, rfl⟩
  have hcl : c ≤ 1099511627776 := by rw [hc]; exact clampN_le n
  rw [← hc]
  have hcc := clamp_cases n
  rw [← hc] at hcc
  clear hc
  rcases hcc with ⟨h0, rfl⟩ | ⟨h0, h1, rfl⟩ | ⟨h1, rfl⟩
  · go_enter Try.func33, Try.ntmps33
    go_wp2_with fail
    go_loopg [3, 4] 0 (fun gk i v wr => ∃ (d : Nat) (pre : List UInt8), d = gk ∧ d ≤ 1099511627776 ∧ i = .int .i64 d ∧ v = .string (str pre) ∧ Below w.heap.size w wr ∧ pre ++ numB d = numB 0 ∧ pre.length ≤ 6)
    case atStart => exact ⟨0, [], rfl, (by decide), rfl, rfl, Below.refl _ _, rfl, by decide⟩
    case round =>
      obtain ⟨d, pre, rfl, hd, rfl, rfl, hb, hpre, hpl⟩ := hrel
      have hlen := congrArg List.length hpre
      rw [List.length_append] at hlen
      have hs6 := numB_six 0 (by decide)
      replace hpre := Lib.hid hpre
      by_cases hlt : d < 128
      · rw [numB_lt d hlt] at hlen
        simp only [List.length_singleton] at hlen
        replace hlen := Lib.hid hlen
        have hvb := vb_small d (by omega)
        have hsl : Sl (wr.alloc (.cells #[.int .u8 (d : Int)] 5)) (some ⟨wr.heap.size, 0, none⟩) ([UInt8.ofNat d].map vb) := by
          rw [List.map_singleton, hvb]; exact Sl.new wr #[.int .u8 (d : Int)] _ _
        have hsz : pre.length + 1 ≤ 9223372036854775807 := by omega
        replace hsl := Lib.hid hsl
        replace hvb := Lib.hid hvb
        go_wp2_with (with_reducible refine wpList_bts (src := 22) (dst := 9) (x := .tmp 23) (l := [UInt8.ofNat d]) rfl rfl Try.underlying22 Try.underlying5 Try.underlying9 rfl hsl.out rfl ?_)
        go_ret
        refine ⟨ret_val ?_, hb.alloc hb.size _⟩
        show Value.string (str pre ++ str [UInt8.ofNat d]) = _
        rw [str_append, str_data, ← hpre.out, numB_lt d hlt]
      · have hge := numB_ge d hlt
        rw [hge] at hlen
        simp only [List.length_cons] at hlen
        have hlp : 0 < (numB (d / 128)).length := by
          by_cases h : d / 128 < 128
          · rw [numB_lt _ h]; simp
          · rw [numB_ge _ h]; simp
        have hpl5 : pre.length ≤ 5 := by omega
        have hdiv : (d : Int) / (128 : Int) = ((d / 128 : Nat) : Int) := by omega
        have hvb := vb_small (d % 128 + 128) (by omega)
        have hmod : ((d % 128 + 128 : Nat) : Int) = (d : Int) % 128 + 128 := by omega
        have hsl : Sl (wr.alloc (.cells #[.int .u8 ((d : Int) % 128 + 128)] 5)) (some ⟨wr.heap.size, 0, none⟩) ([UInt8.ofNat (d % 128 + 128)].map vb) := by
          rw [List.map_singleton, hvb, hmod]; exact Sl.new wr #[.int .u8 ((d : Int) % 128 + 128)] _ _
        have hsz : pre.length + 1 ≤ 9223372036854775807 := by omega
        have hm0 : 0 ≤ (d : Int) % 128 := by omega
        have hm1 : (d : Int) % 128 < 128 := by omega
        replace hsl := Lib.hid hsl
        replace hvb := Lib.hid hvb
        replace hmod := Lib.hid hmod
        replace hlen := Lib.hid hlen
        replace hge := Lib.hid hge
        replace hdiv := Lib.hid hdiv
        clear hlp
        go_wp2_with (with_reducible refine wpList_bts (src := 22) (dst := 9) (x := .tmp 15) (l := [UInt8.ofNat (d % 128 + 128)]) rfl rfl Try.underlying22 Try.underlying5 Try.underlying9 rfl hsl.out rfl ?_)
        go_roundg (d / 128)
        case measure => omega
        case rel =>
          refine ⟨d / 128, pre ++ [UInt8.ofNat (d % 128 + 128)], rfl, by omega, congrArg (Value.int .i64) hdiv.out, ?_, hb.alloc hb.size _, ?_, by simp; omega⟩
          · rw [str_append, str_data, UInt8.ofNat_add (d % 128) 128]; rfl
          · have := hpre.out
            rw [hge.out] at this
            rw [← this]
            simp

  · go_enter Try.func33, Try.ntmps33
    go_wp2_with fail
    go_loopg [3, 4] c (fun gk i v wr => ∃ (d : Nat) (pre : List UInt8), d = gk ∧ d ≤ 1099511627776 ∧ i = .int .i64 d ∧ v = .string (str pre) ∧ Below w.heap.size w wr ∧ pre ++ numB d = numB c ∧ pre.length ≤ 6)
    case atStart => exact ⟨c, [], rfl, hcl, rfl, rfl, Below.refl _ _, rfl, by decide⟩
    case round =>
      obtain ⟨d, pre, rfl, hd, rfl, rfl, hb, hpre, hpl⟩ := hrel
      have hlen := congrArg List.length hpre
      rw [List.length_append] at hlen
      have hs6 := numB_six c hcl
      replace hpre := Lib.hid hpre
      by_cases hlt : d < 128
      · rw [numB_lt d hlt] at hlen
        simp only [List.length_singleton] at hlen
        replace hlen := Lib.hid hlen
        have hvb := vb_small d (by omega)
        have hsl : Sl (wr.alloc (.cells #[.int .u8 (d : Int)] 5)) (some ⟨wr.heap.size, 0, none⟩) ([UInt8.ofNat d].map vb) := by
          rw [List.map_singleton, hvb]; exact Sl.new wr #[.int .u8 (d : Int)] _ _
        have hsz : pre.length + 1 ≤ 9223372036854775807 := by omega
        replace hsl := Lib.hid hsl
        replace hvb := Lib.hid hvb
        go_wp2_with (with_reducible refine wpList_bts (src := 22) (dst := 9) (x := .tmp 23) (l := [UInt8.ofNat d]) rfl rfl Try.underlying22 Try.underlying5 Try.underlying9 rfl hsl.out rfl ?_)
        go_ret
        refine ⟨ret_val ?_, hb.alloc hb.size _⟩
        show Value.string (str pre ++ str [UInt8.ofNat d]) = _
        rw [str_append, str_data, ← hpre.out, numB_lt d hlt]
      · have hge := numB_ge d hlt
        rw [hge] at hlen
        simp only [List.length_cons] at hlen
        have hlp : 0 < (numB (d / 128)).length := by
          by_cases h : d / 128 < 128
          · rw [numB_lt _ h]; simp
          · rw [numB_ge _ h]; simp
        have hpl5 : pre.length ≤ 5 := by omega
        have hdiv : (d : Int) / (128 : Int) = ((d / 128 : Nat) : Int) := by omega
        have hvb := vb_small (d % 128 + 128) (by omega)
        have hmod : ((d % 128 + 128 : Nat) : Int) = (d : Int) % 128 + 128 := by omega
        have hsl : Sl (wr.alloc (.cells #[.int .u8 ((d : Int) % 128 + 128)] 5)) (some ⟨wr.heap.size, 0, none⟩) ([UInt8.ofNat (d % 128 + 128)].map vb) := by
          rw [List.map_singleton, hvb, hmod]; exact Sl.new wr #[.int .u8 ((d : Int) % 128 + 128)] _ _
        have hsz : pre.length + 1 ≤ 9223372036854775807 := by omega
        have hm0 : 0 ≤ (d : Int) % 128 := by omega
        have hm1 : (d : Int) % 128 < 128 := by omega
        replace hsl := Lib.hid hsl
        replace hvb := Lib.hid hvb
        replace hmod := Lib.hid hmod
        replace hlen := Lib.hid hlen
        replace hge := Lib.hid hge
        replace hdiv := Lib.hid hdiv
        clear hlp
        go_wp2_with (with_reducible refine wpList_bts (src := 22) (dst := 9) (x := .tmp 15) (l := [UInt8.ofNat (d % 128 + 128)]) rfl rfl Try.underlying22 Try.underlying5 Try.underlying9 rfl hsl.out rfl ?_)
        go_roundg (d / 128)
        case measure => omega
        case rel =>
          refine ⟨d / 128, pre ++ [UInt8.ofNat (d % 128 + 128)], rfl, by omega, congrArg (Value.int .i64) hdiv.out, ?_, hb.alloc hb.size _, ?_, by simp; omega⟩
          · rw [str_append, str_data, UInt8.ofNat_add (d % 128) 128]; rfl
          · have := hpre.out
            rw [hge.out] at this
            rw [← this]
            simp

  · go_enter Try.func33, Try.ntmps33
    go_wp2_with fail
    go_loopg [3, 4] 1099511627776 (fun gk i v wr => ∃ (d : Nat) (pre : List UInt8), d = gk ∧ d ≤ 1099511627776 ∧ i = .int .i64 d ∧ v = .string (str pre) ∧ Below w.heap.size w wr ∧ pre ++ numB d = numB 1099511627776 ∧ pre.length ≤ 6)
    case atStart => exact ⟨1099511627776, [], rfl, (by decide), rfl, rfl, Below.refl _ _, rfl, by decide⟩
    case round =>
      obtain ⟨d, pre, rfl, hd, rfl, rfl, hb, hpre, hpl⟩ := hrel
      have hlen := congrArg List.length hpre
      rw [List.length_append] at hlen
      have hs6 := numB_six 1099511627776 (by decide)
      replace hpre := Lib.hid hpre
      by_cases hlt : d < 128
      · rw [numB_lt d hlt] at hlen
        simp only [List.length_singleton] at hlen
        replace hlen := Lib.hid hlen
        have hvb := vb_small d (by omega)
        have hsl : Sl (wr.alloc (.cells #[.int .u8 (d : Int)] 5)) (some ⟨wr.heap.size, 0, none⟩) ([UInt8.ofNat d].map vb) := by
          rw [List.map_singleton, hvb]; exact Sl.new wr #[.int .u8 (d : Int)] _ _
        have hsz : pre.length + 1 ≤ 9223372036854775807 := by omega
        replace hsl := Lib.hid hsl
        replace hvb := Lib.hid hvb
        go_wp2_with (with_reducible refine wpList_bts (src := 22) (dst := 9) (x := .tmp 23) (l := [UInt8.ofNat d]) rfl rfl Try.underlying22 Try.underlying5 Try.underlying9 rfl hsl.out rfl ?_)
        go_ret
        refine ⟨ret_val ?_, hb.alloc hb.size _⟩
        show Value.string (str pre ++ str [UInt8.ofNat d]) = _
        rw [str_append, str_data, ← hpre.out, numB_lt d hlt]
      · have hge := numB_ge d hlt
        rw [hge] at hlen
        simp only [List.length_cons] at hlen
        have hlp : 0 < (numB (d / 128)).length := by
          by_cases h : d / 128 < 128
          · rw [numB_lt _ h]; simp
          · rw [numB_ge _ h]; simp
        have hpl5 : pre.length ≤ 5 := by omega
        have hdiv : (d : Int) / (128 : Int) = ((d / 128 : Nat) : Int) := by omega
        have hvb := vb_small (d % 128 + 128) (by omega)
        have hmod : ((d % 128 + 128 : Nat) : Int) = (d : Int) % 128 + 128 := by omega
        have hsl : Sl (wr.alloc (.cells #[.int .u8 ((d : Int) % 128 + 128)] 5)) (some ⟨wr.heap.size, 0, none⟩) ([UInt8.ofNat (d % 128 + 128)].map vb) := by
          rw [List.map_singleton, hvb, hmod]; exact Sl.new wr #[.int .u8 ((d : Int) % 128 + 128)] _ _
        have hsz : pre.length + 1 ≤ 9223372036854775807 := by omega
        have hm0 : 0 ≤ (d : Int) % 128 := by omega
        have hm1 : (d : Int) % 128 < 128 := by omega
        replace hsl := Lib.hid hsl
        replace hvb := Lib.hid hvb
        replace hmod := Lib.hid hmod
        replace hlen := Lib.hid hlen
        replace hge := Lib.hid hge
        replace hdiv := Lib.hid hdiv
        clear hlp
        go_wp2_with (with_reducible refine wpList_bts (src := 22) (dst := 9) (x := .tmp 15) (l := [UInt8.ofNat (d % 128 + 128)]) rfl rfl Try.underlying22 Try.underlying5 Try.underlying9 rfl hsl.out rfl ?_)
        go_roundg (d / 128)
        case measure => omega
        case rel =>
          refine ⟨d / 128, pre ++ [UInt8.ofNat (d % 128 + 128)], rfl, by omega, congrArg (Value.int .i64) hdiv.out, ?_, hb.alloc hb.size _, ?_, by simp; omega⟩
          · rw [str_append, str_data, UInt8.ofNat_add (d % 128) 128]; rfl
          · have := hpre.out
            rw [hge.out] at this
            rw [← this]
            simp

theorem rstr_any (s : ByteArray) (w : World) (hs : s.size ≤ 1000000) :
    Calls Try.prog 35 #[.string s] w fun e w' => e = .returned (.string (str (numB s.size ++ s.data.toList))) ∧ Below w.heap.size w w' := by
  have hcn := Lib.hid (clamp_nat s.size (by omega))
  have h6 := numB_six s.size (by unfold maxNum; omega)
  have hsz : (numB s.size).length + s.size ≤ 9223372036854775807 := by omega
  go_enter Try.func35, Try.ntmps35
  go_wp2_with fail
  refine (rnum_any _ w (by omega)).mono ?_
  rintro e w1 ⟨rfl, hb1⟩
  rw [hcn.out]
  go_wp2
  go_ret
  refine ⟨ret_val ?_, hb1⟩
  show Value.string (str (numB s.size) ++ s) = _
  conv => lhs; rw [← str_of s]
  rw [str_append, str_data]
  rfl

theorem rflag_any (b : Bool) (w : World) :
    Calls Try.prog 37 #[.bool b] w fun e w' => e = .returned (.string (str [if b then 1 else 0])) ∧ Below w.heap.size w w' := by
  have e1 : numB (clampN 1) = [1] := by rw [show clampN 1 = 1 from by decide, numB_lt 1 (by decide)]; rfl
  have e0 : numB (clampN 0) = [0] := by rw [show clampN 0 = 0 from by decide, numB_lt 0 (by decide)]; rfl
  replace e1 := Lib.hid e1
  replace e0 := Lib.hid e0
  cases b
  all_goals
    go_enter Try.func37, Try.ntmps37
    go_wp2_with fail
    refine (rnum_any _ w (by decide)).mono ?_
    rintro e w1 ⟨rfl, hb1⟩
    first | rw [e0.out] | rw [e1.out]
    go_wp2
    go_ret
    exact ⟨rfl, hb1⟩

end Go.Proofs.Ytcpkmgmdhjhfaaa
