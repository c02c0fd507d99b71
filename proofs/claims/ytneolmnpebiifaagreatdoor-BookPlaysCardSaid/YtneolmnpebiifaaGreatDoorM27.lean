/- Texts laid together: Shelf3 Tab Shelf4. -/
import Derived.Test.YtneolmnpebiifaaGreatDoorM13
import Derived.Test.YtneolmnpebiifaaGreatDoorM15
import Derived.Test.YtneolmnpebiifaaGreatDoorM16
import Derived.Test.YtneolmnpebiifaaGreatDoorM18
import Derived.Test.YtneolmnpebiifaaGreatDoorM22
import Derived.Test.YtneolmnpebiifaaGreatDoorM26
import Derived.Test.YtneolmnpebiifaaGreatDoorM3
import Derived.Test.YtneolmnpebiifaaGreatDoorM4
import Derived.Test.YtneolmnpebiifaaGreatDoorM5
section
/- The shelf: Trim. -/
set_option linter.unusedSimpArgs false
set_option linter.unusedVariables false
namespace Go.Ofp
def keepD (q : Int) (l : List Dd) : List Dd := l.filter fun d => decide (q < d.seq)
theorem keepD_next (l : List Dd) (q : Int) (k : Nat) (hk : k < l.length) : keepD q (l.take (k + 1)) = keepD q (l.take k) ++ if q < l[k].seq then [l[k]] else [] := by
  unfold keepD
  rw [List.take_succ_eq_append_getElem hk, List.filter_append]
  congr 1
  by_cases h : q < l[k].seq <;> simp [h]
/-- What stands there while the test goes on: the first i are kept, from k on nothing was touched. -/
structure KeptD (l xs : List Dd) (q : Int) (i k : Nat) : Prop where
  len : xs.length = l.length
  le : i < k
  cnt : i = (keepD q (l.take k)).length
  fst : xs.take i = keepD q (l.take k)
  rest : xs.drop k = l.drop k
theorem KeptD.at {l xs : List Dd} {q : Int} {i k : Nat} (h : KeptD l xs q i k) (hk : k < l.length) : ∃ hx : k < xs.length, xs[k] = l[k] := by
  have hx : k < xs.length := by rw [h.len]; exact hk
  refine ⟨hx, ?_⟩
  have := congrArg (fun q => q[0]?) h.rest
  simpa [List.getElem?_eq_getElem hx, List.getElem?_eq_getElem hk] using this
theorem KeptD.skip {l xs : List Dd} {q : Int} {i k : Nat} (h : KeptD l xs q i k) (hk : k < l.length) (he : ¬ q < l[k].seq) : KeptD l xs q i (k + 1) := by
  have := keepD_next l q k hk
  rw [if_neg he, List.append_nil] at this
  refine ⟨h.len, by have := h.le; omega, by rw [this]; exact h.cnt, by rw [this]; exact h.fst, ?_⟩
  rw [← List.drop_drop, ← List.drop_drop, h.rest]
theorem KeptD.take {l xs : List Dd} {q : Int} {i k : Nat} (h : KeptD l xs q i k) (hk : k < l.length) (he : q < l[k].seq) : KeptD l (xs.take i ++ l[k] :: xs.drop (i + 1)) q (i + 1) (k + 1) := by
  have h1 := keepD_next l q k hk
  rw [if_pos he] at h1
  have hlen := h.len
  have hle := h.le
  have hti : (xs.take i).length = i := by rw [List.length_take]; omega
  refine ⟨by simp; omega, by omega, by rw [h1, List.length_append, ← h.cnt]; rfl, ?_, ?_⟩
  · rw [h1, ← h.fst, List.take_append, hti, Nat.add_sub_cancel_left, List.take_of_length_le (by rw [hti]; omega)]
    rfl
  · have hr : xs.drop (k + 1) = l.drop (k + 1) := by rw [← List.drop_drop, ← List.drop_drop, h.rest]
    rw [← hr, List.drop_append, hti, List.drop_eq_nil_of_le (by rw [hti]; omega), List.nil_append]
    rw [show k + 1 - i = (k - i) + 1 by omega, List.drop_succ_cons, List.drop_drop]
    congr 1
    omega
theorem KeptD.first {l : List Dd} {q : Int} {k : Nat} (hk : k < l.length) (he : ¬ q < l[k].seq) (hr : ∀ d ∈ l.take k, q < d.seq) : KeptD l l q k (k + 1) := by
  have h1 := keepD_next l q k hk
  rw [if_neg he, List.append_nil] at h1
  have h2 : keepD q (l.take k) = l.take k := List.filter_eq_self.2 fun d hd => by simpa using hr d hd
  exact ⟨rfl, by omega, by rw [h1, h2, List.length_take]; omega, by rw [h1, h2], rfl⟩
/-- What the first one that goes is told by. -/
def FirstD (l : List Dd) (q r : Int) : Prop := (r = -1 ∧ ∀ d ∈ l, q < d.seq) ∨ (∃ k, ∃ h : k < l.length, r = k ∧ ¬ q < l[k].seq ∧ ∀ d ∈ l.take k, q < d.seq)
end Go.Ofp
namespace Go.Proofs.YtneolmnpebiifaaGreatDoor
open Go.RowKit Go.Ofp
set_option linter.unusedVariables false
set_option maxRecDepth 100000
set_option maxHeartbeats 4000000
/-- Trim's test. -/
theorem strim1_any (d : Dd) (B : Nat) (q : Int) (w : World) (hb : Boxed w B 3 (.int .i64 q)) :
    Calls Tryz.prog 97 #[.agg (ddRow d).toArray, .pointer (some ⟨B, 0, none⟩)] w fun e w' => e = .returned (.bool (decide (d.seq ≤ q))) ∧ Below w.heap.size w w' := by
  have hS := St.start w
  have hc := hb.cell
  obtain ⟨di, dv, dq⟩ := d
  simp only [ddRow]
  go_enter Tryz.func97, Tryz.ntmps97
  go_wp2_with (first
    | (with_reducible refine wpList_box_st (L := []) hS rfl rfl rfl ?_; intro g w1 hS1; clear hS; have hS := hS1; clear hS1; have hc2 := hS.old hc (by simp); clear hc)
    | ((with_reducible refine wpList_load_st 0 hS rfl rfl rfl rfl ?_ rfl ?_); focus (simp [scalarB, go_sem]; done)))
  go_ret
  exact ⟨rfl, hS.below⟩
theorem idxt_any (l : List Dd) (a : Option Addr) (n cap : Nat) (q : Int) (B : Nat) (hn : l.length = n) (hn1 : n ≤ 1000) (w : World) (hs : Sl w a (dRow l)) (hb : Boxed w B 3 (.int .i64 q)) :
    Calls Tryz.prog 138 #[.slice a n cap, .func (.func 97) #[] #[.pointer (some ⟨B, 0, none⟩)]] w fun e w' => (∃ r : Int, e = .returned (.int .i64 r) ∧ FirstD l q r) ∧ Below w.heap.size w w' := by
  have hS := St.start w
  have cD := Lib.hid (fun (d : Dd) (W : World) (h : Boxed W B 3 (.int .i64 q)) => strim1_any d B q W h)
  have lt := (Array.getElem?_eq_some_iff.1 hb).1
  replace hb := Lib.hid hb
  replace hs := Lib.hid hs
  replace hn := Lib.hid hn
  go_enter Tryz.func138, Tryz.ntmps138
  go_wp2_with fail
  go_loopg [8] n (fun gk vx wr => ∃ k : Nat, k + gk = n ∧ vx = .int .i64 k ∧ Hid (∀ d ∈ l.take k, q < d.seq) ∧ St w [] [] wr)
  case atStart => exact ⟨0, Nat.zero_add _, rfl, Lib.hid (by simp), hS⟩
  case round =>
    clear hS
    obtain ⟨k, hkn, rfl, hr, hS⟩ := hrel
    by_cases hlt : k < n
    · have hkl : k < l.length := by rw [hn.out]; exact hlt
      have q1 := dRow_at l k hkl
      have q8 := ddRow_len l[k]
      obtain ⟨g2, o2, ha⟩ := Sl.cells hs.out (by intro e; have := congrArg List.length e; rw [dRow_len l] at this; simp at this; omega)
      subst ha
      have hrg := sl_range (hS.sl hs.out) q1
      have hbr : Boxed wr B 3 (.int .i64 q) := (hS.below.block B lt).trans hb.out
      have cX := cD.out l[k] wr hbr
      by_cases he : q < l[k].seq
      · rw [decide_eq_false (by omega)] at cX
        have hnx : ∀ d ∈ l.take (k + 1), q < d.seq := by
          intro d hd
          rw [List.take_succ_eq_append_getElem hkl, List.mem_append] at hd
          rcases hd with hd | hd
          · exact hr.out d hd
          · simp at hd; subst hd; exact he
        replace hnx := Lib.hid hnx
        replace cX := Lib.hid cX
        generalize ddRow l[k] = RW at *
        clear he
        go_wp2_with (first
          | (go_at_call 97; (with_reducible refine cX.out.mono ?_); rintro _ w9 ⟨rfl, hk9⟩; have hS1 := hS.keepB hk9; clear hk9 hS; have hS := hS1; clear hS1)
          | ((with_reducible refine wpList_rangerow (t := 91) (n := 3) hrg rfl rfl rfl (by kernel_rfl) (by kernel_rfl) q8 ?_)))
        go_roundg (n - (k + 1))
        case measure => omega
        case rel => exact ⟨k + 1, by omega, by go_num, hnx, hS⟩
      · rw [decide_eq_true (by omega)] at cX
        replace he := Lib.hid he
        replace cX := Lib.hid cX
        generalize ddRow l[k] = RW at *
        go_wp2_with (first
          | (go_at_call 97; (with_reducible refine cX.out.mono ?_); rintro _ w9 ⟨rfl, hk9⟩; have hS1 := hS.keepB hk9; clear hk9 hS; have hS := hS1; clear hS1)
          | ((with_reducible refine wpList_rangerow (t := 91) (n := 3) hrg rfl rfl rfl (by kernel_rfl) (by kernel_rfl) q8 ?_)))
        go_ret
        exact ⟨⟨k, rfl, .inr ⟨k, hkl, rfl, by have := he.out; omega, hr.out⟩⟩, hS.below⟩
    · obtain rfl : k = n := by omega
      have hr2 := hr.out
      rw [List.take_of_length_le (by rw [hn.out]; exact Nat.le_refl _)] at hr2
      replace hr2 := Lib.hid hr2
      clear hr
      go_wp2_with fail
      go_ret
      exact ⟨⟨-1, rfl, .inl ⟨rfl, hr2.out⟩⟩, hS.below⟩
theorem dRow_take (l : List Dd) (k : Nat) (hk : k ≤ l.length) : (dRow l).take (k * 3) = dRow (l.take k) := by
  have h1 : dRow l = dRow (l.take k) ++ dRow (l.drop k) := by rw [dRow, dRow, dRow, ← List.flatten_append, ← List.map_append, List.take_append_drop]
  have h2 : (dRow (l.take k)).length = k * 3 := by rw [dRow_len, List.length_take, Nat.min_eq_left hk]
  rw [h1, List.take_append_of_le_length (by rw [h2]; exact Nat.le_refl _), List.take_of_length_le (by rw [h2]; exact Nat.le_refl _)]
theorem dRow_drop (l : List Dd) (k : Nat) (hk : k ≤ l.length) : (dRow l).drop (k * 3) = dRow (l.drop k) := by
  have h1 : dRow l = dRow (l.take k) ++ dRow (l.drop k) := by rw [dRow, dRow, dRow, ← List.flatten_append, ← List.map_append, List.take_append_drop]
  have h2 : (dRow (l.take k)).length = k * 3 := by rw [dRow_len, List.length_take, Nat.min_eq_left hk]
  rw [h1, List.drop_append_of_le_length (by rw [h2]; exact Nat.le_refl _), List.drop_eq_nil_of_le (by rw [h2]; exact Nat.le_refl _), List.nil_append]
theorem dRow_put (l : List Dd) (k : Nat) (hk : k < l.length) (x : Dd) : (dRow l).take (k * 3) ++ ddRow x ++ (dRow l).drop (k * 3 + 3) = dRow (l.take k ++ x :: l.drop (k + 1)) := by
  rw [dRow_take l k (by omega), show k * 3 + 3 = (k + 1) * 3 by omega, dRow_drop l (k + 1) (by omega)]
  simp [dRow]
theorem ddRow_one (x : Dd) : (ddRow x).all Value.oneCell' = true := rfl

/-- DeleteFunc, where nothing goes. -/
theorem ddel_none (l : List Dd) (a : Option Addr) (n c : Nat) (q : Int) (B : Nat) (hn : l.length = n) (hn1 : n ≤ 1000) (w : World) (hs : Sl w a (dRow l)) (hb : Boxed w B 3 (.int .i64 q)) (hk : ∀ d ∈ l, q < d.seq) :
    Calls Tryz.prog 96 #[.slice a n c, .func (.func 97) #[] #[.pointer (some ⟨B, 0, none⟩)]] w fun e w' => e = .returned (.slice a n c) ∧ Below w.heap.size w w' := by
  have hS := St.start w
  have cI : Calls Tryz.prog 138 #[.slice a n c, .func (.func 97) #[] #[.pointer (some ⟨B, 0, none⟩)]] w (fun e w' => e = .returned (.int .i64 (-1)) ∧ Below w.heap.size w w') := by
    refine (idxt_any l a n c q B hn hn1 w hs hb).mono ?_
    rintro e w' ⟨⟨r, rfl, hr⟩, hbel⟩
    refine ⟨?_, hbel⟩
    rcases hr with ⟨rfl, -⟩ | ⟨k, hkl, -, hr, -⟩
    · rfl
    · exact absurd (hk _ (List.getElem_mem hkl)) hr
  replace cI := Lib.hid cI
  clear hs hb hk
  go_enter Tryz.func96, Tryz.ntmps96
  go_wp2_with (go_at_call 138; (with_reducible refine cI.out.mono ?_); rintro _ w9 ⟨rfl, hk9⟩; have hS1 := hS.keepB hk9; clear hk9 hS; have hS := hS1; clear hS1)
  go_ret
  exact ⟨rfl, hS.below⟩
/-- DeleteFunc, where one goes. -/
theorem ddel_some (l : List Dd) (g n c : Nat) (q : Int) (B : Nat) (hn : l.length = n) (hn1 : n ≤ 1000) (w : World) (hb : Boxed w B 3 (.int .i64 q)) (hBg : B ≠ g) (h : St w [g] [Ch.row 91 3 (.slice (some ⟨g, 0, none⟩) n c) n (dRow l)] w) (k0 : Nat) (hk0 : k0 < l.length) (hk1 : ¬ q < l[k0].seq) (hk2 : ∀ d ∈ l.take k0, q < d.seq) :
    Calls Tryz.prog 96 #[.slice (some ⟨g, 0, none⟩) n c, .func (.func 97) #[] #[.pointer (some ⟨B, 0, none⟩)]] w fun e w' => e = .returned (.slice (some ⟨g, 0, none⟩) (keepD q l).length c) ∧ St w [g] [Ch.row 91 3 (.slice (some ⟨g, 0, none⟩) (keepD q l).length c) (keepD q l).length (dRow (keepD q l))] w' := by
  have hS := h
  have lt := (Array.getElem?_eq_some_iff.1 hb).1
  have ew := elem_dd
  have cD := Lib.hid (fun (d : Dd) (W : World) (h : Boxed W B 3 (.int .i64 q)) => strim1_any d B q W h)
  have cI : Calls Tryz.prog 138 #[.slice (some ⟨g, 0, none⟩) n c, .func (.func 97) #[] #[.pointer (some ⟨B, 0, none⟩)]] w (fun e w' => e = .returned (.int .i64 k0) ∧ Below w.heap.size w w') := by
    refine (idxt_any l (some ⟨g, 0, none⟩) n c q B hn hn1 w (hS.rowsl 0 rfl) hb).mono ?_
    rintro e w' ⟨⟨r, rfl, hr⟩, hbel⟩
    refine ⟨?_, hbel⟩
    rcases hr with ⟨-, hr⟩ | ⟨k, hk, rfl, h3, h4⟩
    · exact absurd (hr _ (List.getElem_mem hk0)) hk1
    · have : k = k0 := by
        rcases Nat.lt_trichotomy k k0 with h5 | h5 | h5
        · exact absurd (hk2 l[k] (by rw [List.mem_take_iff_getElem]; exact ⟨k, by omega, rfl⟩)) h3
        · exact h5
        · exact absurd (h4 l[k0] (by rw [List.mem_take_iff_getElem]; exact ⟨k0, by omega, rfl⟩)) hk1
      rw [this]
  replace cI := Lib.hid cI
  have hK0 := Lib.hid (KeptD.first hk0 hk1 hk2)
  obtain ⟨_, _, e9, -, -, hnc, hcm⟩ := hS.row 0 rfl
  cases e9
  have hn0' : k0 < n := by omega
  replace hb := Lib.hid hb
  replace hn := Lib.hid hn
  clear h hk1 hk2
  go_enter Tryz.func96, Tryz.ntmps96
  go_wp2_with (go_at_call 138; (with_reducible refine cI.out.mono ?_); rintro _ w9 ⟨rfl, hk9⟩; have hS1 := hS.keepB hk9; clear hk9 hS; have hS := hS1; clear hS1)
  go_loopg [5, 6] (n - (k0 + 1)) (fun gk vi vk wr => ∃ (i k : Nat) (xs : List Dd), k + gk = n ∧ vi = .int .i64 i ∧ vk = .int .i64 k ∧ Hid (KeptD l xs q i k) ∧ k ≤ n ∧ St w [g] [Ch.row 91 3 (.slice (some ⟨g, 0, none⟩) n c) n (dRow xs)] wr)
  case atStart => exact ⟨k0, k0 + 1, l, by omega, rfl, by go_num, hK0, by omega, hS⟩
  case round =>
    clear hS cI
    obtain ⟨i, k, xs, hkn, rfl, rfl, hK, hkn2, hS⟩ := hrel
    have hik := hK.out.le
    have hxl : xs.length = n := hK.out.len.trans hn.out
    replace hxl := Lib.hid hxl
    by_cases hlt : k < n
    · have hkl : k < l.length := by rw [hn.out]; exact hlt
      obtain ⟨hkx, hxk⟩ := hK.out.at hkl
      have q1 := dRow_at xs k hkx
      rw [hxk] at q1
      have q8 := ddRow_len l[k]
      have q9 := ddRow_one l[k]
      have hput := dRow_put xs i (by rw [hxl.out]; omega) l[k]
      have cX := fun (W : World) (h : W.heap[B]? = w.heap[B]?) => cD.out l[k] W (h.trans hb.out)
      have hps : sizeB Tryz.prog 91 (ddRow l[k]).toArray.size = true := by rw [List.size_toArray, q8]; kernel_rfl
      have hFB : B ∉ [g] := by simpa using hBg
      by_cases he : q < l[k].seq
      · have hK2 := Lib.hid (hK.out.take hkl he)
        have hdd : decide (l[k].seq ≤ q) = false := decide_eq_false (by omega)
        rw [hdd] at cX
        replace cX := Lib.hid cX
        generalize l[k] = lk at *
        replace hput := Lib.hid hput
        generalize ddRow lk = RW at *
        clear he hK hdd
        go_wp2_with (first
          | (go_at_call 97; (with_reducible refine (cX.out _ (hS.fr.block B lt hFB)).mono ?_); rintro _ w9 ⟨rfl, hk9⟩; have hS1 := hS.keepB hk9; clear hk9 hS; have hS := hS1; clear hS1) | ((with_reducible refine wpList_loadelem_st 0 k hS rfl rfl rfl rfl rfl (by kernel_rfl) (by kernel_rfl) q1 q8 ?_)) | (with_reducible refine wpList_alloc_st (L := [_]) hS rfl rfl ew ?_; intro gp w1 hS1; clear hS; have hS := hS1; clear hS1) | ((with_reducible refine wpList_storerow_st (n := 3) (vs := RW) 0 hS rfl rfl rfl rfl (by kernel_rfl) rfl q8 q9 (by kernel_rfl) ?_); intro w1 hS1; clear hS; have hS := hS1; clear hS1; simp only [List.set_cons_zero, List.take_zero, List.nil_append, List.drop_succ_cons, List.drop_zero, List.drop_nil, List.append_nil] at hS) | ((with_reducible refine wpList_loadall_st 0 hS rfl rfl rfl rfl ?_ hps ?_); focus (simp [rowB, go_sem]; done))
          | ((with_reducible refine wpList_storeelem_st 1 i hS rfl rfl rfl rfl rfl (by kernel_rfl) rfl q8 q9 (by omega) ?_); intro w1 hS1; clear hS; have hS := hS1; clear hS1; simp only [List.set_cons_zero, List.set_cons_succ] at hS)
          | ((with_reducible refine wpList_storeelem_st 0 i hS rfl rfl rfl rfl rfl (by kernel_rfl) rfl q8 q9 (by omega) ?_); intro w1 hS1; clear hS; have hS := hS1; clear hS1; simp only [List.set_cons_zero, List.set_cons_succ] at hS))
        go_roundg (n - (k + 1))
        case measure => omega
        case rel => exact ⟨i + 1, k + 1, _, by omega, by go_num, by go_num, hK2, by omega, by rw [hput.out] at hS; first | exact hS.drop | exact hS⟩
      · have hK2 := Lib.hid (hK.out.skip hkl he)
        have hdd : decide (l[k].seq ≤ q) = true := decide_eq_true (by omega)
        rw [hdd] at cX
        replace cX := Lib.hid cX
        generalize ddRow l[k] = RW at *
        clear hput he hK hdd
        go_wp2_with (first | (go_at_call 97; (with_reducible refine (cX.out _ (hS.fr.block B lt hFB)).mono ?_); rintro _ w9 ⟨rfl, hk9⟩; have hS1 := hS.keepB hk9; clear hk9 hS; have hS := hS1; clear hS1) | ((with_reducible refine wpList_loadelem_st 0 k hS rfl rfl rfl rfl rfl (by kernel_rfl) (by kernel_rfl) q1 q8 ?_)) | (with_reducible refine wpList_alloc_st (L := [_]) hS rfl rfl ew ?_; intro gp w1 hS1; clear hS; have hS := hS1; clear hS1) | ((with_reducible refine wpList_storerow_st (n := 3) (vs := RW) 0 hS rfl rfl rfl rfl (by kernel_rfl) rfl q8 q9 (by kernel_rfl) ?_); intro w1 hS1; clear hS; have hS := hS1; clear hS1; simp only [List.set_cons_zero, List.take_zero, List.nil_append, List.drop_succ_cons, List.drop_zero, List.drop_nil, List.append_nil] at hS) | ((with_reducible refine wpList_loadall_st 0 hS rfl rfl rfl rfl ?_ hps ?_); focus (simp [rowB, go_sem]; done)))
        go_roundg (n - (k + 1))
        case measure => omega
        case rel => exact ⟨i, k + 1, xs, by omega, rfl, by go_num, hK2, by omega, by first | exact hS.drop | exact hS⟩
    · obtain rfl : k = n := by omega
      have hcnt := hK.out.cnt
      have hfst := hK.out.fst
      have htk : l.take k = l := List.take_of_length_le (by rw [hn.out]; exact Nat.le_refl _)
      rw [htk] at hcnt hfst
      clear htk hK
      obtain ⟨cur, z1, z2, -, -, hS2⟩ := hS.rowblk
      clear hS
      have hS := hS2
      clear hS2
      have hz1 : ∀ u ∈ (Value.agg #[.int .i64 0, .int .i64 0, .int .i64 0]).cells, u.oneCell' = true := by
        intro u hu
        simp only [Value.cells] at hu
        have key : ([.int .i64 0, .int .i64 0, .int .i64 0] : List Value).all Value.oneCell' = true := by rfl
        exact List.all_eq_true.1 key u (by simpa using hu)
      have hcs : i * 3 + (k - i) * 3 ≤ cur.size := by
        rw [z1]
        have : k * 3 ≤ c * 3 := Nat.mul_le_mul_right _ hnc
        omega
      replace hz1 := Lib.hid hz1
      replace hcs := Lib.hid hcs
      replace z1 := Lib.hid z1
      replace z2 := Lib.hid z2
      replace hcnt := Lib.hid hcnt
      replace hfst := Lib.hid hfst
      go_wp2_with ((with_reducible refine wpList_clearblk_st 0 (off := i * 3) (n := k - i) hS rfl rfl rfl Tryz.underlying28 ew hz1.out rfl hcs.out (by omega) ?_); intro w1 cs' y1 y2 hS1; clear hS; have hS := hS1; clear hS1; simp only [List.set_cons_zero] at hS)
      go_ret
      rw [← hcnt.out]
      refine ⟨rfl, ?_⟩
      have hq := dRow_take xs i (by rw [hxl.out]; omega)
      rw [hfst.out] at hq
      refine hS.blkrow2 3 (y1.trans z1.out) (by omega) hcm ?_
      rw [y2, ← hq, ← z2.out, List.take_take, Nat.min_eq_left (by omega)]
end Go.Proofs.YtneolmnpebiifaaGreatDoor
end

section
/- The table that the bits' walk reads. -/
set_option linter.unusedSimpArgs false
set_option linter.unusedVariables false
namespace Go.Proofs.YtneolmnpebiifaaGreatDoor
open Go.RowKit Go.Ofp
structure Tab (w : World) : Prop where
  lt : 0 < w.heap.size
  sl : Sl w (some ⟨0, 0, none⟩) (tzTab.map vb)
theorem Tab.fr {F : List Nat} {w W : World} (h : Tab w) (k : Fr F w W) (hF : 0 ∉ F) : Tab W :=
  ⟨Nat.lt_of_lt_of_le h.lt k.size, fun q hq => by
    obtain ⟨b, off, e, hc⟩ := h.sl q hq
    cases e
    refine ⟨_, _, rfl, ?_⟩
    rw [World.cell?_of_block (k.block _ h.lt hF)]
    exact hc⟩
theorem Tab.below {w W : World} (h : Tab w) (k : Below w.heap.size w W) : Tab W := h.fr (Fr.of_below k) (by simp)
end Go.Proofs.YtneolmnpebiifaaGreatDoor
end

section
/- The shelf: Add. -/
set_option linter.unusedSimpArgs false
set_option linter.unusedVariables false
namespace Go.Ofp
theorem St.re6 {w0 w : World} {F : List Nat} {a b c d e f : Ch} (h : St w0 F [a, b, c, d, e, f] w) : St w0 F [a, d, e, f, b, c] w := by
  refine h.pick (fun i => if i = 0 then 0 else if i = 1 then 3 else if i = 2 then 4 else if i = 3 then 5 else if i = 4 then 1 else 2) ?_ ?_
  · intro i x hx
    match i with
    | 0 => exact hx
    | 1 => exact hx
    | 2 => exact hx
    | 3 => exact hx
    | 4 => exact hx
    | 5 => exact hx
    | i + 6 => simp at hx
  · intro i j hi hj hij
    simp only [List.length_cons, List.length_nil] at hi hj
    split <;> split <;> (repeat' split) <;> omega
theorem St.take3 {w0 w : World} {F : List Nat} {a b c : Ch} {L : List Ch} (h : St w0 F (a :: b :: c :: L) w) : St w0 F [a, b, c] w := h.fore3
end Go.Ofp
namespace Go.Proofs.YtneolmnpebiifaaGreatDoor
open Go.RowKit Go.Ofp
set_option linter.unusedVariables false
set_option maxRecDepth 100000
set_option maxHeartbeats 4000000
theorem sgV_zero (e : Int) : sgV (Cd.none 0, e) = .tuple #[.agg #[.int .i64 0, .int .i64 0, .int .u32 0, .int .i64 0, .int .i64 0, .string ⟨#[]⟩, .int .i64 0, .int .i64 0, .string ⟨#[]⟩, .int .i64 0, .int .i64 0, .string ⟨#[]⟩, .int .i64 0, .int .i64 0, .string ⟨#[]⟩, .int .i64 0, .int .i64 0, .string ⟨#[]⟩, .int .i64 0, .int .i64 0, .string ⟨#[]⟩, .int .i64 0, .int .i64 0, .string ⟨#[]⟩, .int .i64 0, .int .i64 0, .string ⟨#[]⟩], .int .i64 e] := rfl
theorem id_wf {s : ShS} (h : ShOk s) : ∀ c ∈ s.m, (Lit.int .i64 c.id).wf = true := fun c hc => wf_of_i64 (by have := h.id c hc; have := h.next; omega)
theorem sadd_any (g gm : Nat) (s : ShS) (da : Option Addr) (dc : Nat) (p : Pt) (hp : PtIn p) (w : World) (hA : St w (feet (shA g gm s da dc)) (shA g gm s da dc) w) (hok : ShOk s) (htab : Tab w) (hT : 0 ∉ feet (shA g gm s da dc)) :
    Calls Tryz.prog 70 #[.pointer (some ⟨g, 0, none⟩), .agg (ptRow p).toArray] w fun e w' => e = .returned (sgV (s.add p).2) ∧ St w (feet (shA g gm s da dc)) (shA g gm (s.add p).1 da dc) w' := by
  have hS := hA
  have ec := elem_card
  have cC := fun W => cp_any p hp.len hp.mask hp.lab W
  have cF := fun W (h : Tab W) => fr_any s.next p hp.mask hp.len W h.lt h.sl
  have hpl := ptRow_len p hp.len
  have hris := hok.ris
  have hwf := id_wf hok
  have hnx := hok.next
  have hml := hok.len
  have hidl := fun c hc => (hok.id c hc).2
  have hsz : sizeB Tryz.prog 42 (ptRow p).toArray.size = true := by rw [List.size_toArray, hpl]; kernel_rfl
  have hfl := cdRow_lenT (p.fresh s.next) (fresh_f p s.next)
  have hfo := cdRow_oneT (p.fresh s.next)
  obtain ⟨FT, hFT⟩ : ∃ FT, cdRow (p.fresh s.next) = .int .i64 s.next :: FT := ⟨_, rfl⟩
  have hadd : s.add p = if p.check ≠ 0 then (s, Cd.none 0, p.check) else if 48 ≤ s.m.length ∨ 1073741824 ≤ s.next then (s, Cd.none 0, 8) else (⟨s.next + 1, s.m ++ [p.fresh s.next], s.dead⟩, p.fresh s.next, 0) := rfl
  have hV : sgV (p.fresh s.next, 0) = .tuple #[.agg (cdRow (p.fresh s.next)).toArray, .int .i64 0] := rfl
  have hcm := cdM_snoc (row := cdRow) (m := s.m) (c := p.fresh s.next) (fun d hd => by rw [fresh_id]; have := hidl d hd; omega)
  rw [fresh_id] at hcm
  rw [hadd]
  rw [hFT] at cF hfl hfo hV hcm
  replace cF := Lib.hid cF
  replace hcm := Lib.hid hcm
  replace hV := Lib.hid hV
  replace hris := Lib.hid hris
  replace hwf := Lib.hid hwf
  replace hT := Lib.hid hT
  replace htab := Lib.hid htab
  clear hadd hA hok hidl hFT hp
  generalize feet (shA g gm s da dc) = F at *
  obtain ⟨nx, M, D⟩ := s
  dsimp only at *
  have e0 : ∀ nx M, shA g gm ⟨nx, M, D⟩ da dc = [Ch.blk g 101 #[.int .i64 nx, .map (some gm), .slice da D.length dc], Ch.map Tryz.prog 3 gm M.length (cdM cdRow M), Ch.row 91 3 (.slice da D.length dc) D.length (dRow D)] := fun _ _ => rfl
  rw [e0] at hS
  generalize hfr : p.fresh nx = fr at *
  generalize dRow D = DR at *
  replace hfr := Lib.hid hfr
  have hwn : IntKind.i64.wrap (nx + 1) = nx + 1 := IntWalk.i64_in _ (by omega)
  generalize ptRow p = RP at *
  by_cases hck : p.check = 0
  case neg =>
    rw [if_pos hck]
    have b1 : (p.check != 0) = true := by simpa using hck
    clear hck
    generalize p.check = ck at *
    replace cC := Lib.hid cC
    go_enter Tryz.func70, Tryz.ntmps70
    go_wp2_with (first | (go_at_call 69; (with_reducible refine (cC.out _).mono ?_); rintro _ w3 ⟨rfl, hk9⟩; have hS1 := hS.keepB hk9; clear hk9 hS; have hS := hS1; clear hS1; have c0 : World.cell? _ ⟨g, 0, none⟩ = some (.int .i64 nx) := hS.cell 2 rfl 0) | (with_reducible refine wpList_box_st hS rfl rfl rfl ?_; intro gp w1 hS1; clear hS; have hS := hS1; clear hS1) | ((with_reducible refine wpList_loadall_st 1 hS rfl rfl rfl rfl ?_ hsz ?_); focus (simp [rowB, go_sem]; done)) | (with_reducible refine wpList_maplen_st (t := 99) (k := 3) 3 hS rfl rfl rfl rfl Tryz.underlying3 Tryz.underlying99 hris.out hwf.out ?_) | (with_reducible refine wpList_box_st hS rfl rfl rfl ?_; clear hS; intro g1 w1 hS) | (with_reducible refine wpList_box1_st hS rfl rfl rfl ?_; clear hS; intro g1 w1 hS) | (with_reducible refine al hS rfl rfl ?_; clear hS; intro g1 w1 hS) | (with_reducible refine wpList_alloc1_st hS rfl rfl (by assumption) rfl ?_; clear hS; intro g1 w1 hS) | (with_reducible refine ld 0 hS rfl rfl rfl rfl rfl ?_) | (with_reducible refine lda 0 hS rfl rfl rfl rfl ?_) | (with_reducible refine sto 0 hS rfl rfl rfl rfl rfl rfl ?_; clear hS; intro w1 hS) | (with_reducible refine stor 0 hS rfl rfl rfl rfl rfl rfl rfl rfl ?_; clear hS; intro w1 hS) | (with_reducible refine ld 1 hS rfl rfl rfl rfl rfl ?_) | (with_reducible refine lda 1 hS rfl rfl rfl rfl ?_) | (with_reducible refine sto 1 hS rfl rfl rfl rfl rfl rfl ?_; clear hS; intro w1 hS) | (with_reducible refine stor 1 hS rfl rfl rfl rfl rfl rfl rfl rfl ?_; clear hS; intro w1 hS) | (with_reducible refine ld 2 hS rfl rfl rfl rfl rfl ?_) | (with_reducible refine lda 2 hS rfl rfl rfl rfl ?_) | (with_reducible refine sto 2 hS rfl rfl rfl rfl rfl rfl ?_; clear hS; intro w1 hS) | (with_reducible refine stor 2 hS rfl rfl rfl rfl rfl rfl rfl rfl ?_; clear hS; intro w1 hS))
    rw [sgV_zero]
    exact bodyPost_ret (v := .tuple #[.agg #[.int .i64 0, .int .i64 0, .int .u32 0, .int .i64 0, .int .i64 0, .string ⟨#[]⟩, .int .i64 0, .int .i64 0, .string ⟨#[]⟩, .int .i64 0, .int .i64 0, .string ⟨#[]⟩, .int .i64 0, .int .i64 0, .string ⟨#[]⟩, .int .i64 0, .int .i64 0, .string ⟨#[]⟩, .int .i64 0, .int .i64 0, .string ⟨#[]⟩, .int .i64 0, .int .i64 0, .string ⟨#[]⟩, .int .i64 0, .int .i64 0, .string ⟨#[]⟩], .int .i64 ck]) (results_blk_tmp Tryz.results70 rfl hS 0 rfl (by kernel_rfl) (by kernel_rfl) rfl) rfl ⟨rfl, by rw [e0]; exact hS.drop.drop⟩
  rw [if_neg (by simp [hck])]
  rw [hck] at cC
  replace cC := Lib.hid cC
  by_cases h48 : 48 ≤ M.length
  · rw [if_pos (.inl h48)]
    have d48 : decide ((48 : Int) ≤ (M.length : Int)) = true := decide_eq_true (by omega)
    have d48b : decide (48 ≤ M.length) = true := decide_eq_true h48
    clear h48 hck
    go_enter Tryz.func70, Tryz.ntmps70
    go_wp2_with (first | (go_at_call 69; (with_reducible refine (cC.out _).mono ?_); rintro _ w3 ⟨rfl, hk9⟩; have hS1 := hS.keepB hk9; clear hk9 hS; have hS := hS1; clear hS1; have c0 : World.cell? _ ⟨g, 0, none⟩ = some (.int .i64 nx) := hS.cell 2 rfl 0) | (with_reducible refine wpList_box_st hS rfl rfl rfl ?_; intro gp w1 hS1; clear hS; have hS := hS1; clear hS1) | ((with_reducible refine wpList_loadall_st 1 hS rfl rfl rfl rfl ?_ hsz ?_); focus (simp [rowB, go_sem]; done)) | (with_reducible refine wpList_maplen_st (t := 99) (k := 3) 3 hS rfl rfl rfl rfl Tryz.underlying3 Tryz.underlying99 hris.out hwf.out ?_) | (with_reducible refine wpList_box_st hS rfl rfl rfl ?_; clear hS; intro g1 w1 hS) | (with_reducible refine wpList_box1_st hS rfl rfl rfl ?_; clear hS; intro g1 w1 hS) | (with_reducible refine al hS rfl rfl ?_; clear hS; intro g1 w1 hS) | (with_reducible refine wpList_alloc1_st hS rfl rfl (by assumption) rfl ?_; clear hS; intro g1 w1 hS) | (with_reducible refine ld 0 hS rfl rfl rfl rfl rfl ?_) | (with_reducible refine lda 0 hS rfl rfl rfl rfl ?_) | (with_reducible refine sto 0 hS rfl rfl rfl rfl rfl rfl ?_; clear hS; intro w1 hS) | (with_reducible refine stor 0 hS rfl rfl rfl rfl rfl rfl rfl rfl ?_; clear hS; intro w1 hS) | (with_reducible refine ld 1 hS rfl rfl rfl rfl rfl ?_) | (with_reducible refine lda 1 hS rfl rfl rfl rfl ?_) | (with_reducible refine sto 1 hS rfl rfl rfl rfl rfl rfl ?_; clear hS; intro w1 hS) | (with_reducible refine stor 1 hS rfl rfl rfl rfl rfl rfl rfl rfl ?_; clear hS; intro w1 hS) | (with_reducible refine ld 2 hS rfl rfl rfl rfl rfl ?_) | (with_reducible refine lda 2 hS rfl rfl rfl rfl ?_) | (with_reducible refine sto 2 hS rfl rfl rfl rfl rfl rfl ?_; clear hS; intro w1 hS) | (with_reducible refine stor 2 hS rfl rfl rfl rfl rfl rfl rfl rfl ?_; clear hS; intro w1 hS))
    rw [sgV_zero]
    exact bodyPost_ret (v := .tuple #[.agg #[.int .i64 0, .int .i64 0, .int .u32 0, .int .i64 0, .int .i64 0, .string ⟨#[]⟩, .int .i64 0, .int .i64 0, .string ⟨#[]⟩, .int .i64 0, .int .i64 0, .string ⟨#[]⟩, .int .i64 0, .int .i64 0, .string ⟨#[]⟩, .int .i64 0, .int .i64 0, .string ⟨#[]⟩, .int .i64 0, .int .i64 0, .string ⟨#[]⟩, .int .i64 0, .int .i64 0, .string ⟨#[]⟩, .int .i64 0, .int .i64 0, .string ⟨#[]⟩], .int .i64 8]) (results_blk_tmp Tryz.results70 rfl hS 0 rfl (by kernel_rfl) (by kernel_rfl) rfl) rfl ⟨rfl, by rw [e0]; exact hS.drop.drop⟩
  have d48 : decide ((48 : Int) ≤ (M.length : Int)) = false := decide_eq_false (by omega)
  have d48b : decide (48 ≤ M.length) = false := decide_eq_false h48
  by_cases hid : 1073741824 ≤ nx
  · rw [if_pos (.inr hid)]
    have dnx : decide (1073741824 ≤ nx) = true := decide_eq_true hid
    clear h48 hck hid
    go_enter Tryz.func70, Tryz.ntmps70
    go_wp2_with (first | (go_at_call 69; (with_reducible refine (cC.out _).mono ?_); rintro _ w3 ⟨rfl, hk9⟩; have hS1 := hS.keepB hk9; clear hk9 hS; have hS := hS1; clear hS1; have c0 : World.cell? _ ⟨g, 0, none⟩ = some (.int .i64 nx) := hS.cell 2 rfl 0) | (with_reducible refine wpList_box_st hS rfl rfl rfl ?_; intro gp w1 hS1; clear hS; have hS := hS1; clear hS1) | ((with_reducible refine wpList_loadall_st 1 hS rfl rfl rfl rfl ?_ hsz ?_); focus (simp [rowB, go_sem]; done)) | (with_reducible refine wpList_maplen_st (t := 99) (k := 3) 3 hS rfl rfl rfl rfl Tryz.underlying3 Tryz.underlying99 hris.out hwf.out ?_) | (with_reducible refine wpList_box_st hS rfl rfl rfl ?_; clear hS; intro g1 w1 hS) | (with_reducible refine wpList_box1_st hS rfl rfl rfl ?_; clear hS; intro g1 w1 hS) | (with_reducible refine al hS rfl rfl ?_; clear hS; intro g1 w1 hS) | (with_reducible refine wpList_alloc1_st hS rfl rfl (by assumption) rfl ?_; clear hS; intro g1 w1 hS) | (with_reducible refine ld 0 hS rfl rfl rfl rfl rfl ?_) | (with_reducible refine lda 0 hS rfl rfl rfl rfl ?_) | (with_reducible refine sto 0 hS rfl rfl rfl rfl rfl rfl ?_; clear hS; intro w1 hS) | (with_reducible refine stor 0 hS rfl rfl rfl rfl rfl rfl rfl rfl ?_; clear hS; intro w1 hS) | (with_reducible refine ld 1 hS rfl rfl rfl rfl rfl ?_) | (with_reducible refine lda 1 hS rfl rfl rfl rfl ?_) | (with_reducible refine sto 1 hS rfl rfl rfl rfl rfl rfl ?_; clear hS; intro w1 hS) | (with_reducible refine stor 1 hS rfl rfl rfl rfl rfl rfl rfl rfl ?_; clear hS; intro w1 hS) | (with_reducible refine ld 2 hS rfl rfl rfl rfl rfl ?_) | (with_reducible refine lda 2 hS rfl rfl rfl rfl ?_) | (with_reducible refine sto 2 hS rfl rfl rfl rfl rfl rfl ?_; clear hS; intro w1 hS) | (with_reducible refine stor 2 hS rfl rfl rfl rfl rfl rfl rfl rfl ?_; clear hS; intro w1 hS))
    rw [sgV_zero]
    exact bodyPost_ret (v := .tuple #[.agg #[.int .i64 0, .int .i64 0, .int .u32 0, .int .i64 0, .int .i64 0, .string ⟨#[]⟩, .int .i64 0, .int .i64 0, .string ⟨#[]⟩, .int .i64 0, .int .i64 0, .string ⟨#[]⟩, .int .i64 0, .int .i64 0, .string ⟨#[]⟩, .int .i64 0, .int .i64 0, .string ⟨#[]⟩, .int .i64 0, .int .i64 0, .string ⟨#[]⟩, .int .i64 0, .int .i64 0, .string ⟨#[]⟩, .int .i64 0, .int .i64 0, .string ⟨#[]⟩], .int .i64 8]) (results_blk_tmp Tryz.results70 rfl hS 0 rfl (by kernel_rfl) (by kernel_rfl) rfl) rfl ⟨rfl, by rw [e0]; exact hS.drop.drop⟩
  have dnx : decide (1073741824 ≤ nx) = false := decide_eq_false hid
  rw [if_neg (by omega)]
  have hwk : (Lit.int .i64 nx).wf = true := wf_of_i64 (by omega)
  have hmx : M.length < maxLen := by unfold maxLen; omega
  have hrp : (RP.toArray.toList.drop 0).take 26 = RP := by simp [← hpl]
  have hrd : ((Value.int .i64 nx :: FT).toArray.toList.drop 0).take 27 = Value.int .i64 nx :: FT := by simp [← hfl]
  have hsf : sizeB Tryz.prog 58 (Value.int .i64 nx :: FT).toArray.size = true := by rw [List.size_toArray, hfl]; kernel_rfl
  clear h48 hid hck
  go_enter Tryz.func70, Tryz.ntmps70
  go_wp2_with (first | (go_at_call 69; (with_reducible refine (cC.out _).mono ?_); rintro _ w3 ⟨rfl, hk9⟩; have hS1 := hS.keepB hk9; clear hk9 hS; have hS := hS1; clear hS1; have c0 : World.cell? _ ⟨g, 0, none⟩ = some (.int .i64 nx) := hS.cell 2 rfl 0) | (with_reducible refine wpList_box_st hS rfl rfl rfl ?_; intro gp w1 hS1; clear hS; have hS := hS1; clear hS1) | ((with_reducible refine wpList_loadall_st 1 hS rfl rfl rfl rfl ?_ hsz ?_); focus (simp [rowB, go_sem]; done)) | (with_reducible refine wpList_maplen_st (t := 99) (k := 3) 3 hS rfl rfl rfl rfl Tryz.underlying3 Tryz.underlying99 hris.out hwf.out ?_) | (with_reducible refine wpList_box_st hS rfl rfl rfl ?_; clear hS; intro g1 w1 hS) | (with_reducible refine wpList_box1_st hS rfl rfl rfl ?_; clear hS; intro g1 w1 hS) | (with_reducible refine al hS rfl rfl ?_; clear hS; intro g1 w1 hS) | (with_reducible refine wpList_alloc1_st hS rfl rfl (by assumption) rfl ?_; clear hS; intro g1 w1 hS) | (with_reducible refine ld 0 hS rfl rfl rfl rfl rfl ?_) | (with_reducible refine lda 0 hS rfl rfl rfl rfl ?_) | (with_reducible refine sto 0 hS rfl rfl rfl rfl rfl rfl ?_; clear hS; intro w1 hS) | (with_reducible refine stor 0 hS rfl rfl rfl rfl rfl rfl rfl rfl ?_; clear hS; intro w1 hS) | (with_reducible refine ld 1 hS rfl rfl rfl rfl rfl ?_) | (with_reducible refine lda 1 hS rfl rfl rfl rfl ?_) | (with_reducible refine sto 1 hS rfl rfl rfl rfl rfl rfl ?_; clear hS; intro w1 hS) | (with_reducible refine stor 1 hS rfl rfl rfl rfl rfl rfl rfl rfl ?_; clear hS; intro w1 hS) | (with_reducible refine ld 2 hS rfl rfl rfl rfl rfl ?_) | (with_reducible refine lda 2 hS rfl rfl rfl rfl ?_) | (with_reducible refine sto 2 hS rfl rfl rfl rfl rfl rfl ?_; clear hS; intro w1 hS) | (with_reducible refine stor 2 hS rfl rfl rfl rfl rfl rfl rfl rfl ?_; clear hS; intro w1 hS))
  clear c0
  revert hS
  apply wp_cut1
  · intro hS
    have kg := hS.kblk 2 rfl
    have kp := hS.krow (P := Tryz.prog) (j := 0) 1 rfl (t := 42) (by kernel_rfl) (n := 26) (by kernel_rfl) hrp hpl
    refine mixs_begin (by kernel_rfl) hS ?_
    clear hS
    intro w2 hS
    refine tk 0 ?_
    refine tk 1 ?_
    refine tk 2 ?_
    refine tk 3 ?_
    refine tkr 4 kp ?_
    refine mixs_two 5 6 (by kernel_rfl) rfl rfl (fun K hK => ?_) (fun K hK => ?_)
    ·
      go_simp
      ( first | (go_at_call 114; (with_reducible refine (cF.out _ (htab.out.fr hS.fr hT.out)).mono ?_); rintro _ w3 ⟨rfl, hk9⟩; have hS1 := hS.keepB hk9; clear hk9 hS; have hS := hS1; clear hS1) | (refine op_storerow_st (vs := Value.int .i64 nx :: FT) (n := 27) (by kernel_rfl) 0 hS rfl rfl rfl (by kernel_rfl) rfl hfl hfo rfl ?_; intro w1 hS1; clear hS; have hS := hS1; clear hS1; try simp only [List.set_cons_zero, List.set_cons_succ, List.setIfInBounds_toArray, List.take_succ_cons, List.take_zero, List.drop_succ_cons, List.drop_zero, List.nil_append, List.cons_append, List.append_nil, List.drop_nil, List.take_nil, List.length_cons, List.length_nil, Nat.zero_add, Nat.add_zero, Nat.reduceAdd] at hS) )
      try clear hC
      refine cl hK (fun hC => ?_)
      clear hK K
      refine mixs_one 6 (by kernel_rfl) rfl (fun K hK => ?_)
      refine op_alloc_st (by kernel_rfl) rfl (by assumption) hS ?_
      intro g1 w1 hS1; clear hS; have hS := hS1; clear hS1
      try clear hC
      refine cl hK (fun hC => ?_)
      clear hK K
      refine mixs_one 7 (by kernel_rfl) rfl (fun K hK => ?_)
      ( first | (go_at_call 114; (with_reducible refine (cF.out _ (htab.out.fr hS.fr hT.out)).mono ?_); rintro _ w3 ⟨rfl, hk9⟩; have hS1 := hS.keepB hk9; clear hk9 hS; have hS := hS1; clear hS1) | (refine op_storerow_st (vs := Value.int .i64 nx :: FT) (n := 27) (by kernel_rfl) 0 hS rfl rfl rfl (by kernel_rfl) rfl hfl hfo rfl ?_; intro w1 hS1; clear hS; have hS := hS1; clear hS1; try simp only [List.set_cons_zero, List.set_cons_succ, List.setIfInBounds_toArray, List.take_succ_cons, List.take_zero, List.drop_succ_cons, List.drop_zero, List.nil_append, List.cons_append, List.append_nil, List.drop_nil, List.take_nil, List.length_cons, List.length_nil, Nat.zero_add, Nat.add_zero, Nat.reduceAdd] at hS) )
      try clear hC
      refine cl hK (fun hC => ?_)
      clear hK K
      refine wpAnyH_done (by kernel_rfl) ?_ _
      exact ⟨g1, rfl, hS⟩
    ·
      refine op_alloc_st (by kernel_rfl) rfl (by assumption) hS ?_
      intro g1 w1 hS1; clear hS; have hS := hS1; clear hS1
      try clear hC
      refine cl hK (fun hC => ?_)
      clear hK K
      refine mixs_one 5 (by kernel_rfl) rfl (fun K hK => ?_)
      go_simp
      ( first | (go_at_call 114; (with_reducible refine (cF.out _ (htab.out.fr hS.fr hT.out)).mono ?_); rintro _ w3 ⟨rfl, hk9⟩; have hS1 := hS.keepB hk9; clear hk9 hS; have hS := hS1; clear hS1) | (refine op_storerow_st (vs := Value.int .i64 nx :: FT) (n := 27) (by kernel_rfl) 0 hS rfl rfl rfl (by kernel_rfl) rfl hfl hfo rfl ?_; intro w1 hS1; clear hS; have hS := hS1; clear hS1; try simp only [List.set_cons_zero, List.set_cons_succ, List.setIfInBounds_toArray, List.take_succ_cons, List.take_zero, List.drop_succ_cons, List.drop_zero, List.nil_append, List.cons_append, List.append_nil, List.drop_nil, List.take_nil, List.length_cons, List.length_nil, Nat.zero_add, Nat.add_zero, Nat.reduceAdd] at hS) )
      try clear hC
      refine cl hK (fun hC => ?_)
      clear hK K
      refine mixs_one 7 (by kernel_rfl) rfl (fun K hK => ?_)
      ( first | (go_at_call 114; (with_reducible refine (cF.out _ (htab.out.fr hS.fr hT.out)).mono ?_); rintro _ w3 ⟨rfl, hk9⟩; have hS1 := hS.keepB hk9; clear hk9 hS; have hS := hS1; clear hS1) | (refine op_storerow_st (vs := Value.int .i64 nx :: FT) (n := 27) (by kernel_rfl) 0 hS rfl rfl rfl (by kernel_rfl) rfl hfl hfo rfl ?_; intro w1 hS1; clear hS; have hS := hS1; clear hS1; try simp only [List.set_cons_zero, List.set_cons_succ, List.setIfInBounds_toArray, List.take_succ_cons, List.take_zero, List.drop_succ_cons, List.drop_zero, List.nil_append, List.cons_append, List.append_nil, List.drop_nil, List.take_nil, List.length_cons, List.length_nil, Nat.zero_add, Nat.add_zero, Nat.reduceAdd] at hS) )
      try clear hC
      refine cl hK (fun hC => ?_)
      clear hK K
      refine wpAnyH_done (by kernel_rfl) ?_ _
      exact ⟨g1, rfl, hS⟩
  intro g7 w7 hS
  go_wp2_with fail
  have hS1 := hS.re6
  clear hS
  have hS := hS1
  clear hS1
  refine mixs_beginC2 (by kernel_rfl) hS ?_
  clear hS
  intro w2 hS hC
  have kc := hC.kblk 0 rfl
  have kg := hC.kblk 1 rfl
  have kr := hC.krow (P := Tryz.prog) (j := 0) 0 rfl (t := 58) (by kernel_rfl) (n := 27) (by kernel_rfl) hrd hfl
  refine tk 0 ?_
  refine tk 1 ?_
  refine tk 2 ?_
  refine tk 3 ?_
  refine tk 4 ?_
  refine tk 5 ?_
  refine tkr 6 kr ?_
  refine mixs_one 7 (by kernel_rfl) rfl (fun K hK => ?_)
  ( first | (refine op_mapput_st (k := 3) (by kernel_rfl) 2 hS rfl rfl rfl rfl rfl Tryz.underlying3 Tryz.underlying99 hmx hwk ?_; intro w1 hS1; clear hS; have hS := hS1; clear hS1; try simp only [List.set_cons_zero, List.set_cons_succ, List.setIfInBounds_toArray, List.take_succ_cons, List.take_zero, List.drop_succ_cons, List.drop_zero, List.nil_append, List.cons_append, List.append_nil, List.drop_nil, List.take_nil, List.length_cons, List.length_nil, Nat.zero_add, Nat.add_zero, Nat.reduceAdd] at hS) )
  try clear hC
  refine cl hK (fun hC => ?_)
  clear hK K
  refine wpAnyH_done (by kernel_rfl) ?_ _
  clear kg kc kr
  try clear hC
  go_wp2_with (first
    | ((with_reducible refine wpList_loadrow_st (t := 58) (n := 27) (j := 0) (vs := Value.int .i64 nx :: FT) 0 hS rfl rfl rfl rfl (by kernel_rfl) (by kernel_rfl) hrd hfl ?_))
    | ((with_reducible refine wpList_storerow_st (t := 58) (n := 27) (vs := Value.int .i64 nx :: FT) 4 hS rfl rfl rfl rfl (by kernel_rfl) rfl hfl hfo (by kernel_rfl) ?_); intro w1 hS1; clear hS; have hS := hS1; clear hS1; try simp only [List.set_cons_zero, List.set_cons_succ, List.setIfInBounds_toArray, List.take_succ_cons, List.take_zero, List.drop_succ_cons, List.drop_zero, List.nil_append, List.cons_append, List.append_nil, List.drop_nil, List.take_nil, List.length_cons, List.length_nil, Nat.zero_add, Nat.add_zero, Nat.reduceAdd] at hS)
    | (with_reducible refine wpList_box_st hS rfl rfl rfl ?_; clear hS; intro g1 w1 hS) | (with_reducible refine wpList_box1_st hS rfl rfl rfl ?_; clear hS; intro g1 w1 hS) | (with_reducible refine al hS rfl rfl ?_; clear hS; intro g1 w1 hS) | (with_reducible refine wpList_alloc1_st hS rfl rfl (by assumption) rfl ?_; clear hS; intro g1 w1 hS) | (with_reducible refine ld 0 hS rfl rfl rfl rfl rfl ?_) | (with_reducible refine lda 0 hS rfl rfl rfl rfl ?_) | (with_reducible refine sto 0 hS rfl rfl rfl rfl rfl rfl ?_; clear hS; intro w1 hS) | (with_reducible refine stor 0 hS rfl rfl rfl rfl rfl rfl rfl rfl ?_; clear hS; intro w1 hS) | (with_reducible refine ld 1 hS rfl rfl rfl rfl rfl ?_) | (with_reducible refine lda 1 hS rfl rfl rfl rfl ?_) | (with_reducible refine sto 1 hS rfl rfl rfl rfl rfl rfl ?_; clear hS; intro w1 hS) | (with_reducible refine stor 1 hS rfl rfl rfl rfl rfl rfl rfl rfl ?_; clear hS; intro w1 hS))
  rw [hV.out]
  refine bodyPost_ret (v := .tuple #[.agg (Value.int .i64 nx :: FT).toArray, .int .i64 0]) (results_blk_tmp Tryz.results70 rfl hS 4 rfl (by kernel_rfl) hsf rfl) rfl ⟨rfl, ?_⟩
  have h9 := hS.drop.take3
  rw [e0, hcm.out, List.length_append]
  exact h9
end Go.Proofs.YtneolmnpebiifaaGreatDoor
end
