/- Sectors and writes as rows; the walk of Read. -/
import Derived.Test.YtlhpibniecfofaaDisk5
import Derived.Test.YtlhpibniecfofaaOpen2
set_option linter.unusedSimpArgs false
set_option linter.unusedVariables false
namespace Go.Ofp
theorem flat_len2 {α : Type} (k : Nat) (R : List (List α)) (h : ∀ r ∈ R, r.length = k) : R.flatten.length = R.length * k := by
  induction R with
  | nil => simp
  | cons r R ih => rw [List.flatten_cons, List.length_append, ih (fun x hx => h x (by simp [hx])), h r (by simp), List.length_cons, Nat.add_mul]; omega
theorem flat_take {α : Type} (k : Nat) (R : List (List α)) (h : ∀ r ∈ R, r.length = k) (j : Nat) : R.flatten.take (j * k) = (R.take j).flatten := by
  induction R generalizing j with
  | nil => simp
  | cons r R ih =>
    cases j with
    | zero => simp
    | succ j =>
      have hr := h r (by simp)
      rw [List.flatten_cons, List.take_succ_cons, List.flatten_cons, ← ih (fun x hx => h x (by simp [hx])), List.take_append, List.take_of_length_le (by rw [hr, Nat.add_mul]; omega), hr, show (j + 1) * k - k = j * k by rw [Nat.add_mul]; omega]
theorem flat_drop {α : Type} (k : Nat) (R : List (List α)) (h : ∀ r ∈ R, r.length = k) (j : Nat) : R.flatten.drop (j * k) = (R.drop j).flatten := by
  induction R generalizing j with
  | nil => simp
  | cons r R ih =>
    cases j with
    | zero => simp
    | succ j =>
      have hr := h r (by simp)
      rw [List.flatten_cons, List.drop_succ_cons, ← ih (fun x hx => h x (by simp [hx])), List.drop_append, List.drop_of_length_le (by rw [hr, Nat.add_mul]; omega), List.nil_append, hr, show (j + 1) * k - k = j * k by rw [Nat.add_mul]; omega]
theorem flat_elem {α : Type} (k : Nat) (R : List (List α)) (h : ∀ r ∈ R, r.length = k) (j : Nat) (hj : j < R.length) : (R.flatten.drop (j * k)).take k = R[j] := by
  have hr := h _ (List.getElem_mem hj)
  rw [flat_drop k R h, List.drop_eq_getElem_cons hj, List.flatten_cons, List.take_left' hr]
theorem flat_set {α : Type} (k : Nat) (R : List (List α)) (h : ∀ r ∈ R, r.length = k) (j : Nat) (hj : j < R.length) (x : List α) : R.flatten.take (j * k) ++ x ++ R.flatten.drop (j * k + k) = (R.set j x).flatten := by
  rw [flat_take k R h, show j * k + k = (j + 1) * k by rw [Nat.add_mul]; omega, flat_drop k R h, List.set_eq_take_append_cons_drop, if_pos hj]
  simp
/-- What is told of a sector. -/
def Dk.told (s : Sc) : List UInt8 × Int := if s.bad then ([], 16) else (s.b, 0)
/-- A write over what a sector has. -/
def Dk.over (i : Int) (s : Sc) (w : Wt) : Sc := if w.place = i then ⟨w.b, false⟩ else s
theorem over_len (i : Int) (l : List Wt) (h : ∀ w ∈ l, w.b.length = 64) (s : Sc) (hs : s.b.length = 64) : (l.foldl (Dk.over i) s).b.length = 64 := by
  induction l generalizing s with
  | nil => exact hs
  | cons x l ih =>
    rw [List.foldl_cons]
    refine ih (fun w hw => h w (by simp [hw])) _ ?_
    unfold Dk.over
    split
    · exact h x (by simp)
    · exact hs
theorem over_next (i : Int) (l : List Wt) (s : Sc) (j : Nat) (hj : j < l.length) : (l.take (j + 1)).foldl (Dk.over i) s = Dk.over i ((l.take j).foldl (Dk.over i) s) l[j] := by
  rw [List.take_succ_eq_append_getElem hj, List.foldl_append]
  rfl
end Go.Ofp
namespace Go.Proofs.Ytlhpibniecfofaa
open Go.RowKit Go.Ofp
set_option linter.unusedVariables false
set_option maxRecDepth 100000
set_option maxHeartbeats 4000000

theorem sc_each {d : Dk} (h : d.Ok) : ∀ r ∈ d.sec.map scRow, r.length = 65 := by
  intro r hr
  obtain ⟨s, hs, rfl⟩ := List.mem_map.1 hr
  exact scRow_length s (h.sec s hs)
theorem wt_each {d : Dk} (h : d.Ok) : ∀ r ∈ d.wait.map wtRow, r.length = 66 := by
  intro r hr
  obtain ⟨s, hs, rfl⟩ := List.mem_map.1 hr
  exact wtRow_length s (h.wait s hs).2.2
theorem sc_rowone (s : Sc) : (scRow s).all Value.oneCell' = true := by
  rw [List.all_eq_true]
  intro u hu
  simp only [scRow, List.mem_append, List.mem_map, List.mem_singleton] at hu
  rcases hu with ⟨_, _, rfl⟩ | rfl <;> rfl
theorem sc_bad (s : Sc) (h : s.b.length = 64) : (scRow s).toArray[64]? = some (.bool s.bad) := by
  simp [scRow, h]
theorem sc_bytes (s : Sc) (h : s.b.length = 64) : (scRow s).take 64 = s.b.map vb := by
  simp [scRow, h]
theorem wt_sector (x : Wt) (h : x.b.length = 64) : ((wtRow x).drop 1).take 65 = scRow ⟨x.b, false⟩ := by
  rw [List.take_of_length_le (by simp [wtRow, h])]
  simp [wtRow, scRow]
theorem store_whole {xs ys : List Value} {n : Nat} (h : xs.length = n) (hy : ys.length = n) : (xs.toArray.toList.take 0 ++ ys ++ xs.toArray.toList.drop (0 + n)).toArray = ys.toArray := by
  subst h
  simp

theorem read_nil (i : Int) (w : World) : Calls Try.prog 22 #[.pointer none, .int .i64 i] w fun e w' => e = .returned (.tuple #[.string (str []), .int .i64 14]) ∧ w = w' := by
  have cR := ready_nil i w
  replace cR := Lib.hid cR
  go_enter Try.func22, Try.ntmps22
  go_wp2_with (go_at_call 71; (with_reducible refine cR.out.mono ?_); rintro _ _ ⟨rfl, rfl⟩)
  go_ret2
  exact ⟨rfl, rfl⟩

theorem read_main (bd : Nat) (sv wv : Value) (d : Dk) (k : Nat) (w : World) (h : St w (feet (dks bd sv wv d)) (dks bd sv wv d) w) (hok : d.Ok) (hr : d.ready k = 0) (hw : d.wait.length ≤ 100000) :
    Calls Try.prog 22 #[.pointer (some ⟨bd, 0, none⟩), .int .i64 k] w fun e w' => e = .returned (.tuple #[.string (str (d.read k).1), .int .i64 (d.read k).2]) ∧ St w (feet (dks bd sv wv d)) (dks bd sv wv d) w' := by
  have cR := ready_any bd sv wv d k w h
  obtain ⟨-, -, hkl⟩ := Dk.ready_zero hr
  replace hkl : k < d.sec.length := by omega
  rw [hr] at cR
  have hrd : d.read k = Dk.told (d.see k) := by rw [Dk.read, if_pos hr]; rfl
  rw [hrd]
  clear hrd
  have hse := sc_each hok
  have hwe := wt_each hok
  have hsl : (d.sec.map scRow).length = d.sec.length := List.length_map _
  have hwl : (d.wait.map wtRow).length = d.wait.length := List.length_map _
  have hload0 := flat_elem 65 _ hse k (by rw [hsl]; exact hkl)
  have hsk := hok.sec d.sec[k] (List.getElem_mem hkl)
  have hload : (((d.sec.map scRow).flatten).drop (k * 65)).take 65 = scRow d.sec[k] := by rw [hload0, List.getElem_map]
  have hsee : d.see k = d.wait.foldl (Dk.over k) d.sec[k] := by
    unfold Dk.see
    rw [List.getD_eq_getElem?_getD, Int.toNat_natCast, List.getElem?_eq_getElem hkl]
    rfl
  rw [hsee]
  have hwload : ∀ j (hj : j < d.wait.length), (((d.wait.map wtRow).flatten).drop (j * 66)).take 66 = wtRow d.wait[j] := by
    intro j hj
    rw [flat_elem 66 _ hwe j (by rw [hwl]; exact hj), List.getElem_map]
  have hwok := hok.wait
  generalize feet (dks bd sv wv d) = F at h ⊢
  have hS := h
  clear h hr hok hse hwe hsl hwl hload0 hsee
  unfold dks at hS ⊢
  obtain ⟨gs, cs, rfl, -⟩ := hS.rowat 1 rfl (by omega)
  obtain ⟨aw, cw, rfl, -⟩ := hS.row 2 rfl
  have ez := elem_sc
  have ew := elem_wt
  have hz0 := store_whole (xs := scZero) (ys := scRow d.sec[k]) (n := 65) (by simp [scZero]) (scRow_length _ hsk)
  generalize (d.sec.map scRow).flatten = R1 at *
  generalize (d.wait.map wtRow).flatten = R2 at *
  generalize d.sec[k] = s0 at *
  generalize d.wait = wl at *
  obtain ⟨n, hn⟩ : ∃ n, wl.length = n := ⟨_, rfl⟩
  rw [hn] at hS hw ⊢
  generalize d.sec.length = ns at *
  have hrl := scRow_length _ hsk
  have hro := sc_rowone s0
  replace cR := Lib.hid cR
  replace hload := Lib.hid hload
  replace hwload := Lib.hid hwload
  replace hwok := Lib.hid hwok
  replace hz0 := Lib.hid hz0
  replace hrl := Lib.hid hrl
  replace hro := Lib.hid hro
  replace hsk := Lib.hid hsk
  replace hn := Lib.hid hn
  go_enter Try.func22, Try.ntmps22
  go_wp2_with (first
    | (go_at_call 71; (with_reducible refine cR.out.mono ?_); rintro _ _ ⟨rfl, rfl⟩)
    | ((with_reducible refine wpList_loadelem_st 1 k hS rfl rfl rfl rfl rfl ?_ (by kernel_rfl) hload.out hrl.out ?_); focus (simp [rowB, go_sem]; done))
    | ((with_reducible refine wpList_alloc_st hS rfl rfl ez ?_); intro g1 w1 hS1; clear hS; have hS := hS1; clear hS1)
    | ((with_reducible refine wpList_storerow_st 0 (vs := scRow s0) (n := 65) hS rfl rfl rfl rfl (by kernel_rfl) rfl hrl.out hro.out rfl ?_); intro w1 hS1; clear hS; simp only [List.set_cons_zero] at hS1; rw [hz0.out] at hS1; have hS := hS1; clear hS1)
    | ((with_reducible refine wpList_load_st 0 hS rfl rfl rfl rfl ?_ rfl ?_); focus (simp [scalarB, go_sem]; done))
    | ((with_reducible refine wpList_load_st 1 hS rfl rfl rfl rfl ?_ rfl ?_); focus (simp [scalarB, go_sem]; done)))
  clear hro hrl hz0 hload cR
  go_loopg [28] n (fun gk vx wr => ∃ (j : Nat) (s : Sc), j + gk = n ∧ vx = .int .i64 j ∧ Hid (s = (wl.take j).foldl (Dk.over k) s0 ∧ s.b.length = 64) ∧ St w F [Ch.blk g1 122 (scRow s).toArray, Ch.blk bd 117 #[.slice (some ⟨gs, 0, none⟩) ns cs, .slice aw n cw, .int .i64 d.fuse, .bool d.dead], Ch.row 122 65 (.slice (some ⟨gs, 0, none⟩) ns cs) ns R1, Ch.row 125 66 (.slice aw n cw) n R2] wr)
  case atStart => exact ⟨0, s0, Nat.zero_add _, rfl, Lib.hid ⟨rfl, hsk.out⟩, hS⟩
  case round =>
    clear hS
    obtain ⟨j, s, hjn, rfl, hs, hS⟩ := hrel
    by_cases hlt : j < n
    · have hj' : j < wl.length := by have := hn.out; omega
      have hl2 := hwload.out j hj'
      have hw2 := (hwok.out wl[j] (List.getElem_mem hj')).2.2
      have hnext := over_next k wl s0 j hj'
      rw [← hs.out.1] at hnext
      have hlen := hs.out.2
      obtain ⟨gw, cw', hwv, -⟩ := hS.rowat 3 rfl (by omega)
      cases hwv
      generalize wl[j] = x at hl2 hw2 hnext
      have hp0 : (wtRow x).toArray[0]? = some (.int .i64 x.place) := rfl
      have hxl := wtRow_length x hw2
      have hxo : (wtRow x).all Value.oneCell' = true := by rw [List.all_eq_true]; exact wt_rowone x
      have hz1 := store_whole (xs := Value.int .i64 0 :: scZero) (ys := wtRow x) (n := 66) (by simp [scZero]) hxl
      have hsec := wt_sector x hw2
      have hz2 := store_whole (xs := scRow s) (ys := scRow ⟨x.b, false⟩) (n := 65) (scRow_length _ hlen) (scRow_length ⟨x.b, false⟩ hw2)
      have hsl2 := scRow_length ⟨x.b, false⟩ hw2
      have hso2 := sc_rowone ⟨x.b, false⟩
      have hsz2 : Nat.ble (0 + 65) (scRow s).toArray.size = true := by rw [List.size_toArray, scRow_length _ hlen]; rfl
      replace hl2 := Lib.hid hl2
      replace hp0 := Lib.hid hp0
      replace hxl := Lib.hid hxl
      replace hxo := Lib.hid hxo
      replace hz1 := Lib.hid hz1
      replace hsec := Lib.hid hsec
      replace hz2 := Lib.hid hz2
      replace hsl2 := Lib.hid hsl2
      replace hso2 := Lib.hid hso2
      replace hsz2 := Lib.hid hsz2
      replace hnext := Lib.hid hnext
      replace hlen := Lib.hid hlen
      replace hw2 := Lib.hid hw2
      clear hs hwok hwload  hn ez
      by_cases hp : x.place = (k : Int)
      · have hov : Dk.over k s x = ⟨x.b, false⟩ := by rw [Dk.over, if_pos hp]
        rw [hp] at hp0
        replace hov := Lib.hid hov
        clear hp
        go_wp2_with (first
          | ((with_reducible refine wpList_loadelem_st 3 j hS rfl rfl rfl rfl rfl ?_ (by kernel_rfl) hl2.out hxl.out ?_); focus (simp [rowB, go_sem]; done))
          | ((with_reducible refine wpList_alloc_st hS rfl rfl ew ?_); intro g3 w1 hS1; clear hS; have hS := hS1; clear hS1)
          | ((with_reducible refine wpList_storerow_st 0 (vs := wtRow x) (n := 66) hS rfl rfl rfl rfl (by kernel_rfl) rfl hxl.out hxo.out rfl ?_); intro w1 hS1; clear hS; simp only [List.set_cons_zero] at hS1; rw [hz1.out] at hS1; have hS := hS1; clear hS1)
          | ((with_reducible refine wpList_load_st 0 hS rfl rfl rfl rfl ?_ hp0.out ?_); focus (simp [scalarB, go_sem]; done))
          | ((with_reducible refine wpList_loadrow_st 0 hS rfl rfl rfl rfl ?_ (by kernel_rfl) hsec.out hsl2.out ?_); focus (simp [rowB, go_sem]; done))
          | ((with_reducible refine wpList_storerow_st 1 (vs := scRow ⟨x.b, false⟩) (n := 65) hS rfl rfl rfl rfl (by kernel_rfl) rfl hsl2.out hso2.out hsz2.out ?_); intro w1 hS1; clear hS; simp only [List.set_cons_succ, List.set_cons_zero] at hS1; rw [hz2.out] at hS1; have hS := hS1; clear hS1))
        go_roundg (n - (j + 1))
        case measure => omega
        case rel => exact ⟨j + 1, _, by omega, by go_num, Lib.hid ⟨by rw [hnext.out, hov.out], hw2.out⟩, hS.drop⟩
      · have hov : Dk.over k s x = s := by rw [Dk.over, if_neg hp]
        have hpb : (x.place == (k : Int)) = false := by rw [beq_eq_false_iff_ne]; exact hp
        replace hov := Lib.hid hov
        clear hp
        go_wp2_with (first
          | ((with_reducible refine wpList_loadelem_st 3 j hS rfl rfl rfl rfl rfl ?_ (by kernel_rfl) hl2.out hxl.out ?_); focus (simp [rowB, go_sem]; done))
          | ((with_reducible refine wpList_alloc_st hS rfl rfl ew ?_); intro g3 w1 hS1; clear hS; have hS := hS1; clear hS1)
          | ((with_reducible refine wpList_storerow_st 0 (vs := wtRow x) (n := 66) hS rfl rfl rfl rfl (by kernel_rfl) rfl hxl.out hxo.out rfl ?_); intro w1 hS1; clear hS; simp only [List.set_cons_zero] at hS1; rw [hz1.out] at hS1; have hS := hS1; clear hS1)
          | ((with_reducible refine wpList_load_st 0 hS rfl rfl rfl rfl ?_ hp0.out ?_); focus (simp [scalarB, go_sem]; done)))
        go_roundg (n - (j + 1))
        case measure => omega
        case rel => exact ⟨j + 1, s, by omega, by go_num, Lib.hid ⟨by rw [hnext.out, hov.out], hlen.out⟩, hS.drop⟩
    · have hfin : wl.foldl (Dk.over k) s0 = s := by
        rw [hs.out.1, List.take_of_length_le (by have := hn.out; omega)]
      have hlen := hs.out.2
      have hb0 := sc_bad s hlen
      have hsl : Sl wr (some ⟨g1, 0, none⟩) (s.b.map vb) := by
        have := (hS.blksl 0 rfl).take 64
        rwa [List.toList_toArray, sc_bytes s hlen] at this
      replace hb0 := Lib.hid hb0
      replace hsl := Lib.hid hsl
      replace hfin := Lib.hid hfin
      clear hs hwok hwload  hn ez ew
      obtain ⟨sb, hsb⟩ : ∃ x, s.bad = x := ⟨_, rfl⟩
      rw [hsb] at hb0
      replace hsb := Lib.hid hsb
      cases sb
      all_goals
        go_wp2_with (first
          | ((with_reducible refine wpList_load_st 0 hS rfl rfl rfl rfl ?_ hb0.out ?_); focus (simp [scalarB, go_sem]; done))
          | (with_reducible refine wpList_bts (src := 127) (dst := 9) (x := .tmp 42) (l := s.b) rfl rfl Try.underlying127 Try.underlying5 Try.underlying9 rfl hsl.out (by rw [hlen]) ?_))
        go_ret2
        exact ⟨by rw [hfin.out, Dk.told, hsb.out]; rfl, hS.drop⟩

theorem read_any (bd : Nat) (sv wv : Value) (d : Dk) (i : Int) (w : World) (h : St w (feet (dks bd sv wv d)) (dks bd sv wv d) w) (hok : d.Ok) (hw : d.wait.length ≤ 100000) :
    Calls Try.prog 22 #[.pointer (some ⟨bd, 0, none⟩), .int .i64 i] w fun e w' => e = .returned (.tuple #[.string (str (d.read i).1), .int .i64 (d.read i).2]) ∧ St w (feet (dks bd sv wv d)) (dks bd sv wv d) w' := by
  by_cases hr : d.ready i = 0
  · obtain ⟨-, h0, -⟩ := Dk.ready_zero hr
    obtain ⟨k, rfl⟩ := Int.eq_ofNat_of_zero_le h0
    exact read_main bd sv wv d k w h hok hr hw
  · have cR := ready_any bd sv wv d i w h
    have hd : d.read i = ([], d.ready i) := by rw [Dk.read, if_neg hr]
    rw [hd]
    have hz : (d.ready i == 0) = false := by rw [beq_eq_false_iff_ne]; exact hr
    generalize d.ready i = q at *
    clear hr hd hok hw
    replace cR := Lib.hid cR
    replace h := Lib.hid h
    go_enter Try.func22, Try.ntmps22
    go_wp2_with (go_at_call 71; (with_reducible refine cR.out.mono ?_); rintro _ _ ⟨rfl, rfl⟩)
    go_ret2
    exact ⟨rfl, h.out⟩
end Go.Proofs.Ytlhpibniecfofaa
