/- Texts laid together: Vault6 RPut DiskKeep DiskOpen PieceRead. -/
import Derived.ChangeSlices
import Derived.Test.YtlhpibniecfofaaM1
import Derived.Test.YtlhpibniecfofaaM11
import Derived.Test.YtlhpibniecfofaaM12
import Derived.Test.YtlhpibniecfofaaM2
import Derived.Test.YtlhpibniecfofaaM3
import Derived.Test.YtlhpibniecfofaaM4
import Derived.Test.YtlhpibniecfofaaM5
section
/- Vaults: found, where there is a root. -/
set_option linter.unusedSimpArgs false
set_option linter.unusedVariables false
namespace Go.Proofs.Ytlhpibniecfofaa
open Go.RowKit Go.Ofp
set_option linter.unusedVariables false
set_option maxRecDepth 100000
set_option maxHeartbeats 4000000

theorem first_list {s : ByteArray} (h : s.size ≠ 0) : (s.extract 0 1).toList = [s.data.toList.headD 0] := by
  rw [ByteArray.toList_eq]
  have h2 : s.data.toList.length ≠ 0 := by rw [← ba_size]; exact h
  rw [ByteArray.data_extract, Array.toList_extract]
  cases hd : s.data.toList with
  | nil => rw [hd] at h2; simp at h2
  | cons x l => rw [List.extract_eq_take_drop]; rfl
theorem first_zero {s : ByteArray} (h : s.size ≠ 0) : firstB s = 0 ↔ (s.extract 0 1).toList = [0] := by
  rw [first_list h, firstB]
  constructor
  · intro e
    rw [List.cons.injEq]
    exact ⟨UInt8.toNat_inj.1 e, rfl⟩
  · intro e
    rw [List.cons.injEq] at e
    rw [e.1]
    rfl
theorem first_one {s : ByteArray} (h : s.size ≠ 0) : firstB s = 1 ↔ (s.extract 0 1).toList = [1] := by
  rw [first_list h, firstB]
  constructor
  · intro e
    rw [List.cons.injEq]
    exact ⟨UInt8.toNat_inj.1 e, rfl⟩
  · intro e
    rw [List.cons.injEq] at e
    rw [e.1]
    rfl
theorem pre_blk {w0 w : World} {F : List Nat} {R : List Ch} {g t : Nat} {cs : Array Value} (h : St w0 F (Ch.blk g t cs :: R) w) : St w [g] [Ch.blk g t cs] w := h.pre [_] R rfl
theorem call_blk {w0 w w' : World} {F : List Nat} {A R : List Ch} {g t : Nat} {cs : Array Value} (h : St w0 F (Ch.blk g t cs :: R) w) (k : St w [g] A w') : St w0 F (A ++ R) w' := h.call [_] R rfl k
theorem mid_three {w0 w : World} {F : List Nat} {R : List Ch} {a b c : Ch} (h : St w0 F (a :: b :: c :: R) w) : St w0 F (c :: a :: b :: R) w := St.mid (A := []) (B := [a, b]) (C := [c]) (R := R) h
theorem less_one {s : ByteArray} (h : s.size ≠ 0) : Op.bytesLess (s.extract 0 1).toList [1] = decide (firstB s = 0) := by
  rw [first_list h, firstB]
  generalize s.data.toList.headD 0 = c
  have e : (c < 1) ↔ c.toNat = 0 := by rw [UInt8.lt_iff_toNat_lt]; simp
  by_cases h0 : c.toNat = 0
  · simp [Op.bytesLess, e, h0]
  · simp [Op.bytesLess, e, h0]
theorem vsteps_app (l : List ByteArray) (s : ByteArray) : vsteps (l ++ [s]) = (vsteps l).bind fun m => if s.size = 0 ∨ 1 < firstB s then none else some (if firstB s = 1 then m ++ [restB s] else m) := by
  induction l with
  | nil =>
    simp only [List.nil_append, vsteps, Option.bind_some]
    split
    · rfl
    · split <;> rfl
  | cons a l ih =>
    rw [List.cons_append, vsteps, vsteps]
    split
    · rfl
    · rw [ih]
      cases vsteps l with
      | none => rfl
      | some m =>
        simp only [Option.bind_some, Option.map_some]
        by_cases h2 : s.size = 0 ∨ 1 < firstB s
        · rw [if_pos h2, if_pos h2]
          rfl
        · rw [if_neg h2, if_neg h2]
          by_cases h1 : firstB a = 1 <;> by_cases h3 : firstB s = 1 <;> simp [h1, h3]
theorem vsteps_len {l m : List ByteArray} {k : Nat} (h : vsteps l = some m) (hk : l.length ≤ k) : m.length ≤ k := by
  induction l generalizing m k with
  | nil => cases h; simp
  | cons a l ih =>
    rw [vsteps] at h
    split at h
    · cases h
    · obtain ⟨m', hm, rfl⟩ := Option.map_eq_some_iff.1 h
      simp only [List.length_cons] at hk
      have := ih (k := k - 1) hm (by omega)
      split <;> simp <;> omega
theorem vsteps_none {l : List ByteArray} {k : Nat} (h : vsteps (l.take k) = none) : vsteps l = none := by
  have e : ∀ (m n : List ByteArray), vsteps m = none → vsteps (m ++ n) = none := by
    intro m n hm
    induction m with
    | nil => cases hm
    | cons a m ih =>
      rw [vsteps] at hm
      rw [List.cons_append, vsteps]
      split
      · rfl
      · rename_i hc
        rw [if_neg hc] at hm
        rw [ih (Option.map_eq_none_iff.1 hm)]
        rfl
  rw [← List.take_append_drop k l]
  exact e _ _ h
/-- What is found, with a root: the ring, the text and the records, or that there are none. -/
def FoundR (d : Dk) (F : List Nat) (bd : Nat) (sv wv : Value) (x : Rt) (w : World) (e : Ending) (w' : World) : Prop := ∃ recs t, d.Runs (d.vring x) 1 x.head.toNat recs t ∧
  ((splitB recs = none ∧ e = .returned (.tuple #[.agg #[.int .i64 0, .int .i64 0, .int .i64 0], .pointer none, .string ⟨#[]⟩, .slice none 0 0, .int .i64 16]) ∧ St w F (dks bd sv wv d) w') ∨
   (∃ text m g v, splitB recs = some (text, m) ∧ e = .returned (.tuple #[.agg #[.int .i64 x.seq, .int .i64 x.life, .int .i64 x.head], .pointer (some ⟨g, 0, none⟩), .string text, v, .int .i64 0]) ∧
     St w F (Ch.row 9 1 v m.length (m.map vs) :: rng g bd ⟨2, d.sec.length - 2, x.head.toNat, t, x.life.toNat⟩ :: dks bd sv wv d) w'))
/-- The same, its numbers laid open. -/
def FoundR' (d : Dk) (F : List Nat) (bd : Nat) (sv wv : Value) (sq : Int) (lf hd size : Nat) (w : World) (e : Ending) (w' : World) : Prop := ∃ recs t, d.Runs ⟨2, size - 2, hd, hd, lf⟩ 1 hd recs t ∧
  ((splitB recs = none ∧ e = .returned (.tuple #[.agg #[.int .i64 0, .int .i64 0, .int .i64 0], .pointer none, .string ⟨#[]⟩, .slice none 0 0, .int .i64 16]) ∧ St w F (dks bd sv wv d) w') ∨
   (∃ text m g v, splitB recs = some (text, m) ∧ e = .returned (.tuple #[.agg #[.int .i64 sq, .int .i64 lf, .int .i64 hd], .pointer (some ⟨g, 0, none⟩), .string text, v, .int .i64 0]) ∧
     St w F (Ch.row 9 1 v m.length (m.map vs) :: rng g bd ⟨2, size - 2, hd, t, lf⟩ :: dks bd sv wv d) w'))
theorem vlfound_some (bd : Nat) (sv wv : Value) (d : Dk) (x : Rt) (size k : Nat) (w : World) (h : St w (feet (dks bd sv wv d)) (dks bd sv wv d) w) (hfit : d.Fit size k) (hs : size ≤ 100000) (hk : k ≤ 90000) (h3 : 3 ≤ size) (he : d.load = (x, 0)) (hx : x.ok = true) (hdead : d.dead = false) :
    Calls Try.prog 94 #[.pointer (some ⟨bd, 0, none⟩)] w (FoundR d (feet (dks bd sv wv d)) bd sv wv x w) := by
  have hsz := hfit.sec
  have hxi := (Rt.ok_iff x).1 hx
  obtain ⟨sq, lf, hd⟩ := x
  simp only at hxi
  obtain ⟨hdN, rfl⟩ := Int.eq_ofNat_of_zero_le (show 0 ≤ hd by omega)
  obtain ⟨lfN, rfl⟩ := Int.eq_ofNat_of_zero_le (show 0 ≤ lf by omega)
  have cM := fun W hh => vmay_any bd sv wv d W hh (by omega)
  rw [if_neg (by omega)] at cM
  have cZ := fun W hh => size_any bd sv wv d W hh
  rw [hsz] at cZ
  have cL := fun W hh => tload_any bd sv wv d size k W hh hfit hs (by omega)
  rw [he] at cL
  simp only [Rt.row] at cL
  have hb : ringOk size ((2 : Nat) : Int) ((size - 2 : Nat) : Int) hdN lfN = true := by rw [ringOk_iff]; omega
  have cO : ∀ W, St W (feet (dks bd sv wv d)) (dks bd sv wv d) W → Calls Try.prog 45 #[.pointer (some ⟨bd, 0, none⟩), .int .i64 2, .int .i64 ((size - 2 : Nat) : Int), .int .i64 (hdN : Int), .int .i64 (lfN : Int)] W fun e w' => ∃ g v t recs, e = .returned (.tuple #[.pointer (some ⟨g, 0, none⟩), v, .int .i64 0]) ∧ d.Runs ⟨2, size - 2, hdN, hdN, lfN⟩ 1 hdN recs t ∧ St W (feet (dks bd sv wv d)) (Ch.row 9 1 v recs.length (recs.map vs) :: rng g bd ⟨2, size - 2, hdN, t, lfN⟩ :: dks bd sv wv d) w' :=
    fun W hh => rgopen_any bd sv wv d 2 (size - 2) hdN lfN size k W hh hfit hs (by omega) hb hdead
  have hvr : d.vring ⟨sq, lfN, hdN⟩ = ⟨2, size - 2, hdN, hdN, lfN⟩ := by unfold Dk.vring; rw [hsz]; rfl
  have hFR : ∀ e w', FoundR' d (feet (dks bd sv wv d)) bd sv wv sq lfN hdN size w e w' → FoundR d (feet (dks bd sv wv d)) bd sv wv ⟨sq, lfN, hdN⟩ w e w' := by
    intro e w' hh
    unfold FoundR
    rw [hvr, hsz]
    exact hh
  refine Calls.mono ?_ hFR
  clear hFR
  have hS : St w (feet (dks bd sv wv d)) (dks bd sv wv d ++ []) w := by rw [List.append_nil]; exact h
  have ez := elem_root
  have ex := elem_tx
  have hbr := build_root0
  have w2 : IntKind.i64.wrap ((size : Int) - 2) = ((size - 2 : Nat) : Int) := by rw [IntWalk.i64_in _ (by omega)]; omega
  replace cM := Lib.hid cM
  replace cL := Lib.hid cL
  replace cZ := Lib.hid cZ
  replace cO := Lib.hid cO
  replace hxi := Lib.hid hxi
  generalize hFe : feet (dks bd sv wv d) = F at hS ⊢
  clear h hfit he hb hvr hx
  go_enter Try.func94, Try.ntmps94
  go_wp2_with (first | ((with_reducible refine wpList_alloc_st (L := dks bd sv wv d ++ []) hS rfl rfl ez ?_); intro gZ w1 hS1; clear hS; have hS := hS1; clear hS1) | ((with_reducible refine wpList_alloc_st (L := Ch.blk _ _ _ :: _) hS rfl rfl ez ?_); intro gN w1 hS1; clear hS; have hS := hS1; clear hS1) | (go_at_call 93; (with_reducible refine (cM.out _ (hS.preM (A := [_]) (B := dks bd sv wv d) (R := []))).mono ?_); rintro _ _ ⟨rfl, rfl⟩) | (go_at_call 39; (with_reducible refine (cL.out _ (hS.preM (A := [_]) (B := dks bd sv wv d) (R := []))).mono ?_); rintro _ w5 ⟨rfl, hk5⟩; have hS1 := hS.callM (A := [_]) (B := dks bd sv wv d) (R := []) hk5; clear hS hk5; have hS := hS1; clear hS1; simp only [List.cons_append, List.nil_append] at hS) | (with_reducible refine wpList_box_st hS rfl rfl rfl ?_; intro g1 w1 hS1; clear hS; replace hS := hS1; clear hS1) | (with_reducible refine wpList_box1_st hS rfl rfl rfl ?_; intro g1 w1 hS1; clear hS; replace hS := hS1; clear hS1) | (with_reducible refine wpList_alloc_st hS rfl rfl (by assumption) ?_; intro g1 w1 hS1; clear hS; replace hS := hS1; clear hS1) | (with_reducible refine wpList_alloc1_st hS rfl rfl (by assumption) rfl ?_; intro g1 w1 hS1; clear hS; replace hS := hS1; clear hS1) | ((with_reducible refine wpList_load_st 0 hS rfl rfl rfl rfl ?_ rfl ?_); focus (simp [scalarB, go_sem]; done)) | ((with_reducible refine wpList_loadall_st 0 hS rfl rfl rfl rfl ?_ (by kernel_rfl) ?_); focus (simp [rowB, go_sem]; done)) | ((with_reducible refine wpList_store_st 0 hS rfl rfl rfl rfl (by kernel_rfl) rfl rfl ?_); intro w1 hS1; clear hS; replace hS := hS1; clear hS1; try simp only [List.set_cons_zero, List.set_cons_succ, List.setIfInBounds_toArray, List.take_succ_cons, List.take_zero, List.drop_succ_cons, List.drop_zero, List.nil_append, List.cons_append, List.append_nil, List.drop_nil, List.take_nil, List.length_cons, List.length_nil, Nat.zero_add, Nat.add_zero, Nat.reduceAdd] at hS) | ((with_reducible refine wpList_storerow_st 0 hS rfl rfl rfl rfl (by kernel_rfl) rfl rfl rfl rfl ?_); intro w1 hS1; clear hS; replace hS := hS1; clear hS1; try simp only [List.set_cons_zero, List.set_cons_succ, List.setIfInBounds_toArray, List.take_succ_cons, List.take_zero, List.drop_succ_cons, List.drop_zero, List.nil_append, List.cons_append, List.append_nil, List.drop_nil, List.take_nil, List.length_cons, List.length_nil, Nat.zero_add, Nat.add_zero, Nat.reduceAdd] at hS) | ((with_reducible refine wpList_load_st 1 hS rfl rfl rfl rfl ?_ rfl ?_); focus (simp [scalarB, go_sem]; done)) | ((with_reducible refine wpList_loadall_st 1 hS rfl rfl rfl rfl ?_ (by kernel_rfl) ?_); focus (simp [rowB, go_sem]; done)) | ((with_reducible refine wpList_store_st 1 hS rfl rfl rfl rfl (by kernel_rfl) rfl rfl ?_); intro w1 hS1; clear hS; replace hS := hS1; clear hS1; try simp only [List.set_cons_zero, List.set_cons_succ, List.setIfInBounds_toArray, List.take_succ_cons, List.take_zero, List.drop_succ_cons, List.drop_zero, List.nil_append, List.cons_append, List.append_nil, List.drop_nil, List.take_nil, List.length_cons, List.length_nil, Nat.zero_add, Nat.add_zero, Nat.reduceAdd] at hS) | ((with_reducible refine wpList_storerow_st 1 hS rfl rfl rfl rfl (by kernel_rfl) rfl rfl rfl rfl ?_); intro w1 hS1; clear hS; replace hS := hS1; clear hS1; try simp only [List.set_cons_zero, List.set_cons_succ, List.setIfInBounds_toArray, List.take_succ_cons, List.take_zero, List.drop_succ_cons, List.drop_zero, List.nil_append, List.cons_append, List.append_nil, List.drop_nil, List.take_nil, List.length_cons, List.length_nil, Nat.zero_add, Nat.add_zero, Nat.reduceAdd] at hS))
  refine mixs_beginC 0 (by kernel_rfl) hS rfl ?_
  clear hS
  intro w6 hS hC
  have kC := hC.kblk 0 rfl
  refine mixs_take 0 (v := ?_) rfl (by kernel_rfl) (fun _ _ _ h => h) (by kernel_rfl) (by assumption) (fun s => ?hy) ?_; case hy => (go_simp <;> with_reducible rfl)
  try simp only [List.getElem_toArray, List.getElem_cons_succ, List.getElem_cons_zero, Act.put, List.setIfInBounds_toArray, List.set_cons_zero, List.set_cons_succ]
  refine mixs_take 1 (v := ?_) rfl (by kernel_rfl) (fun _ _ _ h => h) (by kernel_rfl) (by assumption) (fun s => ?hy) ?_; case hy => (go_simp <;> with_reducible rfl)
  try simp only [List.getElem_toArray, List.getElem_cons_succ, List.getElem_cons_zero, Act.put, List.setIfInBounds_toArray, List.set_cons_zero, List.set_cons_succ]
  refine mixs_take 4 (v := ?_) rfl (by kernel_rfl) (fun _ _ _ h => h) (by kernel_rfl) (by assumption) (fun s => ?hy) ?_; case hy => (go_simp <;> with_reducible rfl)
  try simp only [List.getElem_toArray, List.getElem_cons_succ, List.getElem_cons_zero, Act.put, List.setIfInBounds_toArray, List.set_cons_zero, List.set_cons_succ]
  refine mixs_take 5 (v := ?_) rfl (by kernel_rfl) (fun _ _ _ h => h) (by kernel_rfl) (by assumption) (fun s => ?hy) ?_; case hy => (go_simp <;> with_reducible rfl)
  try simp only [List.getElem_toArray, List.getElem_cons_succ, List.getElem_cons_zero, Act.put, List.setIfInBounds_toArray, List.set_cons_zero, List.set_cons_succ]
  refine mixs_take 6 (v := ?_) rfl (by kernel_rfl) (fun _ _ _ h => h) (by kernel_rfl) (by assumption) (fun s => ?hy) ?_; case hy => (go_simp <;> with_reducible rfl)
  try simp only [List.getElem_toArray, List.getElem_cons_succ, List.getElem_cons_zero, Act.put, List.setIfInBounds_toArray, List.set_cons_zero, List.set_cons_succ]
  refine mixs_take 7 (v := ?_) rfl (by kernel_rfl) (fun _ _ _ h => h) (by kernel_rfl) (by assumption) (fun s => ?hy) ?_; case hy => (go_simp <;> with_reducible rfl)
  try simp only [List.getElem_toArray, List.getElem_cons_succ, List.getElem_cons_zero, Act.put, List.setIfInBounds_toArray, List.set_cons_zero, List.set_cons_succ]
  refine mixs_one 2 (by kernel_rfl) rfl (fun K hK => ?_)
  go_simp
  ( first | (go_at_call 23; (with_reducible refine (cZ.out _ (hS.preM (A := [_, _]) (B := dks bd sv wv d) (R := []))).mono ?_); rintro _ _ ⟨rfl, rfl⟩) | (go_at_call 45; (with_reducible refine (cO.out _ (hS.preM (A := [_, _]) (B := dks bd sv wv d) (R := []))).mono ?_); rintro _ w7 ⟨gr, vv, t, recs, rfl, hruns, hk7⟩; have hS1 := hS.callM (A := [_, _]) (B := dks bd sv wv d) (R := []) hk7; clear hS hk7; have hS := hS1; clear hS1) )
  try clear hC
  refine hK.out _ _ _ (fun _ h => h) (by first | exact hS | exact hS.drop | exact hS.drop.drop | exact hS.drop.drop.drop | exact hS.drop.drop.drop.drop | exact hS.empty | exact hS.one 0 rfl | exact hS.one 1 rfl | exact hS.one 2 rfl | exact hS.one 3 rfl | exact hS.one 4 rfl | exact hS.one 5 rfl | exact hS.one 6 rfl | exact hS.one 7 rfl | exact hS.one 8 rfl | exact hS.one 9 rfl | exact hS.one 10 rfl | exact hS.one 11 rfl) (fun hC => ?_)
  clear hK K
  try simp only [List.getElem_toArray, List.getElem_cons_succ, List.getElem_cons_zero, Act.put, List.setIfInBounds_toArray, List.set_cons_zero, List.set_cons_succ]
  refine mixs_take 3 (v := ?_) rfl (by kernel_rfl) (fun _ _ _ h => h) (by kernel_rfl) (by assumption) (fun s => ?hy) ?_; case hy => (go_simp <;> with_reducible rfl)
  try simp only [List.getElem_toArray, List.getElem_cons_succ, List.getElem_cons_zero, Act.put, List.setIfInBounds_toArray, List.set_cons_zero, List.set_cons_succ]
  refine mixs_one 8 (by kernel_rfl) rfl (fun K hK => ?_)
  go_simp
  ( first | (go_at_call 23; (with_reducible refine (cZ.out _ (hS.preM (A := [_, _]) (B := dks bd sv wv d) (R := []))).mono ?_); rintro _ _ ⟨rfl, rfl⟩) | (go_at_call 45; (with_reducible refine (cO.out _ (hS.preM (A := [_, _]) (B := dks bd sv wv d) (R := []))).mono ?_); rintro _ w7 ⟨gr, vv, t, recs, rfl, hruns, hk7⟩; have hS1 := hS.callM (A := [_, _]) (B := dks bd sv wv d) (R := []) hk7; clear hS hk7; have hS := hS1; clear hS1) )
  try clear hC
  refine hK.out _ _ _ (fun _ h => h) (by first | exact hS | exact hS.drop | exact hS.drop.drop | exact hS.drop.drop.drop | exact hS.drop.drop.drop.drop | exact hS.empty | exact hS.one 0 rfl | exact hS.one 1 rfl | exact hS.one 2 rfl | exact hS.one 3 rfl | exact hS.one 4 rfl | exact hS.one 5 rfl | exact hS.one 6 rfl | exact hS.one 7 rfl | exact hS.one 8 rfl | exact hS.one 9 rfl | exact hS.one 10 rfl | exact hS.one 11 rfl) (fun hC => ?_)
  clear hK K
  try simp only [List.getElem_toArray, List.getElem_cons_succ, List.getElem_cons_zero, Act.put, List.setIfInBounds_toArray, List.set_cons_zero, List.set_cons_succ]
  refine mixs_take 9 (v := ?_) rfl (by kernel_rfl) (fun _ _ _ h => h) (by kernel_rfl) (by assumption) (fun s => ?hy) ?_; case hy => (go_simp <;> with_reducible rfl)
  try simp only [List.getElem_toArray, List.getElem_cons_succ, List.getElem_cons_zero, Act.put, List.setIfInBounds_toArray, List.set_cons_zero, List.set_cons_succ]
  refine mixs_take 10 (v := ?_) rfl (by kernel_rfl) (fun _ _ _ h => h) (by kernel_rfl) (by assumption) (fun s => ?hy) ?_; case hy => (go_simp <;> with_reducible rfl)
  try simp only [List.getElem_toArray, List.getElem_cons_succ, List.getElem_cons_zero, Act.put, List.setIfInBounds_toArray, List.set_cons_zero, List.set_cons_succ]
  refine mixs_take 11 (v := ?_) rfl (by kernel_rfl) (fun _ _ _ h => h) (by kernel_rfl) (by assumption) (fun s => ?hy) ?_; case hy => (go_simp <;> with_reducible rfl)
  try simp only [List.getElem_toArray, List.getElem_cons_succ, List.getElem_cons_zero, Act.put, List.setIfInBounds_toArray, List.set_cons_zero, List.set_cons_succ]
  refine mixs_take 12 (v := ?_) rfl (by kernel_rfl) (fun _ _ _ h => h) (by kernel_rfl) (by assumption) (fun s => ?hy) ?_; case hy => (go_simp <;> with_reducible rfl)
  try simp only [List.getElem_toArray, List.getElem_cons_succ, List.getElem_cons_zero, Act.put, List.setIfInBounds_toArray, List.set_cons_zero, List.set_cons_succ]
  refine mixs_take 13 (v := ?_) rfl (by kernel_rfl) (fun _ _ _ h => h) (by kernel_rfl) (by assumption) (fun s => ?hy) ?_; case hy => (go_simp <;> with_reducible rfl)
  try simp only [List.getElem_toArray, List.getElem_cons_succ, List.getElem_cons_zero, Act.put, List.setIfInBounds_toArray, List.set_cons_zero, List.set_cons_succ]
  refine mixs_take 14 (v := ?_) rfl (by kernel_rfl) (fun _ _ _ h => h) (by kernel_rfl) (by assumption) (fun s => ?hy) ?_; case hy => (go_simp <;> with_reducible rfl)
  try simp only [List.getElem_toArray, List.getElem_cons_succ, List.getElem_cons_zero, Act.put, List.setIfInBounds_toArray, List.set_cons_zero, List.set_cons_succ]
  refine mixs_take 15 (v := ?_) rfl (by kernel_rfl) (fun _ _ _ h => h) (by kernel_rfl) (by assumption) (fun s => ?hy) ?_; case hy => (go_simp <;> with_reducible rfl)
  try simp only [List.getElem_toArray, List.getElem_cons_succ, List.getElem_cons_zero, Act.put, List.setIfInBounds_toArray, List.set_cons_zero, List.set_cons_succ]
  refine wpAnyH_done (by kernel_rfl) ?_ _
  clear hC kC
  simp only [List.cons_append, List.nil_append] at hS
  obtain ⟨av, cv, rfl, hsl, -, hnc, hcm⟩ := hS.row 2 rfl
  have hbad : splitB recs = none → ∀ W, St w F (dks bd sv wv d) W → FoundR' d F bd sv wv sq lfN hdN size w (.returned (.tuple #[.agg #[.int .i64 0, .int .i64 0, .int .i64 0], .pointer none, .string ⟨#[]⟩, .slice none 0 0, .int .i64 16])) W := fun h1 W h2 => ⟨recs, t, hruns, .inl ⟨h1, rfl, h2⟩⟩
  have hgood : ∀ text m, splitB recs = some (text, m) → ∀ v W, St w F (Ch.row 9 1 v m.length (m.map vs) :: rng gr bd ⟨2, size - 2, hdN, t, lfN⟩ :: dks bd sv wv d) W → FoundR' d F bd sv wv sq lfN hdN size w (.returned (.tuple #[.agg #[.int .i64 sq, .int .i64 lfN, .int .i64 hdN], .pointer (some ⟨gr, 0, none⟩), .string text, v, .int .i64 0])) W := fun text m h1 v W h2 => ⟨recs, t, hruns, .inr ⟨text, m, gr, v, h1, rfl, h2⟩⟩
  have hrl : recs.length ≤ size := by
    have := hruns.le (by simp only; omega)
    simp only at this
    omega
  clear hruns
  replace hbad := Lib.hid hbad
  replace hgood := Lib.hid hgood
  cases recs with
  | nil =>
    clear hrl
    simp only [List.length_nil] at hS ⊢
    go_wp2_with (first | (with_reducible refine wpList_box_st hS rfl rfl rfl ?_; intro g1 w1 hS1; clear hS; replace hS := hS1; clear hS1) | (with_reducible refine wpList_box1_st hS rfl rfl rfl ?_; intro g1 w1 hS1; clear hS; replace hS := hS1; clear hS1) | (with_reducible refine wpList_alloc_st hS rfl rfl (by assumption) ?_; intro g1 w1 hS1; clear hS; replace hS := hS1; clear hS1) | (with_reducible refine wpList_alloc1_st hS rfl rfl (by assumption) rfl ?_; intro g1 w1 hS1; clear hS; replace hS := hS1; clear hS1) | ((with_reducible refine wpList_load_st 0 hS rfl rfl rfl rfl ?_ rfl ?_); focus (simp [scalarB, go_sem]; done)) | ((with_reducible refine wpList_loadall_st 0 hS rfl rfl rfl rfl ?_ (by kernel_rfl) ?_); focus (simp [rowB, go_sem]; done)) | ((with_reducible refine wpList_store_st 0 hS rfl rfl rfl rfl (by kernel_rfl) rfl rfl ?_); intro w1 hS1; clear hS; replace hS := hS1; clear hS1; try simp only [List.set_cons_zero, List.set_cons_succ, List.setIfInBounds_toArray, List.take_succ_cons, List.take_zero, List.drop_succ_cons, List.drop_zero, List.nil_append, List.cons_append, List.append_nil, List.drop_nil, List.take_nil, List.length_cons, List.length_nil, Nat.zero_add, Nat.add_zero, Nat.reduceAdd] at hS) | ((with_reducible refine wpList_storerow_st 0 hS rfl rfl rfl rfl (by kernel_rfl) rfl rfl rfl rfl ?_); intro w1 hS1; clear hS; replace hS := hS1; clear hS1; try simp only [List.set_cons_zero, List.set_cons_succ, List.setIfInBounds_toArray, List.take_succ_cons, List.take_zero, List.drop_succ_cons, List.drop_zero, List.nil_append, List.cons_append, List.append_nil, List.drop_nil, List.take_nil, List.length_cons, List.length_nil, Nat.zero_add, Nat.add_zero, Nat.reduceAdd] at hS) | ((with_reducible refine wpList_load_st 1 hS rfl rfl rfl rfl ?_ rfl ?_); focus (simp [scalarB, go_sem]; done)) | ((with_reducible refine wpList_loadall_st 1 hS rfl rfl rfl rfl ?_ (by kernel_rfl) ?_); focus (simp [rowB, go_sem]; done)) | ((with_reducible refine wpList_store_st 1 hS rfl rfl rfl rfl (by kernel_rfl) rfl rfl ?_); intro w1 hS1; clear hS; replace hS := hS1; clear hS1; try simp only [List.set_cons_zero, List.set_cons_succ, List.setIfInBounds_toArray, List.take_succ_cons, List.take_zero, List.drop_succ_cons, List.drop_zero, List.nil_append, List.cons_append, List.append_nil, List.drop_nil, List.take_nil, List.length_cons, List.length_nil, Nat.zero_add, Nat.add_zero, Nat.reduceAdd] at hS) | ((with_reducible refine wpList_storerow_st 1 hS rfl rfl rfl rfl (by kernel_rfl) rfl rfl rfl rfl ?_); intro w1 hS1; clear hS; replace hS := hS1; clear hS1; try simp only [List.set_cons_zero, List.set_cons_succ, List.setIfInBounds_toArray, List.take_succ_cons, List.take_zero, List.drop_succ_cons, List.drop_zero, List.nil_append, List.cons_append, List.append_nil, List.drop_nil, List.take_nil, List.length_cons, List.length_nil, Nat.zero_add, Nat.add_zero, Nat.reduceAdd] at hS))
    have c := hS.cell 1 rfl
    exact bodyPost_ret (v := .tuple #[.agg #[.int .i64 0, .int .i64 0, .int .i64 0], .pointer none, .string ⟨#[]⟩, .slice none 0 0, .int .i64 16]) (by simp [results, Try.results94, go_sem, c]) rfl (hbad.out rfl _ (by simpa using hS.drop.drop.drop.drop))
  | cons a l =>
    have ha := hsl 0 (by simp)
    obtain ⟨g, off, rfl, hcell⟩ := ha
    simp only [Nat.add_zero, List.map_cons, List.getElem_cons_zero, vs] at hcell
    obtain ⟨nR, hnR⟩ : ∃ nR, (a :: l).length = nR := ⟨_, rfl⟩
    have hnl : nR = l.length + 1 := by rw [← hnR]; rfl
    have hrl2 : l.length ≤ 100000 := by simp only [List.length_cons] at hrl; omega
    clear hrl
    rw [hnR] at hS hnc ⊢
    have hn0 : ((nR : Int) == 0) = false := by rw [beq_eq_false_iff_ne]; omega
    have hn1 : (1 : Int) ≤ (nR : Int) := by omega
    have hn2 : (0 : Int) < (nR : Int) := by omega
    by_cases ha0 : a.size = 0
    · have hal : a.toList = [] := by rw [ByteArray.toList_eq]; exact List.length_eq_zero_iff.1 (by rw [Array.length_toList]; exact ha0)
      have hsp : splitB (a :: l) = none := by rw [splitB, if_pos (.inl ha0)]
      replace hnl := Lib.hid hnl
      go_wp2_with (first | (with_reducible refine wpList_box_st hS rfl rfl rfl ?_; intro g1 w1 hS1; clear hS; replace hS := hS1; clear hS1) | (with_reducible refine wpList_box1_st hS rfl rfl rfl ?_; intro g1 w1 hS1; clear hS; replace hS := hS1; clear hS1) | (with_reducible refine wpList_alloc_st hS rfl rfl (by assumption) ?_; intro g1 w1 hS1; clear hS; replace hS := hS1; clear hS1) | (with_reducible refine wpList_alloc1_st hS rfl rfl (by assumption) rfl ?_; intro g1 w1 hS1; clear hS; replace hS := hS1; clear hS1) | ((with_reducible refine wpList_load_st 0 hS rfl rfl rfl rfl ?_ rfl ?_); focus (simp [scalarB, go_sem]; done)) | ((with_reducible refine wpList_loadall_st 0 hS rfl rfl rfl rfl ?_ (by kernel_rfl) ?_); focus (simp [rowB, go_sem]; done)) | ((with_reducible refine wpList_store_st 0 hS rfl rfl rfl rfl (by kernel_rfl) rfl rfl ?_); intro w1 hS1; clear hS; replace hS := hS1; clear hS1; try simp only [List.set_cons_zero, List.set_cons_succ, List.setIfInBounds_toArray, List.take_succ_cons, List.take_zero, List.drop_succ_cons, List.drop_zero, List.nil_append, List.cons_append, List.append_nil, List.drop_nil, List.take_nil, List.length_cons, List.length_nil, Nat.zero_add, Nat.add_zero, Nat.reduceAdd] at hS) | ((with_reducible refine wpList_storerow_st 0 hS rfl rfl rfl rfl (by kernel_rfl) rfl rfl rfl rfl ?_); intro w1 hS1; clear hS; replace hS := hS1; clear hS1; try simp only [List.set_cons_zero, List.set_cons_succ, List.setIfInBounds_toArray, List.take_succ_cons, List.take_zero, List.drop_succ_cons, List.drop_zero, List.nil_append, List.cons_append, List.append_nil, List.drop_nil, List.take_nil, List.length_cons, List.length_nil, Nat.zero_add, Nat.add_zero, Nat.reduceAdd] at hS) | ((with_reducible refine wpList_load_st 1 hS rfl rfl rfl rfl ?_ rfl ?_); focus (simp [scalarB, go_sem]; done)) | ((with_reducible refine wpList_loadall_st 1 hS rfl rfl rfl rfl ?_ (by kernel_rfl) ?_); focus (simp [rowB, go_sem]; done)) | ((with_reducible refine wpList_store_st 1 hS rfl rfl rfl rfl (by kernel_rfl) rfl rfl ?_); intro w1 hS1; clear hS; replace hS := hS1; clear hS1; try simp only [List.set_cons_zero, List.set_cons_succ, List.setIfInBounds_toArray, List.take_succ_cons, List.take_zero, List.drop_succ_cons, List.drop_zero, List.nil_append, List.cons_append, List.append_nil, List.drop_nil, List.take_nil, List.length_cons, List.length_nil, Nat.zero_add, Nat.add_zero, Nat.reduceAdd] at hS) | ((with_reducible refine wpList_storerow_st 1 hS rfl rfl rfl rfl (by kernel_rfl) rfl rfl rfl rfl ?_); intro w1 hS1; clear hS; replace hS := hS1; clear hS1; try simp only [List.set_cons_zero, List.set_cons_succ, List.setIfInBounds_toArray, List.take_succ_cons, List.take_zero, List.drop_succ_cons, List.drop_zero, List.nil_append, List.cons_append, List.append_nil, List.drop_nil, List.take_nil, List.length_cons, List.length_nil, Nat.zero_add, Nat.add_zero, Nat.reduceAdd] at hS))
      have c := hS.cell 1 rfl
      exact bodyPost_ret (v := .tuple #[.agg #[.int .i64 0, .int .i64 0, .int .i64 0], .pointer none, .string ⟨#[]⟩, .slice none 0 0, .int .i64 16]) (by simp [results, Try.results94, go_sem, c]) rfl (hbad.out hsp _ (by simpa using hS.drop.drop.drop.drop))
    · have hale : a.toList.isEmpty = false := by
        rw [List.isEmpty_eq_false_iff, ByteArray.toList_eq]
        intro e
        have := congrArg List.length e
        rw [Array.length_toList] at this
        exact ha0 this
      have haln : ¬ a.toList = [] := fun e => by rw [e] at hale; cases hale
      have has : (1 : Int) ≤ (a.size : Int) := by omega
      by_cases hf0 : firstB a = 0
      · have hex : ((a.extract 0 1).toList == [0]) = true := by rw [beq_iff_eq]; exact (first_zero ha0).1 hf0
        have hnil : vsteps l = none → splitB (a :: l) = none := fun e => by rw [splitB, if_neg (by omega), e]; rfl
        have hsome : ∀ m, vsteps l = some m → splitB (a :: l) = some (restB a, m) := fun m e => by rw [splitB, if_neg (by omega), e]; rfl
        have hra : a.extract 1 a.size = restB a := rfl
        replace hbad := Lib.hid (fun e W h => hbad.out (hnil e) W h)
        replace hgood := Lib.hid (fun m e v W h => hgood.out _ m (hsome m e) v W h)
        replace hf0 := Lib.hid hf0
        replace ha0 := Lib.hid ha0
        clear hnil hsome
        by_cases hc1 : cv = 1
        · have hl0 : l = [] := List.length_eq_zero_iff.1 (by omega)
          subst hl0
          obtain rfl : nR = 1 := by omega
          subst hc1
          clear hn0 hn1 hn2 hnl hnR hnc
          have hn0 : (((1 : Nat) : Int) == 0) = false := rfl
          go_wp2_with fail
          have hS0 := hS.nilrow 9 1
          go_loopg [12, 67] 0 (fun gk vr vx wr => vx = .int .i64 0 ∧ vr = .slice none 0 0 ∧ St w F (Ch.row 9 1 (.slice none 0 0) 0 [] :: Ch.blk gN 50 #[.int .i64 sq, .int .i64 lfN, .int .i64 hdN] :: Ch.blk gZ 50 #[.int .i64 0, .int .i64 0, .int .i64 0] :: Ch.row 9 1 (.slice (some ⟨g, off, none⟩) 1 1) 1 (([a] : List ByteArray).map vs) :: rng gr bd ⟨2, size - 2, hdN, t, lfN⟩ :: (dks bd sv wv d ++ [])) wr)
          case atStart => exact ⟨rfl, rfl, hS0⟩
          case round =>
            clear hS hS0
            obtain ⟨rfl, rfl, hS⟩ := hrel
            have hsl2 := hS.rowsl 3 rfl
            have hA0 := hsl2.add 0 _ rfl
            rw [Addr.add_lit, Nat.add_zero] at hA0
            have hm : vsteps [] = some [] := rfl
            go_wp2_with fail
            have hg := hgood.out _ hm
            replace hg := Lib.hid hg
            have hX := hS.cell 1 rfl
            have n1 : gN ≠ gZ := fun e => hS.apart 1 2 _ _ rfl rfl (by decide) gN (by simp [Ch.blk]) (by simp [Ch.blk, e])
            have n2 : g ≠ gZ := fun e => hS.apart 3 2 _ _ rfl rfl (by decide) g (by simp [Ch.row, Value.ownBlock]) (by simp [Ch.blk, e])
            have hZ := mid_three hS
            clear hS hm
            have hS := pre_blk hZ
            have kX : ∀ s : Cl wr [gZ] [], (Instr.loadAt 50 (.pointer (some ⟨gN, 0, none⟩))).run Try.prog s.1 = .ok (.agg #[.int .i64 sq, .int .i64 lfN, .int .i64 hdN]) s.1 := fun s => run_loadrow (n := 3) (vs := [.int .i64 sq, .int .i64 lfN, .int .i64 hdN]) (by kernel_rfl) (by kernel_rfl) rfl (fun j v hv => s.2.old (by rw [Nat.zero_add, hX j]; simpa using hv) (by simpa using n1))
            have kA : ∀ s : Cl wr [gZ] [], s.1.cell? ⟨g, off, none⟩ = some (.string a) := fun s => s.2.old hA0 (by simpa using n2)
            clear hX
            refine mixs_beginE (by kernel_rfl) hS ?_
            clear hS
            intro w8 hS hC
            refine mixs_take 0 (v := ?_) rfl (by kernel_rfl) (fun _ _ _ h => h) (by kernel_rfl) (by assumption) (fun s => ?hy) ?_; case hy => (refine Eq.trans (take_loadrow s rfl rfl kX) ?_; with_reducible rfl)
            try simp only [List.getElem_toArray, List.getElem_cons_succ, List.getElem_cons_zero, Act.put, List.setIfInBounds_toArray, List.set_cons_zero, List.set_cons_succ]
            refine mixs_take 1 (v := ?_) rfl (by kernel_rfl) (fun _ _ _ h => h) (by kernel_rfl) (by assumption) (fun s => ?hy) ?_; case hy => (go_simp <;> with_reducible rfl)
            try simp only [List.getElem_toArray, List.getElem_cons_succ, List.getElem_cons_zero, Act.put, List.setIfInBounds_toArray, List.set_cons_zero, List.set_cons_succ]
            refine mixs_take 2 (v := ?_) rfl (by kernel_rfl) (fun _ _ _ h => h) (by kernel_rfl) (by assumption) (fun s => ?hy) ?_; case hy => (go_simp <;> with_reducible rfl)
            try simp only [List.getElem_toArray, List.getElem_cons_succ, List.getElem_cons_zero, Act.put, List.setIfInBounds_toArray, List.set_cons_zero, List.set_cons_succ]
            refine mixs_take 3 (v := ?_) rfl (by kernel_rfl) (fun _ _ _ h => h) (by kernel_rfl) (by assumption) (fun s => ?hy) ?_; case hy => (go_simp <;> with_reducible rfl)
            try simp only [List.getElem_toArray, List.getElem_cons_succ, List.getElem_cons_zero, Act.put, List.setIfInBounds_toArray, List.set_cons_zero, List.set_cons_succ]
            refine mixs_take 4 (v := ?_) rfl (by kernel_rfl) (fun _ _ _ h => h) (by kernel_rfl) (by assumption) (fun s => ?hy) ?_; case hy => (go_simp <;> with_reducible rfl)
            try simp only [List.getElem_toArray, List.getElem_cons_succ, List.getElem_cons_zero, Act.put, List.setIfInBounds_toArray, List.set_cons_zero, List.set_cons_succ]
            refine mixs_take 5 (v := ?_) rfl (by kernel_rfl) (fun _ _ _ h => h) (by kernel_rfl) (by assumption) (fun s => ?hy) ?_; case hy => (go_simp <;> with_reducible rfl)
            try simp only [List.getElem_toArray, List.getElem_cons_succ, List.getElem_cons_zero, Act.put, List.setIfInBounds_toArray, List.set_cons_zero, List.set_cons_succ]
            refine mixs_take 6 (v := ?_) rfl (by kernel_rfl) (fun _ _ _ h => h) (by kernel_rfl) (by assumption) (fun s => ?hy) ?_; case hy => (go_simp <;> with_reducible rfl)
            try simp only [List.getElem_toArray, List.getElem_cons_succ, List.getElem_cons_zero, Act.put, List.setIfInBounds_toArray, List.set_cons_zero, List.set_cons_succ]
            refine mixs_one 7 (by kernel_rfl) rfl (fun K hK => ?_)
            ( first | ((with_reducible refine op_storerow_st (by kernel_rfl) 0 hS rfl rfl rfl (by kernel_rfl) rfl rfl rfl rfl ?_); intro w1 hS1; clear hS; have hS := hS1; clear hS1) )
            try clear hC
            refine hK.out _ _ _ (fun _ h => h) (by first | exact hS | exact hS.drop | exact hS.drop.drop | exact hS.drop.drop.drop | exact hS.drop.drop.drop.drop | exact hS.empty | exact hS.one 0 rfl | exact hS.one 1 rfl | exact hS.one 2 rfl | exact hS.one 3 rfl | exact hS.one 4 rfl | exact hS.one 5 rfl | exact hS.one 6 rfl | exact hS.one 7 rfl | exact hS.one 8 rfl | exact hS.one 9 rfl | exact hS.one 10 rfl | exact hS.one 11 rfl) (fun hC => ?_)
            clear hK K
            try simp only [List.getElem_toArray, List.getElem_cons_succ, List.getElem_cons_zero, Act.put, List.setIfInBounds_toArray, List.set_cons_zero, List.set_cons_succ]
            refine mixs_take 8 (v := ?_) rfl (by kernel_rfl) (fun _ _ _ h => h) (by kernel_rfl) (by assumption) (fun s => ?hy) ?_; case hy => (go_simp <;> with_reducible rfl)
            try simp only [List.getElem_toArray, List.getElem_cons_succ, List.getElem_cons_zero, Act.put, List.setIfInBounds_toArray, List.set_cons_zero, List.set_cons_succ]
            refine mixs_take 9 (v := ?_) rfl (by kernel_rfl) (fun _ _ _ h => h) (by kernel_rfl) (by assumption) (fun s => ?hy) ?_; case hy => (go_simp <;> with_reducible rfl)
            try simp only [List.getElem_toArray, List.getElem_cons_succ, List.getElem_cons_zero, Act.put, List.setIfInBounds_toArray, List.set_cons_zero, List.set_cons_succ]
            refine mixs_take 10 (v := ?_) rfl (by kernel_rfl) (fun _ _ _ h => h) (by kernel_rfl) (by assumption) (fun s => ?hy) ?_; case hy => (go_simp <;> with_reducible rfl)
            try simp only [List.getElem_toArray, List.getElem_cons_succ, List.getElem_cons_zero, Act.put, List.setIfInBounds_toArray, List.set_cons_zero, List.set_cons_succ]
            refine mixs_take 11 (v := ?_) rfl (by kernel_rfl) (fun _ _ _ h => h) (by kernel_rfl) (by assumption) (fun s => ?hy) ?_; case hy => (go_simp <;> with_reducible rfl)
            try simp only [List.getElem_toArray, List.getElem_cons_succ, List.getElem_cons_zero, Act.put, List.setIfInBounds_toArray, List.set_cons_zero, List.set_cons_succ]
            refine wpAnyH_done (by kernel_rfl) ?_ _
            simp only [List.set_cons_zero, List.take_zero, List.nil_append, List.length_cons, List.length_nil, List.drop_succ_cons, List.drop_zero, List.drop_nil, List.append_nil, List.cons_append, Nat.zero_add, Nat.reduceAdd] at hS
            have hW := call_blk hZ hS
            clear hS hC kX kA hZ
            go_wp2_with fail
            have c := hW.cell 0 rfl
            exact bodyPost_ret (v := .tuple #[.agg #[.int .i64 sq, .int .i64 lfN, .int .i64 hdN], .pointer (some ⟨gr, 0, none⟩), .string (restB a), _, .int .i64 0]) (by simp [results, Try.results94, go_sem, c]; rfl) rfl (hg.out _ _ (by simpa using hW.drop.drop1.drop1))
        · have hl0 : cv ≠ 1 := hc1
          subst hnl
          go_wp2_with fail
          have hlB : l.length + 1 ≤ 9223372036854775807 := by unfold maxLen at hcm; omega
          have hS0 := hS.nilrow 9 1
          go_loopg [12, 67] l.length (fun gk vr vx wr => ∃ (k : Nat) (acc : List ByteArray), k + gk = l.length ∧ vx = .int .i64 k ∧ Hid (vsteps (l.take k) = some acc) ∧ St w F (Ch.row 9 1 vr acc.length (acc.map vs) :: Ch.blk gN 50 #[.int .i64 sq, .int .i64 lfN, .int .i64 hdN] :: Ch.blk gZ 50 #[.int .i64 0, .int .i64 0, .int .i64 0] :: Ch.row 9 1 (.slice (some ⟨g, off, none⟩) (l.length + 1) cv) (l.length + 1) ((a :: l).map vs) :: rng gr bd ⟨2, size - 2, hdN, t, lfN⟩ :: (dks bd sv wv d ++ [])) wr)
          case atStart => exact ⟨0, [], Nat.zero_add _, rfl, Lib.hid rfl, hS0⟩
          case round =>
            clear hS hS0
            obtain ⟨i, acc, hin, rfl, hacc, hS⟩ := hrel
            obtain ⟨av2, cv2, rfl, -, -, hmc, hmm⟩ := hS.row 0 rfl
            have hsl2 := hS.rowsl 3 rfl
            have hA0 := hsl2.add 0 _ rfl
            rw [Addr.add_lit, Nat.add_zero] at hA0
            by_cases hlt : i < l.length
            · have hci := hsl2.add (i + 1) (vs l[i]) (by simp [List.getElem?_eq_getElem hlt])
              rw [Addr.add_lit] at hci
              have hci2 : wr.cell? ⟨g, off + 1 + i, none⟩ = some (.string l[i]) := by rw [show off + 1 + i = off + (i + 1) by omega]; exact hci
              have hst := vsteps_app (l.take i) l[i]
              rw [hacc.out, ← List.take_succ_eq_append_getElem hlt] at hst
              have hbd := vsteps_none (l := l) (k := i + 1)
              generalize l[i] = s at *
              clear hci
              by_cases hs0 : s.size = 0
              · have hsl : s.toList = [] := by rw [ByteArray.toList_eq]; exact List.length_eq_zero_iff.1 (by rw [Array.length_toList]; exact hs0)
                rw [Option.bind_some, if_pos (.inl hs0)] at hst
                have hbd2 := hbd hst
                replace hst := Lib.hid hst
                clear hbd
                go_wp2_with (first | (with_reducible refine wpList_box_st hS rfl rfl rfl ?_; intro g1 w1 hS1; clear hS; replace hS := hS1; clear hS1) | (with_reducible refine wpList_box1_st hS rfl rfl rfl ?_; intro g1 w1 hS1; clear hS; replace hS := hS1; clear hS1) | (with_reducible refine wpList_alloc_st hS rfl rfl (by assumption) ?_; intro g1 w1 hS1; clear hS; replace hS := hS1; clear hS1) | (with_reducible refine wpList_alloc1_st hS rfl rfl (by assumption) rfl ?_; intro g1 w1 hS1; clear hS; replace hS := hS1; clear hS1) | ((with_reducible refine wpList_load_st 0 hS rfl rfl rfl rfl ?_ rfl ?_); focus (simp [scalarB, go_sem]; done)) | ((with_reducible refine wpList_loadall_st 0 hS rfl rfl rfl rfl ?_ (by kernel_rfl) ?_); focus (simp [rowB, go_sem]; done)) | ((with_reducible refine wpList_store_st 0 hS rfl rfl rfl rfl (by kernel_rfl) rfl rfl ?_); intro w1 hS1; clear hS; replace hS := hS1; clear hS1; try simp only [List.set_cons_zero, List.set_cons_succ, List.setIfInBounds_toArray, List.take_succ_cons, List.take_zero, List.drop_succ_cons, List.drop_zero, List.nil_append, List.cons_append, List.append_nil, List.drop_nil, List.take_nil, List.length_cons, List.length_nil, Nat.zero_add, Nat.add_zero, Nat.reduceAdd] at hS) | ((with_reducible refine wpList_storerow_st 0 hS rfl rfl rfl rfl (by kernel_rfl) rfl rfl rfl rfl ?_); intro w1 hS1; clear hS; replace hS := hS1; clear hS1; try simp only [List.set_cons_zero, List.set_cons_succ, List.setIfInBounds_toArray, List.take_succ_cons, List.take_zero, List.drop_succ_cons, List.drop_zero, List.nil_append, List.cons_append, List.append_nil, List.drop_nil, List.take_nil, List.length_cons, List.length_nil, Nat.zero_add, Nat.add_zero, Nat.reduceAdd] at hS) | ((with_reducible refine wpList_load_st 1 hS rfl rfl rfl rfl ?_ rfl ?_); focus (simp [scalarB, go_sem]; done)) | ((with_reducible refine wpList_loadall_st 1 hS rfl rfl rfl rfl ?_ (by kernel_rfl) ?_); focus (simp [rowB, go_sem]; done)) | ((with_reducible refine wpList_store_st 1 hS rfl rfl rfl rfl (by kernel_rfl) rfl rfl ?_); intro w1 hS1; clear hS; replace hS := hS1; clear hS1; try simp only [List.set_cons_zero, List.set_cons_succ, List.setIfInBounds_toArray, List.take_succ_cons, List.take_zero, List.drop_succ_cons, List.drop_zero, List.nil_append, List.cons_append, List.append_nil, List.drop_nil, List.take_nil, List.length_cons, List.length_nil, Nat.zero_add, Nat.add_zero, Nat.reduceAdd] at hS) | ((with_reducible refine wpList_storerow_st 1 hS rfl rfl rfl rfl (by kernel_rfl) rfl rfl rfl rfl ?_); intro w1 hS1; clear hS; replace hS := hS1; clear hS1; try simp only [List.set_cons_zero, List.set_cons_succ, List.setIfInBounds_toArray, List.take_succ_cons, List.take_zero, List.drop_succ_cons, List.drop_zero, List.nil_append, List.cons_append, List.append_nil, List.drop_nil, List.take_nil, List.length_cons, List.length_nil, Nat.zero_add, Nat.add_zero, Nat.reduceAdd] at hS) | ((with_reducible refine wpList_load_st 2 hS rfl rfl rfl rfl ?_ rfl ?_); focus (simp [scalarB, go_sem]; done)) | ((with_reducible refine wpList_loadall_st 2 hS rfl rfl rfl rfl ?_ (by kernel_rfl) ?_); focus (simp [rowB, go_sem]; done)) | ((with_reducible refine wpList_store_st 2 hS rfl rfl rfl rfl (by kernel_rfl) rfl rfl ?_); intro w1 hS1; clear hS; replace hS := hS1; clear hS1; try simp only [List.set_cons_zero, List.set_cons_succ, List.setIfInBounds_toArray, List.take_succ_cons, List.take_zero, List.drop_succ_cons, List.drop_zero, List.nil_append, List.cons_append, List.append_nil, List.drop_nil, List.take_nil, List.length_cons, List.length_nil, Nat.zero_add, Nat.add_zero, Nat.reduceAdd] at hS) | ((with_reducible refine wpList_storerow_st 2 hS rfl rfl rfl rfl (by kernel_rfl) rfl rfl rfl rfl ?_); intro w1 hS1; clear hS; replace hS := hS1; clear hS1; try simp only [List.set_cons_zero, List.set_cons_succ, List.setIfInBounds_toArray, List.take_succ_cons, List.take_zero, List.drop_succ_cons, List.drop_zero, List.nil_append, List.cons_append, List.append_nil, List.drop_nil, List.take_nil, List.length_cons, List.length_nil, Nat.zero_add, Nat.add_zero, Nat.reduceAdd] at hS))
                have c := hS.cell 2 rfl
                exact bodyPost_ret (v := .tuple #[.agg #[.int .i64 0, .int .i64 0, .int .i64 0], .pointer none, .string ⟨#[]⟩, .slice none 0 0, .int .i64 16]) (by simp [results, Try.results94, go_sem, c]) rfl (hbad.out hbd2 _ (by simpa using hS.drop.drop.drop.drop.drop))
              · have hsle : s.toList.isEmpty = false := by
                  rw [List.isEmpty_eq_false_iff, ByteArray.toList_eq]
                  intro e
                  have := congrArg List.length e
                  rw [Array.length_toList] at this
                  exact hs0 this
                have hsln : ¬ s.toList = [] := fun e => by rw [e] at hsle; cases hsle
                have hss : (1 : Int) ≤ (s.size : Int) := by omega
                rw [Option.bind_some] at hst
                replace hst := Lib.hid hst
                replace hbd := Lib.hid hbd
                replace hs0 := Lib.hid hs0
                have hex1 := first_one hs0.out
                have hlt1 := less_one hs0.out
                rcases Nat.lt_trichotomy (firstB s) 1 with hf | hf | hf
                · have hq : ((s.extract 0 1).toList == [1]) = false := by rw [beq_eq_false_iff_ne]; exact fun e => by have := hex1.2 e; omega
                  have hq2 : Op.bytesLess (s.extract 0 1).toList [1] = true := by rw [hlt1]; exact decide_eq_true (by omega)
                  have hst2 := hst.out
                  rw [if_neg (by have := hs0.out; omega), if_neg (by omega)] at hst2
                  replace hst2 := Lib.hid hst2
                  clear hex1 hlt1 hst hbd
                  replace hf := Lib.hid hf
                  go_wp2_with (first | (with_reducible refine wpList_box_st hS rfl rfl rfl ?_; intro g1 w1 hS1; clear hS; replace hS := hS1; clear hS1) | (with_reducible refine wpList_box1_st hS rfl rfl rfl ?_; intro g1 w1 hS1; clear hS; replace hS := hS1; clear hS1) | (with_reducible refine wpList_alloc_st hS rfl rfl (by assumption) ?_; intro g1 w1 hS1; clear hS; replace hS := hS1; clear hS1) | (with_reducible refine wpList_alloc1_st hS rfl rfl (by assumption) rfl ?_; intro g1 w1 hS1; clear hS; replace hS := hS1; clear hS1) | ((with_reducible refine wpList_load_st 0 hS rfl rfl rfl rfl ?_ rfl ?_); focus (simp [scalarB, go_sem]; done)) | ((with_reducible refine wpList_loadall_st 0 hS rfl rfl rfl rfl ?_ (by kernel_rfl) ?_); focus (simp [rowB, go_sem]; done)) | ((with_reducible refine wpList_store_st 0 hS rfl rfl rfl rfl (by kernel_rfl) rfl rfl ?_); intro w1 hS1; clear hS; replace hS := hS1; clear hS1; try simp only [List.set_cons_zero, List.set_cons_succ, List.setIfInBounds_toArray, List.take_succ_cons, List.take_zero, List.drop_succ_cons, List.drop_zero, List.nil_append, List.cons_append, List.append_nil, List.drop_nil, List.take_nil, List.length_cons, List.length_nil, Nat.zero_add, Nat.add_zero, Nat.reduceAdd] at hS) | ((with_reducible refine wpList_storerow_st 0 hS rfl rfl rfl rfl (by kernel_rfl) rfl rfl rfl rfl ?_); intro w1 hS1; clear hS; replace hS := hS1; clear hS1; try simp only [List.set_cons_zero, List.set_cons_succ, List.setIfInBounds_toArray, List.take_succ_cons, List.take_zero, List.drop_succ_cons, List.drop_zero, List.nil_append, List.cons_append, List.append_nil, List.drop_nil, List.take_nil, List.length_cons, List.length_nil, Nat.zero_add, Nat.add_zero, Nat.reduceAdd] at hS) | ((with_reducible refine wpList_load_st 1 hS rfl rfl rfl rfl ?_ rfl ?_); focus (simp [scalarB, go_sem]; done)) | ((with_reducible refine wpList_loadall_st 1 hS rfl rfl rfl rfl ?_ (by kernel_rfl) ?_); focus (simp [rowB, go_sem]; done)) | ((with_reducible refine wpList_store_st 1 hS rfl rfl rfl rfl (by kernel_rfl) rfl rfl ?_); intro w1 hS1; clear hS; replace hS := hS1; clear hS1; try simp only [List.set_cons_zero, List.set_cons_succ, List.setIfInBounds_toArray, List.take_succ_cons, List.take_zero, List.drop_succ_cons, List.drop_zero, List.nil_append, List.cons_append, List.append_nil, List.drop_nil, List.take_nil, List.length_cons, List.length_nil, Nat.zero_add, Nat.add_zero, Nat.reduceAdd] at hS) | ((with_reducible refine wpList_storerow_st 1 hS rfl rfl rfl rfl (by kernel_rfl) rfl rfl rfl rfl ?_); intro w1 hS1; clear hS; replace hS := hS1; clear hS1; try simp only [List.set_cons_zero, List.set_cons_succ, List.setIfInBounds_toArray, List.take_succ_cons, List.take_zero, List.drop_succ_cons, List.drop_zero, List.nil_append, List.cons_append, List.append_nil, List.drop_nil, List.take_nil, List.length_cons, List.length_nil, Nat.zero_add, Nat.add_zero, Nat.reduceAdd] at hS) | ((with_reducible refine wpList_load_st 2 hS rfl rfl rfl rfl ?_ rfl ?_); focus (simp [scalarB, go_sem]; done)) | ((with_reducible refine wpList_loadall_st 2 hS rfl rfl rfl rfl ?_ (by kernel_rfl) ?_); focus (simp [rowB, go_sem]; done)) | ((with_reducible refine wpList_store_st 2 hS rfl rfl rfl rfl (by kernel_rfl) rfl rfl ?_); intro w1 hS1; clear hS; replace hS := hS1; clear hS1; try simp only [List.set_cons_zero, List.set_cons_succ, List.setIfInBounds_toArray, List.take_succ_cons, List.take_zero, List.drop_succ_cons, List.drop_zero, List.nil_append, List.cons_append, List.append_nil, List.drop_nil, List.take_nil, List.length_cons, List.length_nil, Nat.zero_add, Nat.add_zero, Nat.reduceAdd] at hS) | ((with_reducible refine wpList_storerow_st 2 hS rfl rfl rfl rfl (by kernel_rfl) rfl rfl rfl rfl ?_); intro w1 hS1; clear hS; replace hS := hS1; clear hS1; try simp only [List.set_cons_zero, List.set_cons_succ, List.setIfInBounds_toArray, List.take_succ_cons, List.take_zero, List.drop_succ_cons, List.drop_zero, List.nil_append, List.cons_append, List.append_nil, List.drop_nil, List.take_nil, List.length_cons, List.length_nil, Nat.zero_add, Nat.add_zero, Nat.reduceAdd] at hS))
                  go_roundg (l.length - (i + 1))
                  case measure => omega
                  case rel => exact ⟨i + 1, acc, by omega, by go_num, hst2, hS⟩
                · have hq : ((s.extract 0 1).toList == [1]) = true := by rw [beq_iff_eq]; exact hex1.1 hf
                  have hq2 : Op.bytesLess (s.extract 0 1).toList [1] = false := by rw [hlt1]; exact decide_eq_false (by omega)
                  have hst2 := hst.out
                  rw [if_neg (by have := hs0.out; omega), if_pos (by omega)] at hst2
                  replace hst2 := Lib.hid hst2
                  clear hex1 hlt1 hst hbd
                  replace hf := Lib.hid hf
                  have hacl : acc.length ≤ i := vsteps_len hacc.out (by rw [List.length_take]; omega)
                  have hrs : s.extract 1 s.size = restB s := rfl
                  have hne1 : ∀ u ∈ [Value.string (restB s)], u.oneCell' = true := fun u hu => by simp at hu; subst hu; rfl
                  go_wp2_with (first
                    | ((with_reducible refine wpList_build1c_st hS rfl rfl Try.underlying26 ex rfl ?_); intro g21 w21 hS1; clear hS; have hS := hS1; clear hS1)
                    | (at_builtin; (with_reducible refine wpList_app_st (news := [.string (restB s)]) 1 hS rfl rfl rfl Try.underlying26 ex rfl (Src.slice Try.underlying26 (hS.blksl2 0 rfl) rfl) rfl hne1 (by omega) (by unfold maxLen; omega) ?_); intro v5 w3 hS1; clear hS; have hS := hS1; clear hS1; simp only [List.set_cons_zero, List.set_cons_succ] at hS; obtain ⟨a5, c5, rfl, -⟩ := hS.row 1 rfl)
                    | (with_reducible refine wpList_box_st hS rfl rfl rfl ?_; intro g1 w1 hS1; clear hS; replace hS := hS1; clear hS1) | (with_reducible refine wpList_box1_st hS rfl rfl rfl ?_; intro g1 w1 hS1; clear hS; replace hS := hS1; clear hS1) | (with_reducible refine wpList_alloc_st hS rfl rfl (by assumption) ?_; intro g1 w1 hS1; clear hS; replace hS := hS1; clear hS1) | (with_reducible refine wpList_alloc1_st hS rfl rfl (by assumption) rfl ?_; intro g1 w1 hS1; clear hS; replace hS := hS1; clear hS1) | ((with_reducible refine wpList_load_st 0 hS rfl rfl rfl rfl ?_ rfl ?_); focus (simp [scalarB, go_sem]; done)) | ((with_reducible refine wpList_loadall_st 0 hS rfl rfl rfl rfl ?_ (by kernel_rfl) ?_); focus (simp [rowB, go_sem]; done)) | ((with_reducible refine wpList_store_st 0 hS rfl rfl rfl rfl (by kernel_rfl) rfl rfl ?_); intro w1 hS1; clear hS; replace hS := hS1; clear hS1; try simp only [List.set_cons_zero, List.set_cons_succ, List.setIfInBounds_toArray, List.take_succ_cons, List.take_zero, List.drop_succ_cons, List.drop_zero, List.nil_append, List.cons_append, List.append_nil, List.drop_nil, List.take_nil, List.length_cons, List.length_nil, Nat.zero_add, Nat.add_zero, Nat.reduceAdd] at hS) | ((with_reducible refine wpList_storerow_st 0 hS rfl rfl rfl rfl (by kernel_rfl) rfl rfl rfl rfl ?_); intro w1 hS1; clear hS; replace hS := hS1; clear hS1; try simp only [List.set_cons_zero, List.set_cons_succ, List.setIfInBounds_toArray, List.take_succ_cons, List.take_zero, List.drop_succ_cons, List.drop_zero, List.nil_append, List.cons_append, List.append_nil, List.drop_nil, List.take_nil, List.length_cons, List.length_nil, Nat.zero_add, Nat.add_zero, Nat.reduceAdd] at hS) | ((with_reducible refine wpList_load_st 1 hS rfl rfl rfl rfl ?_ rfl ?_); focus (simp [scalarB, go_sem]; done)) | ((with_reducible refine wpList_loadall_st 1 hS rfl rfl rfl rfl ?_ (by kernel_rfl) ?_); focus (simp [rowB, go_sem]; done)) | ((with_reducible refine wpList_store_st 1 hS rfl rfl rfl rfl (by kernel_rfl) rfl rfl ?_); intro w1 hS1; clear hS; replace hS := hS1; clear hS1; try simp only [List.set_cons_zero, List.set_cons_succ, List.setIfInBounds_toArray, List.take_succ_cons, List.take_zero, List.drop_succ_cons, List.drop_zero, List.nil_append, List.cons_append, List.append_nil, List.drop_nil, List.take_nil, List.length_cons, List.length_nil, Nat.zero_add, Nat.add_zero, Nat.reduceAdd] at hS) | ((with_reducible refine wpList_storerow_st 1 hS rfl rfl rfl rfl (by kernel_rfl) rfl rfl rfl rfl ?_); intro w1 hS1; clear hS; replace hS := hS1; clear hS1; try simp only [List.set_cons_zero, List.set_cons_succ, List.setIfInBounds_toArray, List.take_succ_cons, List.take_zero, List.drop_succ_cons, List.drop_zero, List.nil_append, List.cons_append, List.append_nil, List.drop_nil, List.take_nil, List.length_cons, List.length_nil, Nat.zero_add, Nat.add_zero, Nat.reduceAdd] at hS) | ((with_reducible refine wpList_load_st 2 hS rfl rfl rfl rfl ?_ rfl ?_); focus (simp [scalarB, go_sem]; done)) | ((with_reducible refine wpList_loadall_st 2 hS rfl rfl rfl rfl ?_ (by kernel_rfl) ?_); focus (simp [rowB, go_sem]; done)) | ((with_reducible refine wpList_store_st 2 hS rfl rfl rfl rfl (by kernel_rfl) rfl rfl ?_); intro w1 hS1; clear hS; replace hS := hS1; clear hS1; try simp only [List.set_cons_zero, List.set_cons_succ, List.setIfInBounds_toArray, List.take_succ_cons, List.take_zero, List.drop_succ_cons, List.drop_zero, List.nil_append, List.cons_append, List.append_nil, List.drop_nil, List.take_nil, List.length_cons, List.length_nil, Nat.zero_add, Nat.add_zero, Nat.reduceAdd] at hS) | ((with_reducible refine wpList_storerow_st 2 hS rfl rfl rfl rfl (by kernel_rfl) rfl rfl rfl rfl ?_); intro w1 hS1; clear hS; replace hS := hS1; clear hS1; try simp only [List.set_cons_zero, List.set_cons_succ, List.setIfInBounds_toArray, List.take_succ_cons, List.take_zero, List.drop_succ_cons, List.drop_zero, List.nil_append, List.cons_append, List.append_nil, List.drop_nil, List.take_nil, List.length_cons, List.length_nil, Nat.zero_add, Nat.add_zero, Nat.reduceAdd] at hS))
                  go_roundg (l.length - (i + 1))
                  case measure => omega
                  case rel => exact ⟨i + 1, acc ++ [restB s], by omega, by go_num, hst2, by simpa [vs] using hS.drop⟩
                · have hq : ((s.extract 0 1).toList == [1]) = false := by rw [beq_eq_false_iff_ne]; exact fun e => by have := hex1.2 e; omega
                  have hq2 : Op.bytesLess (s.extract 0 1).toList [1] = false := by rw [hlt1]; exact decide_eq_false (by omega)
                  have hst2 := hst.out
                  rw [if_pos (.inr hf)] at hst2
                  have hbd2 := hbd.out hst2
                  clear hex1 hlt1 hst hbd
                  replace hf := Lib.hid hf
                  replace hst2 := Lib.hid hst2
                  go_wp2_with (first | (with_reducible refine wpList_box_st hS rfl rfl rfl ?_; intro g1 w1 hS1; clear hS; replace hS := hS1; clear hS1) | (with_reducible refine wpList_box1_st hS rfl rfl rfl ?_; intro g1 w1 hS1; clear hS; replace hS := hS1; clear hS1) | (with_reducible refine wpList_alloc_st hS rfl rfl (by assumption) ?_; intro g1 w1 hS1; clear hS; replace hS := hS1; clear hS1) | (with_reducible refine wpList_alloc1_st hS rfl rfl (by assumption) rfl ?_; intro g1 w1 hS1; clear hS; replace hS := hS1; clear hS1) | ((with_reducible refine wpList_load_st 0 hS rfl rfl rfl rfl ?_ rfl ?_); focus (simp [scalarB, go_sem]; done)) | ((with_reducible refine wpList_loadall_st 0 hS rfl rfl rfl rfl ?_ (by kernel_rfl) ?_); focus (simp [rowB, go_sem]; done)) | ((with_reducible refine wpList_store_st 0 hS rfl rfl rfl rfl (by kernel_rfl) rfl rfl ?_); intro w1 hS1; clear hS; replace hS := hS1; clear hS1; try simp only [List.set_cons_zero, List.set_cons_succ, List.setIfInBounds_toArray, List.take_succ_cons, List.take_zero, List.drop_succ_cons, List.drop_zero, List.nil_append, List.cons_append, List.append_nil, List.drop_nil, List.take_nil, List.length_cons, List.length_nil, Nat.zero_add, Nat.add_zero, Nat.reduceAdd] at hS) | ((with_reducible refine wpList_storerow_st 0 hS rfl rfl rfl rfl (by kernel_rfl) rfl rfl rfl rfl ?_); intro w1 hS1; clear hS; replace hS := hS1; clear hS1; try simp only [List.set_cons_zero, List.set_cons_succ, List.setIfInBounds_toArray, List.take_succ_cons, List.take_zero, List.drop_succ_cons, List.drop_zero, List.nil_append, List.cons_append, List.append_nil, List.drop_nil, List.take_nil, List.length_cons, List.length_nil, Nat.zero_add, Nat.add_zero, Nat.reduceAdd] at hS) | ((with_reducible refine wpList_load_st 1 hS rfl rfl rfl rfl ?_ rfl ?_); focus (simp [scalarB, go_sem]; done)) | ((with_reducible refine wpList_loadall_st 1 hS rfl rfl rfl rfl ?_ (by kernel_rfl) ?_); focus (simp [rowB, go_sem]; done)) | ((with_reducible refine wpList_store_st 1 hS rfl rfl rfl rfl (by kernel_rfl) rfl rfl ?_); intro w1 hS1; clear hS; replace hS := hS1; clear hS1; try simp only [List.set_cons_zero, List.set_cons_succ, List.setIfInBounds_toArray, List.take_succ_cons, List.take_zero, List.drop_succ_cons, List.drop_zero, List.nil_append, List.cons_append, List.append_nil, List.drop_nil, List.take_nil, List.length_cons, List.length_nil, Nat.zero_add, Nat.add_zero, Nat.reduceAdd] at hS) | ((with_reducible refine wpList_storerow_st 1 hS rfl rfl rfl rfl (by kernel_rfl) rfl rfl rfl rfl ?_); intro w1 hS1; clear hS; replace hS := hS1; clear hS1; try simp only [List.set_cons_zero, List.set_cons_succ, List.setIfInBounds_toArray, List.take_succ_cons, List.take_zero, List.drop_succ_cons, List.drop_zero, List.nil_append, List.cons_append, List.append_nil, List.drop_nil, List.take_nil, List.length_cons, List.length_nil, Nat.zero_add, Nat.add_zero, Nat.reduceAdd] at hS) | ((with_reducible refine wpList_load_st 2 hS rfl rfl rfl rfl ?_ rfl ?_); focus (simp [scalarB, go_sem]; done)) | ((with_reducible refine wpList_loadall_st 2 hS rfl rfl rfl rfl ?_ (by kernel_rfl) ?_); focus (simp [rowB, go_sem]; done)) | ((with_reducible refine wpList_store_st 2 hS rfl rfl rfl rfl (by kernel_rfl) rfl rfl ?_); intro w1 hS1; clear hS; replace hS := hS1; clear hS1; try simp only [List.set_cons_zero, List.set_cons_succ, List.setIfInBounds_toArray, List.take_succ_cons, List.take_zero, List.drop_succ_cons, List.drop_zero, List.nil_append, List.cons_append, List.append_nil, List.drop_nil, List.take_nil, List.length_cons, List.length_nil, Nat.zero_add, Nat.add_zero, Nat.reduceAdd] at hS) | ((with_reducible refine wpList_storerow_st 2 hS rfl rfl rfl rfl (by kernel_rfl) rfl rfl rfl rfl ?_); intro w1 hS1; clear hS; replace hS := hS1; clear hS1; try simp only [List.set_cons_zero, List.set_cons_succ, List.setIfInBounds_toArray, List.take_succ_cons, List.take_zero, List.drop_succ_cons, List.drop_zero, List.nil_append, List.cons_append, List.append_nil, List.drop_nil, List.take_nil, List.length_cons, List.length_nil, Nat.zero_add, Nat.add_zero, Nat.reduceAdd] at hS))
                  have c := hS.cell 2 rfl
                  exact bodyPost_ret (v := .tuple #[.agg #[.int .i64 0, .int .i64 0, .int .i64 0], .pointer none, .string ⟨#[]⟩, .slice none 0 0, .int .i64 16]) (by simp [results, Try.results94, go_sem, c]) rfl (hbad.out hbd2 _ (by simpa using hS.drop.drop.drop.drop.drop))
            · have hil : i = l.length := by omega
              have hm := hacc.out
              rw [hil, List.take_length] at hm
              clear hacc hil
              go_wp2_with fail
              have hg := hgood.out _ hm
              replace hg := Lib.hid hg
              have hX := hS.cell 1 rfl
              have n1 : gN ≠ gZ := fun e => hS.apart 1 2 _ _ rfl rfl (by decide) gN (by simp [Ch.blk]) (by simp [Ch.blk, e])
              have n2 : g ≠ gZ := fun e => hS.apart 3 2 _ _ rfl rfl (by decide) g (by simp [Ch.row, Value.ownBlock]) (by simp [Ch.blk, e])
              have hZ := mid_three hS
              clear hS hm
              have hS := pre_blk hZ
              have kX : ∀ s : Cl wr [gZ] [], (Instr.loadAt 50 (.pointer (some ⟨gN, 0, none⟩))).run Try.prog s.1 = .ok (.agg #[.int .i64 sq, .int .i64 lfN, .int .i64 hdN]) s.1 := fun s => run_loadrow (n := 3) (vs := [.int .i64 sq, .int .i64 lfN, .int .i64 hdN]) (by kernel_rfl) (by kernel_rfl) rfl (fun j v hv => s.2.old (by rw [Nat.zero_add, hX j]; simpa using hv) (by simpa using n1))
              have kA : ∀ s : Cl wr [gZ] [], s.1.cell? ⟨g, off, none⟩ = some (.string a) := fun s => s.2.old hA0 (by simpa using n2)
              clear hX
              refine mixs_beginE (by kernel_rfl) hS ?_
              clear hS
              intro w8 hS hC
              refine mixs_take 0 (v := ?_) rfl (by kernel_rfl) (fun _ _ _ h => h) (by kernel_rfl) (by assumption) (fun s => ?hy) ?_; case hy => (refine Eq.trans (take_loadrow s rfl rfl kX) ?_; with_reducible rfl)
              try simp only [List.getElem_toArray, List.getElem_cons_succ, List.getElem_cons_zero, Act.put, List.setIfInBounds_toArray, List.set_cons_zero, List.set_cons_succ]
              refine mixs_take 1 (v := ?_) rfl (by kernel_rfl) (fun _ _ _ h => h) (by kernel_rfl) (by assumption) (fun s => ?hy) ?_; case hy => (go_simp <;> with_reducible rfl)
              try simp only [List.getElem_toArray, List.getElem_cons_succ, List.getElem_cons_zero, Act.put, List.setIfInBounds_toArray, List.set_cons_zero, List.set_cons_succ]
              refine mixs_take 2 (v := ?_) rfl (by kernel_rfl) (fun _ _ _ h => h) (by kernel_rfl) (by assumption) (fun s => ?hy) ?_; case hy => (go_simp <;> with_reducible rfl)
              try simp only [List.getElem_toArray, List.getElem_cons_succ, List.getElem_cons_zero, Act.put, List.setIfInBounds_toArray, List.set_cons_zero, List.set_cons_succ]
              refine mixs_take 3 (v := ?_) rfl (by kernel_rfl) (fun _ _ _ h => h) (by kernel_rfl) (by assumption) (fun s => ?hy) ?_; case hy => (go_simp <;> with_reducible rfl)
              try simp only [List.getElem_toArray, List.getElem_cons_succ, List.getElem_cons_zero, Act.put, List.setIfInBounds_toArray, List.set_cons_zero, List.set_cons_succ]
              refine mixs_take 4 (v := ?_) rfl (by kernel_rfl) (fun _ _ _ h => h) (by kernel_rfl) (by assumption) (fun s => ?hy) ?_; case hy => (go_simp <;> with_reducible rfl)
              try simp only [List.getElem_toArray, List.getElem_cons_succ, List.getElem_cons_zero, Act.put, List.setIfInBounds_toArray, List.set_cons_zero, List.set_cons_succ]
              refine mixs_take 5 (v := ?_) rfl (by kernel_rfl) (fun _ _ _ h => h) (by kernel_rfl) (by assumption) (fun s => ?hy) ?_; case hy => (go_simp <;> with_reducible rfl)
              try simp only [List.getElem_toArray, List.getElem_cons_succ, List.getElem_cons_zero, Act.put, List.setIfInBounds_toArray, List.set_cons_zero, List.set_cons_succ]
              refine mixs_take 6 (v := ?_) rfl (by kernel_rfl) (fun _ _ _ h => h) (by kernel_rfl) (by assumption) (fun s => ?hy) ?_; case hy => (go_simp <;> with_reducible rfl)
              try simp only [List.getElem_toArray, List.getElem_cons_succ, List.getElem_cons_zero, Act.put, List.setIfInBounds_toArray, List.set_cons_zero, List.set_cons_succ]
              refine mixs_one 7 (by kernel_rfl) rfl (fun K hK => ?_)
              ( first | ((with_reducible refine op_storerow_st (by kernel_rfl) 0 hS rfl rfl rfl (by kernel_rfl) rfl rfl rfl rfl ?_); intro w1 hS1; clear hS; have hS := hS1; clear hS1) )
              try clear hC
              refine hK.out _ _ _ (fun _ h => h) (by first | exact hS | exact hS.drop | exact hS.drop.drop | exact hS.drop.drop.drop | exact hS.drop.drop.drop.drop | exact hS.empty | exact hS.one 0 rfl | exact hS.one 1 rfl | exact hS.one 2 rfl | exact hS.one 3 rfl | exact hS.one 4 rfl | exact hS.one 5 rfl | exact hS.one 6 rfl | exact hS.one 7 rfl | exact hS.one 8 rfl | exact hS.one 9 rfl | exact hS.one 10 rfl | exact hS.one 11 rfl) (fun hC => ?_)
              clear hK K
              try simp only [List.getElem_toArray, List.getElem_cons_succ, List.getElem_cons_zero, Act.put, List.setIfInBounds_toArray, List.set_cons_zero, List.set_cons_succ]
              refine mixs_take 8 (v := ?_) rfl (by kernel_rfl) (fun _ _ _ h => h) (by kernel_rfl) (by assumption) (fun s => ?hy) ?_; case hy => (go_simp <;> with_reducible rfl)
              try simp only [List.getElem_toArray, List.getElem_cons_succ, List.getElem_cons_zero, Act.put, List.setIfInBounds_toArray, List.set_cons_zero, List.set_cons_succ]
              refine mixs_take 9 (v := ?_) rfl (by kernel_rfl) (fun _ _ _ h => h) (by kernel_rfl) (by assumption) (fun s => ?hy) ?_; case hy => (go_simp <;> with_reducible rfl)
              try simp only [List.getElem_toArray, List.getElem_cons_succ, List.getElem_cons_zero, Act.put, List.setIfInBounds_toArray, List.set_cons_zero, List.set_cons_succ]
              refine mixs_take 10 (v := ?_) rfl (by kernel_rfl) (fun _ _ _ h => h) (by kernel_rfl) (by assumption) (fun s => ?hy) ?_; case hy => (go_simp <;> with_reducible rfl)
              try simp only [List.getElem_toArray, List.getElem_cons_succ, List.getElem_cons_zero, Act.put, List.setIfInBounds_toArray, List.set_cons_zero, List.set_cons_succ]
              refine mixs_take 11 (v := ?_) rfl (by kernel_rfl) (fun _ _ _ h => h) (by kernel_rfl) (by assumption) (fun s => ?hy) ?_; case hy => (go_simp <;> with_reducible rfl)
              try simp only [List.getElem_toArray, List.getElem_cons_succ, List.getElem_cons_zero, Act.put, List.setIfInBounds_toArray, List.set_cons_zero, List.set_cons_succ]
              refine wpAnyH_done (by kernel_rfl) ?_ _
              simp only [List.set_cons_zero, List.take_zero, List.nil_append, List.length_cons, List.length_nil, List.drop_succ_cons, List.drop_zero, List.drop_nil, List.append_nil, List.cons_append, Nat.zero_add, Nat.reduceAdd] at hS
              have hW := call_blk hZ hS
              clear hS hC kX kA hZ
              go_wp2_with fail
              have c := hW.cell 0 rfl
              exact bodyPost_ret (v := .tuple #[.agg #[.int .i64 sq, .int .i64 lfN, .int .i64 hdN], .pointer (some ⟨gr, 0, none⟩), .string (restB a), _, .int .i64 0]) (by simp [results, Try.results94, go_sem, c]; rfl) rfl (hg.out _ _ (by simpa using hW.drop.drop1.drop1))
      · have hex : ((a.extract 0 1).toList == [0]) = false := by rw [beq_eq_false_iff_ne]; exact fun e => hf0 ((first_zero ha0).2 e)
        have hsp : splitB (a :: l) = none := by rw [splitB, if_pos (.inr hf0)]
        replace hnl := Lib.hid hnl
        replace hf0 := Lib.hid hf0
        replace ha0 := Lib.hid ha0
        go_wp2_with (first | (with_reducible refine wpList_box_st hS rfl rfl rfl ?_; intro g1 w1 hS1; clear hS; replace hS := hS1; clear hS1) | (with_reducible refine wpList_box1_st hS rfl rfl rfl ?_; intro g1 w1 hS1; clear hS; replace hS := hS1; clear hS1) | (with_reducible refine wpList_alloc_st hS rfl rfl (by assumption) ?_; intro g1 w1 hS1; clear hS; replace hS := hS1; clear hS1) | (with_reducible refine wpList_alloc1_st hS rfl rfl (by assumption) rfl ?_; intro g1 w1 hS1; clear hS; replace hS := hS1; clear hS1) | ((with_reducible refine wpList_load_st 0 hS rfl rfl rfl rfl ?_ rfl ?_); focus (simp [scalarB, go_sem]; done)) | ((with_reducible refine wpList_loadall_st 0 hS rfl rfl rfl rfl ?_ (by kernel_rfl) ?_); focus (simp [rowB, go_sem]; done)) | ((with_reducible refine wpList_store_st 0 hS rfl rfl rfl rfl (by kernel_rfl) rfl rfl ?_); intro w1 hS1; clear hS; replace hS := hS1; clear hS1; try simp only [List.set_cons_zero, List.set_cons_succ, List.setIfInBounds_toArray, List.take_succ_cons, List.take_zero, List.drop_succ_cons, List.drop_zero, List.nil_append, List.cons_append, List.append_nil, List.drop_nil, List.take_nil, List.length_cons, List.length_nil, Nat.zero_add, Nat.add_zero, Nat.reduceAdd] at hS) | ((with_reducible refine wpList_storerow_st 0 hS rfl rfl rfl rfl (by kernel_rfl) rfl rfl rfl rfl ?_); intro w1 hS1; clear hS; replace hS := hS1; clear hS1; try simp only [List.set_cons_zero, List.set_cons_succ, List.setIfInBounds_toArray, List.take_succ_cons, List.take_zero, List.drop_succ_cons, List.drop_zero, List.nil_append, List.cons_append, List.append_nil, List.drop_nil, List.take_nil, List.length_cons, List.length_nil, Nat.zero_add, Nat.add_zero, Nat.reduceAdd] at hS) | ((with_reducible refine wpList_load_st 1 hS rfl rfl rfl rfl ?_ rfl ?_); focus (simp [scalarB, go_sem]; done)) | ((with_reducible refine wpList_loadall_st 1 hS rfl rfl rfl rfl ?_ (by kernel_rfl) ?_); focus (simp [rowB, go_sem]; done)) | ((with_reducible refine wpList_store_st 1 hS rfl rfl rfl rfl (by kernel_rfl) rfl rfl ?_); intro w1 hS1; clear hS; replace hS := hS1; clear hS1; try simp only [List.set_cons_zero, List.set_cons_succ, List.setIfInBounds_toArray, List.take_succ_cons, List.take_zero, List.drop_succ_cons, List.drop_zero, List.nil_append, List.cons_append, List.append_nil, List.drop_nil, List.take_nil, List.length_cons, List.length_nil, Nat.zero_add, Nat.add_zero, Nat.reduceAdd] at hS) | ((with_reducible refine wpList_storerow_st 1 hS rfl rfl rfl rfl (by kernel_rfl) rfl rfl rfl rfl ?_); intro w1 hS1; clear hS; replace hS := hS1; clear hS1; try simp only [List.set_cons_zero, List.set_cons_succ, List.setIfInBounds_toArray, List.take_succ_cons, List.take_zero, List.drop_succ_cons, List.drop_zero, List.nil_append, List.cons_append, List.append_nil, List.drop_nil, List.take_nil, List.length_cons, List.length_nil, Nat.zero_add, Nat.add_zero, Nat.reduceAdd] at hS))
        have c := hS.cell 1 rfl
        exact bodyPost_ret (v := .tuple #[.agg #[.int .i64 0, .int .i64 0, .int .i64 0], .pointer none, .string ⟨#[]⟩, .slice none 0 0, .int .i64 16]) (by simp [results, Try.results94, go_sem, c]) rfl (hbad.out hsp _ (by simpa using hS.drop.drop.drop.drop))
end Go.Proofs.Ytlhpibniecfofaa
end

section
/- The walk of the reference's Put. -/
set_option linter.unusedSimpArgs false
set_option linter.unusedVariables false
namespace Go.Proofs.Ytlhpibniecfofaa
open Go.RowKit Go.Ofp
set_option linter.unusedVariables false
set_option maxRecDepth 100000
set_option maxHeartbeats 4000000

end Go.Proofs.Ytlhpibniecfofaa
end

section
/- DiskKeeps: plain law. -/
set_option linter.unusedSimpArgs false
set_option linter.unusedVariables false
namespace Go.Ofp
/-- An act: what it does, where, a number, a byte, what stays. -/
structure Ac where
  kind : Int
  place : Int
  n : Int
  c : UInt8
  a : Option Go.Addr
  kc : Nat
  keep : List Int
namespace Dk
/-- What a sector may be behind a fall. -/
def May (S : List Sc) (W : List Wt) (T : List Sc) : Prop := ∀ (k : Nat) (s : Sc), T[k]? = some s → S[k]? = some s ∨ ∃ x ∈ W, x.place = (k : Int) ∧ (s.bad = true ∨ s = ⟨x.b, false⟩)
theorem may_fall1 {S T : List Sc} {W : List Wt} (keep : List Int) (i : Nat) (x : Wt) (hx : x ∈ W) (hp : 0 ≤ x.place) (h : May S W T) : May S W (fall1 keep T i x) := by
  intro k s hs
  unfold fall1 at hs
  obtain ⟨q, hq⟩ := Int.eq_ofNat_of_zero_le hp
  rw [hq, Int.toNat_natCast] at hs
  split at hs
  · rw [List.getElem?_set] at hs
    split at hs
    · rename_i e
      subst e
      split at hs
      · cases hs; exact .inr ⟨x, hx, hq, .inr rfl⟩
      · cases hs
    · exact h k s hs
  · split at hs
    · rw [List.getElem?_modify] at hs
      cases e2 : T[k]? with
      | none => rw [e2] at hs; cases hs
      | some t =>
        rw [e2] at hs
        by_cases e : q = k
        · subst e
          have e3 : { t with bad := true } = s := by simpa using hs
          subst e3
          exact .inr ⟨x, hx, hq, .inl rfl⟩
        · have e3 : t = s := by simpa [e] using hs
          subst e3
          exact h k _ e2
    · exact h k s hs
theorem may_fall {S : List Sc} {W : List Wt} (hW : ∀ x ∈ W, 0 ≤ x.place) (keep : List Int) (l : List Wt) : ∀ (i : Nat) (T : List Sc), (∀ x ∈ l, x ∈ W) → May S W T → May S W (fall keep i T l) := by
  induction l with
  | nil => intro i T _ h; exact h
  | cons x l ih =>
    intro i T hl h
    rw [fall]
    exact ih (i + 1) _ (fun y hy => hl y (by simp [hy])) (may_fall1 keep i x (hl x (by simp)) (hW x (hl x (by simp))) h)

end Dk
end Go.Ofp
end

section
/- Acts of disks in memory, and opened. -/
set_option linter.unusedSimpArgs false
set_option linter.unusedVariables false
namespace Go.Proofs.Ytlhpibniecfofaa
open Go.RowKit Go.Ofp Go.WideShapes
set_option linter.unusedVariables false
set_option maxRecDepth 100000

theorem row_ints {w : World} {a : Option Addr} {len cap : Nat} {zs : List Int} (h : (a = none ∧ len = 0 ∧ cap = 0 ∧ zs = []) ∨
    ∃ x, a = some x ∧ len ≤ cap ∧ cap ≤ maxLen ∧ zs.length = cap ∧ (∀ i, i < zs.length → w.cell? (x.add i) = some (.int .i64 (zs.getD i 0))) ∧ ∀ n ∈ zs, (Lit.int .i64 n).wf = true) :
    ∃ l : List Int, l.length = len ∧ Sl w a (l.map vi) ∧ len ≤ cap ∧ cap ≤ maxLen ∧ ∀ x ∈ l, -9223372036854775808 ≤ x ∧ x ≤ 9223372036854775807 := by
  rcases h with ⟨rfl, rfl, rfl, rfl⟩ | ⟨x, rfl, h1, h2, h3, h4, h5⟩
  · exact ⟨[], rfl, Sl.nil _ _, Nat.le_refl _, Nat.zero_le _, by simp⟩
  · refine ⟨zs.take len, by rw [List.length_take]; omega, ?_, h1, h2, fun z hz => wf_i64 (h5 z (List.mem_of_mem_take hz))⟩
    intro i hi
    have hi' : i < len := by simp at hi; omega
    have hc := h4 i (by omega)
    obtain ⟨b, off, spot⟩ := x
    have hs : spot = none := by
      have := h4 0 (by omega)
      simpa [Addr.add] using World.cell?_spot this
    subst hs
    refine ⟨b, off, rfl, ?_⟩
    rw [Addr.add_lit] at hc
    rw [hc]
    simp [vi, List.getElem?_eq_getElem (show i < zs.length by omega)]

def acRow (x : Ac) : List Value := [.int .i64 x.kind, .int .i64 x.place, .int .i64 x.n, .int .u8 x.c.toNat, .slice x.a x.keep.length x.kc]
/-- What an act keeps lies there. -/
structure AcMem (w : World) (x : Ac) : Prop where
  sl : Sl w x.a (x.keep.map vi)
  le : x.keep.length ≤ x.kc
  cm : x.kc ≤ maxLen
  keep : ∀ z ∈ x.keep, -9223372036854775808 ≤ z ∧ z ≤ 9223372036854775807
  place : -9223372036854775808 ≤ x.place ∧ x.place ≤ 9223372036854775807
  n : -9223372036854775808 ≤ x.n ∧ x.n ≤ 9223372036854775807
theorem AcMem.below {w w' : World} {x : Ac} (h : AcMem w x) (hb : Below w.heap.size w w') : AcMem w' x := ⟨h.sl.below hb, h.le, h.cm, h.keep, h.place, h.n⟩
/-- Acts lie there. -/
structure Acs (w : World) (a : Option Addr) (n c : Nat) (l : List Ac) : Prop where
  sl : Sl w a (l.map acRow).flatten
  len : l.length = n
  le : n ≤ c
  cm : c ≤ maxLen
  mem : ∀ x ∈ l, AcMem w x
theorem Acs.below {w w' : World} {a : Option Addr} {n c : Nat} {l : List Ac} (h : Acs w a n c l) (hb : Below w.heap.size w w') : Acs w' a n c l :=
  ⟨h.sl.below hb, h.len, h.le, h.cm, fun x hx => (h.mem x hx).below hb⟩
theorem Acs.get {w : World} {a : Option Addr} {n c : Nat} {l : List Ac} (h : Acs w a n c l) (j : Nat) (hj : j < l.length) :
    ∃ b off, a = some ⟨b, off, none⟩ ∧ ∀ t v, (acRow l[j])[t]? = some v → w.cell? ⟨b, off + (j * 5 + t), none⟩ = some v := by
  have hr : Rw w a 5 (l.map acRow) := ⟨h.sl, fun r hr => by obtain ⟨p, _, rfl⟩ := List.mem_map.1 hr; rfl⟩
  obtain ⟨b, off, rfl, hc⟩ := hr.get j (by simpa using hj) (by decide)
  refine ⟨b, off, rfl, fun t v hv => hc t v ?_⟩
  rw [List.getElem_map]
  exact hv

section
variable {H : Type} {enc : TypeId × Value → H}
end
end Go.Proofs.Ytlhpibniecfofaa
end

section
/- Pieces that came in, opened. -/
set_option linter.unusedSimpArgs false
set_option linter.unusedVariables false
namespace Go.Ofp
open Go.RowKit Go.WideShapes

section
variable {H : Type} {enc : TypeId × Value → H} {P : Program} {w : World} {base : Nat} {spare : Nat → Bool} {held : Bool}

theorem field_string {f : TypeId} {o n : Nat} {cs : List Value} {y : DataW H × List MemPlace} (hf : P.underlying f = some .string) (hc : P.cellsOf f = 1) (ho : o < cs.length)
    (h : DataW.trod enc P w base spare held n f ((cs.drop o).take (P.cellsOf f)) = some y) : ∃ s : ByteArray, cs[o]? = some (.string s) ∧ s.size ≤ maxLen := by
  obtain ⟨z, hz, _, hs⟩ := DataW.trod_string hf h
  rw [hc, List.drop_eq_getElem_cons ho] at hz
  simp only [List.take_succ_cons, List.take_zero, List.cons.injEq, and_true] at hz
  exact ⟨z, by rw [List.getElem?_eq_getElem ho, hz], hs⟩
end
end Go.Ofp

set_option maxRecDepth 100000
namespace Go.Proofs.Ytlhpibniecfofaa
open Go.RowKit Go.Ofp

section
variable {H : Type} {enc : TypeId × Value → H}
end

end Go.Proofs.Ytlhpibniecfofaa
end
