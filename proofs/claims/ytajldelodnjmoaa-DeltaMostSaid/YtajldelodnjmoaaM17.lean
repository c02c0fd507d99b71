/- Texts laid together: TransFst TransRNet. -/
import Derived.Test.YtajldelodnjmoaaM13
section
/- The document's net, first part: whether a turn is a card's first; items with one more. -/
set_option linter.unusedSimpArgs false
set_option linter.unusedVariables false
namespace Go.Ofp
open Go.RowKit
theorem putIt_at (x : It) : ∀ (l : List It) (j : Nat), j ≤ l.length → (∀ y ∈ l.take j, y.c.id < x.c.id) → (∀ y, l[j]? = some y → ¬ y.c.id < x.c.id) → putIt x l = l.take j ++ x :: l.drop j
  | [], j, hj, _, _ => by
    have : j = 0 := by simpa using hj
    subst this
    rfl
  | y :: r, 0, _, _, h2 => by
    have := h2 y rfl
    unfold putIt
    rw [if_neg this]
    rfl
  | y :: r, j + 1, hj, h1, h2 => by
    have hy : y.c.id < x.c.id := h1 y (by simp)
    have ih := putIt_at x r j (by simpa using hj) (fun z hz => h1 z (by simp [hz])) (fun z hz => h2 z (by simpa using hz))
    unfold putIt
    rw [if_pos hy, ih]
    rfl
theorem firstOf_isNone_take {l : List Tn} {q : Nat} (hq : q < l.length) (id : Int) : (firstOf (l.take (q + 1)) id).isNone = ((firstOf (l.take q) id).isNone && !decide (l[q].id = id)) := by
  rw [List.take_succ_eq_append_getElem hq, firstOf_snoc]
  cases firstOf (l.take q) id with
  | none => by_cases h : l[q].id = id <;> simp [h]
  | some u => simp
end Go.Ofp
namespace Go.Proofs.Ytajldelodnjmoaa
open Go.RowKit Go.Ofp
set_option linter.unusedVariables false
set_option maxRecDepth 100000
set_option maxHeartbeats 4000000

theorem rfirst_any (b off n c i : Nat) (l : List Tn) (w : World) (hl : Lst tnRow TnIn w (some ⟨b, off, none⟩) n c l) (hn : n ≤ 1000) (hi : i < l.length) :
    Calls Try.prog 53 #[.slice (some ⟨b, off, none⟩) n c, .int .i64 i] w fun e w' => e = .returned (.bool (firstOf (l.take i) l[i].id).isNone) ∧ Below w.heap.size w w' := by
  have hS := St.start w
  have hlen := Lib.hid hl.len
  have hlens := Lib.hid (tn_lens hl)
  have hin : i < n := by rw [← hl.len]; exact hi
  have zi : w.cell? ⟨b, off + i * 31 + 1, none⟩ = some (.int .i64 l[i].id) := hl.rowb hlens.out i hi 1 _ rfl
  have hcl : ∀ q (hq : q < l.length), w.cell? ⟨b, off + q * 31 + 1, none⟩ = some (.int .i64 l[q].id) := fun q hq => hl.rowb hlens.out q hq 1 _ rfl
  have hft := fun q (hq : q < l.length) => firstOf_isNone_take hq l[i].id
  have hst := fun q (h : (firstOf (l.take (q + 1)) l[i].id).isNone = false) (hq : q < i) => show (firstOf (l.take i) l[i].id).isNone = false by
    cases h1 : firstOf (l.take (q + 1)) l[i].id with
    | none => rw [h1] at h; cases h
    | some u =>
      cases h2 : firstOf (l.take i) l[i].id with
      | some _ => rfl
      | none =>
        obtain ⟨u1, u2⟩ := firstOf_mem h1
        refine absurd u2 (firstOf_none.1 h2 u ?_)
        have : l.take (q + 1) = (l.take i).take (q + 1) := by rw [List.take_take, Nat.min_eq_left (by omega)]
        rw [this] at u1
        exact List.mem_of_mem_take u1
  replace hl := Lib.hid hl
  replace hcl := Lib.hid hcl
  replace hft := Lib.hid hft
  replace hst := Lib.hid hst
  generalize l[i].id = idi at *
  generalize hR : (firstOf (l.take i) idi).isNone = R at *
  replace hR := Lib.hid hR
  go_enter Try.func53, Try.ntmps53
  go_wp2_with fail
  go_loopg [5] i (fun gk vx wr => ∃ j : Nat, j + gk = i ∧ vx = .int .i64 j ∧ Hid ((firstOf (l.take j) idi).isNone = true) ∧ St w [] [] wr)
  case atStart => exact ⟨0, Nat.zero_add _, rfl, Lib.hid rfl, hS⟩
  case round =>
    clear hS
    obtain ⟨j, hj, rfl, hg, hS⟩ := hrel
    by_cases hlt : j < i
    · have hjl : j < l.length := by rw [hlen.out]; omega
      have hjn : j < n := by omega
      have zj := hcl.out j hjl
      have hf := hft.out j hjl
      rw [hg.out, Bool.true_and] at hf
      have hs := fun h => hst.out j h hlt
      have kj := hS.kold0 zj
      have ki := hS.kold0 zi
      by_cases he : l[j].id = idi
      · have de : (l[j].id == idi) = true := by simpa using he
        have hR2 : R = false := hs (by rw [hf]; simp [he])
        replace hR2 := Lib.hid hR2
        clear hf hs he
        generalize l[j].id = idj at *
        go_wp2_with fail
        refine mixs_begin (by kernel_rfl) hS ?_
        clear hS
        intro w2 hS
        refine mixs_take 0 (v := ?_) rfl (by kernel_rfl) (fun _ _ _ h => h) (by kernel_rfl) (by assumption) (fun s => ?hy) ?_; case hy => (go_simp <;> with_reducible rfl)
        try simp only [List.getElem_toArray, List.getElem_cons_succ, List.getElem_cons_zero, Act.put, List.setIfInBounds_toArray, List.set_cons_zero, List.set_cons_succ]
        refine mixs_take 1 (v := ?_) rfl (by kernel_rfl) (fun _ _ _ h => h) (by kernel_rfl) (by assumption) (fun s => ?hy) ?_; case hy => (go_simp <;> with_reducible rfl)
        try simp only [List.getElem_toArray, List.getElem_cons_succ, List.getElem_cons_zero, Act.put, List.setIfInBounds_toArray, List.set_cons_zero, List.set_cons_succ]
        refine mixs_take 2 (v := ?_) rfl (by kernel_rfl) (fun _ _ _ h => h) (by kernel_rfl) (by assumption) (fun s => ?hy) ?_; case hy => (go_simp <;> with_reducible rfl)
        try simp only [List.getElem_toArray, List.getElem_cons_succ, List.getElem_cons_zero, Act.put, List.setIfInBounds_toArray, List.set_cons_zero, List.set_cons_succ]
        refine mixs_take 3 (v := ?_) rfl (by kernel_rfl) (fun _ _ _ h => h) (by kernel_rfl) (by assumption) (fun s => ?hy) ?_; case hy => (go_simp <;> with_reducible rfl)
        try simp only [List.getElem_toArray, List.getElem_cons_succ, List.getElem_cons_zero, Act.put, List.setIfInBounds_toArray, List.set_cons_zero, List.set_cons_succ]
        refine mixs_take 4 (v := ?_) rfl (by kernel_rfl) (fun _ _ _ h => h) (by kernel_rfl) (by assumption) (fun s => ?hy) ?_; case hy => (go_simp <;> with_reducible rfl)
        try simp only [List.getElem_toArray, List.getElem_cons_succ, List.getElem_cons_zero, Act.put, List.setIfInBounds_toArray, List.set_cons_zero, List.set_cons_succ]
        refine mixs_take 5 (v := ?_) rfl (by kernel_rfl) (fun _ _ _ h => h) (by kernel_rfl) (by assumption) (fun s => ?hy) ?_; case hy => (go_simp <;> with_reducible rfl)
        try simp only [List.getElem_toArray, List.getElem_cons_succ, List.getElem_cons_zero, Act.put, List.setIfInBounds_toArray, List.set_cons_zero, List.set_cons_succ]
        refine mixs_take 6 (v := ?_) rfl (by kernel_rfl) (fun _ _ _ h => h) (by kernel_rfl) (by assumption) (fun s => ?hy) ?_; case hy => (go_simp <;> with_reducible rfl)
        try simp only [List.getElem_toArray, List.getElem_cons_succ, List.getElem_cons_zero, Act.put, List.setIfInBounds_toArray, List.set_cons_zero, List.set_cons_succ]
        refine mixs_take 7 (v := ?_) rfl (by kernel_rfl) (fun _ _ _ h => h) (by kernel_rfl) (by assumption) (fun s => ?hy) ?_; case hy => (go_simp <;> with_reducible rfl)
        try simp only [List.getElem_toArray, List.getElem_cons_succ, List.getElem_cons_zero, Act.put, List.setIfInBounds_toArray, List.set_cons_zero, List.set_cons_succ]
        refine mixs_take 8 (v := ?_) rfl (by kernel_rfl) (fun _ _ _ h => h) (by kernel_rfl) (by assumption) (fun s => ?hy) ?_; case hy => (go_simp <;> with_reducible rfl)
        try simp only [List.getElem_toArray, List.getElem_cons_succ, List.getElem_cons_zero, Act.put, List.setIfInBounds_toArray, List.set_cons_zero, List.set_cons_succ]
        refine mixs_take 9 (v := ?_) rfl (by kernel_rfl) (fun _ _ _ h => h) (by kernel_rfl) (by assumption) (fun s => ?hy) ?_; case hy => (go_simp <;> with_reducible rfl)
        try simp only [List.getElem_toArray, List.getElem_cons_succ, List.getElem_cons_zero, Act.put, List.setIfInBounds_toArray, List.set_cons_zero, List.set_cons_succ]
        refine mixs_take 10 (v := ?_) rfl (by kernel_rfl) (fun _ _ _ h => h) (by kernel_rfl) (by assumption) (fun s => ?hy) ?_; case hy => (go_simp <;> with_reducible rfl)
        try simp only [List.getElem_toArray, List.getElem_cons_succ, List.getElem_cons_zero, Act.put, List.setIfInBounds_toArray, List.set_cons_zero, List.set_cons_succ]
        refine wpAnyH_done (by kernel_rfl) ?_ _
        go_wp2_with fail
        go_ret
        exact ⟨by rw [hR2.out]; rfl, hS.below⟩
      · have de : (l[j].id == idi) = false := by simpa using he
        have hg2 : (firstOf (l.take (j + 1)) idi).isNone = true := by rw [hf]; simp [he]
        replace hg2 := Lib.hid hg2
        clear hf hs he
        generalize l[j].id = idj at *
        go_wp2_with fail
        refine mixs_begin (by kernel_rfl) hS ?_
        clear hS
        intro w2 hS
        refine mixs_take 0 (v := ?_) rfl (by kernel_rfl) (fun _ _ _ h => h) (by kernel_rfl) (by assumption) (fun s => ?hy) ?_; case hy => (go_simp <;> with_reducible rfl)
        try simp only [List.getElem_toArray, List.getElem_cons_succ, List.getElem_cons_zero, Act.put, List.setIfInBounds_toArray, List.set_cons_zero, List.set_cons_succ]
        refine mixs_take 1 (v := ?_) rfl (by kernel_rfl) (fun _ _ _ h => h) (by kernel_rfl) (by assumption) (fun s => ?hy) ?_; case hy => (go_simp <;> with_reducible rfl)
        try simp only [List.getElem_toArray, List.getElem_cons_succ, List.getElem_cons_zero, Act.put, List.setIfInBounds_toArray, List.set_cons_zero, List.set_cons_succ]
        refine mixs_take 2 (v := ?_) rfl (by kernel_rfl) (fun _ _ _ h => h) (by kernel_rfl) (by assumption) (fun s => ?hy) ?_; case hy => (go_simp <;> with_reducible rfl)
        try simp only [List.getElem_toArray, List.getElem_cons_succ, List.getElem_cons_zero, Act.put, List.setIfInBounds_toArray, List.set_cons_zero, List.set_cons_succ]
        refine mixs_take 3 (v := ?_) rfl (by kernel_rfl) (fun _ _ _ h => h) (by kernel_rfl) (by assumption) (fun s => ?hy) ?_; case hy => (go_simp <;> with_reducible rfl)
        try simp only [List.getElem_toArray, List.getElem_cons_succ, List.getElem_cons_zero, Act.put, List.setIfInBounds_toArray, List.set_cons_zero, List.set_cons_succ]
        refine mixs_take 4 (v := ?_) rfl (by kernel_rfl) (fun _ _ _ h => h) (by kernel_rfl) (by assumption) (fun s => ?hy) ?_; case hy => (go_simp <;> with_reducible rfl)
        try simp only [List.getElem_toArray, List.getElem_cons_succ, List.getElem_cons_zero, Act.put, List.setIfInBounds_toArray, List.set_cons_zero, List.set_cons_succ]
        refine mixs_take 5 (v := ?_) rfl (by kernel_rfl) (fun _ _ _ h => h) (by kernel_rfl) (by assumption) (fun s => ?hy) ?_; case hy => (go_simp <;> with_reducible rfl)
        try simp only [List.getElem_toArray, List.getElem_cons_succ, List.getElem_cons_zero, Act.put, List.setIfInBounds_toArray, List.set_cons_zero, List.set_cons_succ]
        refine mixs_take 6 (v := ?_) rfl (by kernel_rfl) (fun _ _ _ h => h) (by kernel_rfl) (by assumption) (fun s => ?hy) ?_; case hy => (go_simp <;> with_reducible rfl)
        try simp only [List.getElem_toArray, List.getElem_cons_succ, List.getElem_cons_zero, Act.put, List.setIfInBounds_toArray, List.set_cons_zero, List.set_cons_succ]
        refine mixs_take 7 (v := ?_) rfl (by kernel_rfl) (fun _ _ _ h => h) (by kernel_rfl) (by assumption) (fun s => ?hy) ?_; case hy => (go_simp <;> with_reducible rfl)
        try simp only [List.getElem_toArray, List.getElem_cons_succ, List.getElem_cons_zero, Act.put, List.setIfInBounds_toArray, List.set_cons_zero, List.set_cons_succ]
        refine mixs_take 8 (v := ?_) rfl (by kernel_rfl) (fun _ _ _ h => h) (by kernel_rfl) (by assumption) (fun s => ?hy) ?_; case hy => (go_simp <;> with_reducible rfl)
        try simp only [List.getElem_toArray, List.getElem_cons_succ, List.getElem_cons_zero, Act.put, List.setIfInBounds_toArray, List.set_cons_zero, List.set_cons_succ]
        refine mixs_take 9 (v := ?_) rfl (by kernel_rfl) (fun _ _ _ h => h) (by kernel_rfl) (by assumption) (fun s => ?hy) ?_; case hy => (go_simp <;> with_reducible rfl)
        try simp only [List.getElem_toArray, List.getElem_cons_succ, List.getElem_cons_zero, Act.put, List.setIfInBounds_toArray, List.set_cons_zero, List.set_cons_succ]
        refine mixs_take 10 (v := ?_) rfl (by kernel_rfl) (fun _ _ _ h => h) (by kernel_rfl) (by assumption) (fun s => ?hy) ?_; case hy => (go_simp <;> with_reducible rfl)
        try simp only [List.getElem_toArray, List.getElem_cons_succ, List.getElem_cons_zero, Act.put, List.setIfInBounds_toArray, List.set_cons_zero, List.set_cons_succ]
        refine wpAnyH_done (by kernel_rfl) ?_ _
        go_wp2_with fail
        go_roundg (i - (j + 1))
        case measure => omega
        case rel => exact ⟨j + 1, by omega, by go_num, hg2, hS⟩
    · obtain rfl : j = i := by omega
      have hR2 : R = true := by rw [← hR.out]; exact hg.out
      replace hR2 := Lib.hid hR2
      go_wp2_with fail
      go_ret
      exact ⟨by rw [hR2.out]; rfl, hS.below⟩

theorem rput23_any (b off n c : Nat) (l : List It) (x : It) (w : World) (hl : Lst itRow (fun x => x.c.f.length = 8) w (some ⟨b, off, none⟩) n c l) (hx : x.c.f.length = 8) (hn : n ≤ 1000) :
    Calls Try.prog 54 #[.slice (some ⟨b, off, none⟩) n c, .agg (itRow x).toArray] w fun e w' => ∃ a' c', e = .returned (.slice a' (n + 1) c') ∧ St w [] [Ch.row 50 28 (.slice a' (n + 1) c') (n + 1) ((putIt x l).map itRow).flatten] w' := by
  have hS := St.start w
  have ei := elem_item
  have hlens : ∀ y ∈ l, (itRow y).length = 28 := fun y hy => itRow_len y (hl.mem y hy)
  have hcell : ∀ q (hq : q < l.length), w.cell? ⟨b, off + q * 28 + 1, none⟩ = some (.int .i64 l[q].c.id) := fun q hq => hl.rowb hlens q hq 1 _ rfl
  have hlen := hl.len
  have hle := hl.le
  have hsp : ∀ j, (l.map itRow).flatten = ((l.take j).map itRow).flatten ++ ((l.drop j).map itRow).flatten := fun j => by rw [← List.flatten_append, ← List.map_append, List.take_append_drop]
  have hll1 : ∀ j, j ≤ n → ((l.take j).map itRow).flatten.length = j * 28 := fun j hj => by
    rw [flat_len2 28 _ (by intro r hr; obtain ⟨y, hy, rfl⟩ := List.mem_map.1 hr; exact hlens y (List.mem_of_mem_take hy)), List.length_map, List.length_take, hlen, Nat.min_eq_left hj]
  have hll2 : ∀ j, ((l.drop j).map itRow).flatten.length = (n - j) * 28 := fun j => by
    rw [flat_len2 28 _ (by intro r hr; obtain ⟨y, hy, rfl⟩ := List.mem_map.1 hr; exact hlens y (List.mem_of_mem_drop hy)), List.length_map, List.length_drop, hlen]
  have hsl1 : ∀ j, Sl w (some ⟨b, off, none⟩) ((l.take j).map itRow).flatten := fun j => by
    have := hl.sl
    rw [hsp j] at this
    exact this.left
  have hsl2 : ∀ j, j ≤ n → Sl w (some ⟨b, off + j * 28, none⟩) ((l.drop j).map itRow).flatten := fun j hj => by
    have h1 := hl.sl.drop (j * 28)
    rw [hsp j, List.drop_append_of_le_length (by rw [hll1 j hj]; exact Nat.le_refl _), List.drop_eq_nil_of_le (by rw [hll1 j hj]; exact Nat.le_refl _), List.nil_append] at h1
    exact h1
  have hone1 : ∀ m : List It, ∀ u ∈ (m.map itRow).flatten, u.oneCell' = true := fun m u hu => by
    obtain ⟨r, hr, hu⟩ := List.mem_flatten.1 hu
    obtain ⟨y, -, rfl⟩ := List.mem_map.1 hr
    exact List.all_eq_true.1 (itRow_one y) u hu
  have hput := fun j (hj : j ≤ n) (h1 : ∀ y ∈ l.take j, y.c.id < x.c.id) (h2 : ∀ y, l[j]? = some y → ¬ y.c.id < x.c.id) => show ((putIt x l).map itRow).flatten = ((l.take j).map itRow).flatten ++ itRow x ++ ((l.drop j).map itRow).flatten by
    rw [putIt_at x l j (by omega) h1 h2]
    simp
  have hxl : (itRow x).length = 28 := itRow_len x hx
  have hxo := itRow_one x
  have hsx : sizeB Try.prog 50 (itRow x).toArray.size = true := by rw [List.size_toArray, hxl]; kernel_rfl
  have hxr : itRow x = .int .i64 x.kind :: .int .i64 x.c.id :: .int .i64 x.c.ver :: .int .u32 x.c.lab :: flRow x.c.f := rfl
  generalize ((putIt x l).map itRow).flatten = PX at *
  rw [hxr] at hput hxl hxo hsx ⊢
  clear hxr hx
  obtain ⟨kind, id, ver, lab, f⟩ := x
  dsimp only at *
  generalize flRow f = RF at *
  have fin : ∀ (W : World) (a' : Option Addr) (c' k : Nat) (xs : List Value) (D : Ch), k = n + 1 → xs = PX → St w [] [Ch.row 50 28 (.slice a' k c') k xs, D] W → ∃ a'' c'', Ending.returned (Value.slice a' k c') = .returned (.slice a'' (n + 1) c'') ∧ St w [] [Ch.row 50 28 (.slice a'' (n + 1) c'') (n + 1) PX] W := by
    rintro W a' c' k xs D rfl rfl h
    exact ⟨_, _, rfl, h.one 0 rfl⟩
  replace hl := Lib.hid hl
  replace hcell := Lib.hid hcell
  replace hlen := Lib.hid hlen
  replace hle := Lib.hid hle
  replace hsl1 := Lib.hid hsl1
  replace hsl2 := Lib.hid hsl2
  replace hll1 := Lib.hid hll1
  replace hll2 := Lib.hid hll2
  replace hone1 := Lib.hid hone1
  replace hput := Lib.hid hput
  replace hlens := Lib.hid hlens
  replace fin := Lib.hid fin
  clear hsp
  go_enter Try.func54, Try.ntmps54
  go_wp2_with (first | (with_reducible refine wpList_box_st hS rfl rfl rfl ?_; intro g1 w1 hS1; clear hS; replace hS := hS1; clear hS1) | (with_reducible refine wpList_box1_st hS rfl rfl rfl ?_; intro g1 w1 hS1; clear hS; replace hS := hS1; clear hS1) | (with_reducible refine wpList_alloc_st hS rfl rfl (by assumption) ?_; intro g1 w1 hS1; clear hS; replace hS := hS1; clear hS1) | (with_reducible refine wpList_alloc1_st hS rfl rfl (by assumption) rfl ?_; intro g1 w1 hS1; clear hS; replace hS := hS1; clear hS1) | ((with_reducible refine wpList_load_st 0 hS rfl rfl rfl rfl ?_ rfl ?_); focus (simp [scalarB, go_sem]; done)) | ((with_reducible refine wpList_loadall_st 0 hS rfl rfl rfl rfl ?_ (by kernel_rfl) ?_); focus (simp [rowB, go_sem]; done)) | ((with_reducible refine wpList_store_st 0 hS rfl rfl rfl rfl (by kernel_rfl) rfl rfl ?_); intro w1 hS1; clear hS; replace hS := hS1; clear hS1; try simp only [List.set_cons_zero, List.set_cons_succ, List.setIfInBounds_toArray, List.take_succ_cons, List.take_zero, List.drop_succ_cons, List.drop_zero, List.nil_append, List.cons_append, List.append_nil, List.drop_nil, List.take_nil, List.length_cons, List.length_nil, Nat.zero_add, Nat.add_zero, Nat.reduceAdd] at hS) | ((with_reducible refine wpList_storerow_st 0 hS rfl rfl rfl rfl (by kernel_rfl) rfl rfl rfl rfl ?_); intro w1 hS1; clear hS; replace hS := hS1; clear hS1; try simp only [List.set_cons_zero, List.set_cons_succ, List.setIfInBounds_toArray, List.take_succ_cons, List.take_zero, List.drop_succ_cons, List.drop_zero, List.nil_append, List.cons_append, List.append_nil, List.drop_nil, List.take_nil, List.length_cons, List.length_nil, Nat.zero_add, Nat.add_zero, Nat.reduceAdd] at hS))
  go_loopg [5] n (fun gk vx wr => ∃ j : Nat, j + gk = n ∧ vx = .int .i64 j ∧ Hid (∀ y ∈ l.take j, y.c.id < id) ∧ St w [] [Ch.blk g1 50 (Value.int .i64 kind :: .int .i64 id :: .int .i64 ver :: .int .u32 lab :: RF).toArray] wr)
  case atStart => exact ⟨0, Nat.zero_add _, rfl, Lib.hid (by simp), hS⟩
  case round =>
    clear hS
    obtain ⟨j, hj, rfl, hg, hS⟩ := hrel
    have hjn : j ≤ n := by omega
    by_cases hlt : j < n
    · have hjl : j < l.length := by rw [hlen.out]; exact hlt
      have z1 := hcell.out j hjl
      have k1 := hS.kold0 z1
      have k0 := hS.kblk 0 rfl
      have hsm := fun h : l[j].c.id < id => show ∀ y ∈ l.take (j + 1), y.c.id < id by
        intro y hy
        rw [List.take_succ_eq_append_getElem hjl] at hy
        rcases List.mem_append.1 hy with hy | hy
        · exact hg.out y hy
        · rw [List.mem_singleton] at hy; subst hy; exact h
      have hst := fun h : ¬ l[j].c.id < id => hput.out j hjn hg.out (fun y hy => by rw [List.getElem?_eq_getElem hjl] at hy; cases hy; omega)
      by_cases hi : l[j].c.id < id
      · have di : decide (l[j].c.id < id) = true := decide_eq_true hi
        have hg2 := Lib.hid (hsm hi)
        clear hsm hst hi
        generalize l[j].c.id = idj at *
        go_wp2_with fail
        refine mixs_begin (by kernel_rfl) hS ?_
        clear hS
        intro w2 hS
        refine mixs_take 0 (v := ?_) rfl (by kernel_rfl) (fun _ _ _ h => h) (by kernel_rfl) (by assumption) (fun s => ?hy) ?_; case hy => (go_simp <;> with_reducible rfl)
        try simp only [List.getElem_toArray, List.getElem_cons_succ, List.getElem_cons_zero, Act.put, List.setIfInBounds_toArray, List.set_cons_zero, List.set_cons_succ]
        refine mixs_take 1 (v := ?_) rfl (by kernel_rfl) (fun _ _ _ h => h) (by kernel_rfl) (by assumption) (fun s => ?hy) ?_; case hy => (go_simp <;> with_reducible rfl)
        try simp only [List.getElem_toArray, List.getElem_cons_succ, List.getElem_cons_zero, Act.put, List.setIfInBounds_toArray, List.set_cons_zero, List.set_cons_succ]
        refine mixs_take 2 (v := ?_) rfl (by kernel_rfl) (fun _ _ _ h => h) (by kernel_rfl) (by assumption) (fun s => ?hy) ?_; case hy => (go_simp <;> with_reducible rfl)
        try simp only [List.getElem_toArray, List.getElem_cons_succ, List.getElem_cons_zero, Act.put, List.setIfInBounds_toArray, List.set_cons_zero, List.set_cons_succ]
        refine mixs_take 3 (v := ?_) rfl (by kernel_rfl) (fun _ _ _ h => h) (by kernel_rfl) (by assumption) (fun s => ?hy) ?_; case hy => (go_simp <;> with_reducible rfl)
        try simp only [List.getElem_toArray, List.getElem_cons_succ, List.getElem_cons_zero, Act.put, List.setIfInBounds_toArray, List.set_cons_zero, List.set_cons_succ]
        refine mixs_take 4 (v := ?_) rfl (by kernel_rfl) (fun _ _ _ h => h) (by kernel_rfl) (by assumption) (fun s => ?hy) ?_; case hy => (go_simp <;> with_reducible rfl)
        try simp only [List.getElem_toArray, List.getElem_cons_succ, List.getElem_cons_zero, Act.put, List.setIfInBounds_toArray, List.set_cons_zero, List.set_cons_succ]
        refine mixs_take 5 (v := ?_) rfl (by kernel_rfl) (fun _ _ _ h => h) (by kernel_rfl) (by assumption) (fun s => ?hy) ?_; case hy => (go_simp <;> with_reducible rfl)
        try simp only [List.getElem_toArray, List.getElem_cons_succ, List.getElem_cons_zero, Act.put, List.setIfInBounds_toArray, List.set_cons_zero, List.set_cons_succ]
        refine mixs_take 6 (v := ?_) rfl (by kernel_rfl) (fun _ _ _ h => h) (by kernel_rfl) (by assumption) (fun s => ?hy) ?_; case hy => (go_simp <;> with_reducible rfl)
        try simp only [List.getElem_toArray, List.getElem_cons_succ, List.getElem_cons_zero, Act.put, List.setIfInBounds_toArray, List.set_cons_zero, List.set_cons_succ]
        refine mixs_take 7 (v := ?_) rfl (by kernel_rfl) (fun _ _ _ h => h) (by kernel_rfl) (by assumption) (fun s => ?hy) ?_; case hy => (go_simp <;> with_reducible rfl)
        try simp only [List.getElem_toArray, List.getElem_cons_succ, List.getElem_cons_zero, Act.put, List.setIfInBounds_toArray, List.set_cons_zero, List.set_cons_succ]
        refine mixs_take 8 (v := ?_) rfl (by kernel_rfl) (fun _ _ _ h => h) (by kernel_rfl) (by assumption) (fun s => ?hy) ?_; case hy => (go_simp <;> with_reducible rfl)
        try simp only [List.getElem_toArray, List.getElem_cons_succ, List.getElem_cons_zero, Act.put, List.setIfInBounds_toArray, List.set_cons_zero, List.set_cons_succ]
        refine mixs_take 9 (v := ?_) rfl (by kernel_rfl) (fun _ _ _ h => h) (by kernel_rfl) (by assumption) (fun s => ?hy) ?_; case hy => (go_simp <;> with_reducible rfl)
        try simp only [List.getElem_toArray, List.getElem_cons_succ, List.getElem_cons_zero, Act.put, List.setIfInBounds_toArray, List.set_cons_zero, List.set_cons_succ]
        refine mixs_take 10 (v := ?_) rfl (by kernel_rfl) (fun _ _ _ h => h) (by kernel_rfl) (by assumption) (fun s => ?hy) ?_; case hy => (go_simp <;> with_reducible rfl)
        try simp only [List.getElem_toArray, List.getElem_cons_succ, List.getElem_cons_zero, Act.put, List.setIfInBounds_toArray, List.set_cons_zero, List.set_cons_succ]
        refine mixs_take 11 (v := ?_) rfl (by kernel_rfl) (fun _ _ _ h => h) (by kernel_rfl) (by assumption) (fun s => ?hy) ?_; case hy => (go_simp <;> with_reducible rfl)
        try simp only [List.getElem_toArray, List.getElem_cons_succ, List.getElem_cons_zero, Act.put, List.setIfInBounds_toArray, List.set_cons_zero, List.set_cons_succ]
        refine mixs_take 12 (v := ?_) rfl (by kernel_rfl) (fun _ _ _ h => h) (by kernel_rfl) (by assumption) (fun s => ?hy) ?_; case hy => (go_simp <;> with_reducible rfl)
        try simp only [List.getElem_toArray, List.getElem_cons_succ, List.getElem_cons_zero, Act.put, List.setIfInBounds_toArray, List.set_cons_zero, List.set_cons_succ]
        refine mixs_take 13 (v := ?_) rfl (by kernel_rfl) (fun _ _ _ h => h) (by kernel_rfl) (by assumption) (fun s => ?hy) ?_; case hy => (go_simp <;> with_reducible rfl)
        try simp only [List.getElem_toArray, List.getElem_cons_succ, List.getElem_cons_zero, Act.put, List.setIfInBounds_toArray, List.set_cons_zero, List.set_cons_succ]
        refine mixs_take 14 (v := ?_) rfl (by kernel_rfl) (fun _ _ _ h => h) (by kernel_rfl) (by assumption) (fun s => ?hy) ?_; case hy => (go_simp <;> with_reducible rfl)
        try simp only [List.getElem_toArray, List.getElem_cons_succ, List.getElem_cons_zero, Act.put, List.setIfInBounds_toArray, List.set_cons_zero, List.set_cons_succ]
        refine mixs_take 15 (v := ?_) rfl (by kernel_rfl) (fun _ _ _ h => h) (by kernel_rfl) (by assumption) (fun s => ?hy) ?_; case hy => (go_simp <;> with_reducible rfl)
        try simp only [List.getElem_toArray, List.getElem_cons_succ, List.getElem_cons_zero, Act.put, List.setIfInBounds_toArray, List.set_cons_zero, List.set_cons_succ]
        refine wpAnyH_done (by kernel_rfl) ?_ _
        go_wp2_with fail
        go_roundg (n - (j + 1))
        case measure => omega
        case rel => exact ⟨j + 1, by omega, by go_num, hg2, hS⟩
      · have di : decide (l[j].c.id < id) = false := decide_eq_false hi
        have hPX := Lib.hid (hst hi)
        have hs1 := Lib.hid (hsl1.out j)
        have hs2 := Lib.hid (hsl2.out j hjn)
        have hl1 := Lib.hid (hll1.out j hjn)
        have hl2 := Lib.hid (hll2.out j)
        have hcj : ¬ (c = j) := by have := hle.out; omega
        have hjc : j ≤ c := by have := hle.out; omega
        have hnc : n ≤ c := hle.out
        clear hsm hst hi
        generalize l[j].c.id = idj at *
        go_wp2_with fail
        refine mixs_begin (by kernel_rfl) hS ?_
        clear hS
        intro w2 hS
        refine mixs_take 0 (v := ?_) rfl (by kernel_rfl) (fun _ _ _ h => h) (by kernel_rfl) (by assumption) (fun s => ?hy) ?_; case hy => (go_simp <;> with_reducible rfl)
        try simp only [List.getElem_toArray, List.getElem_cons_succ, List.getElem_cons_zero, Act.put, List.setIfInBounds_toArray, List.set_cons_zero, List.set_cons_succ]
        refine mixs_take 1 (v := ?_) rfl (by kernel_rfl) (fun _ _ _ h => h) (by kernel_rfl) (by assumption) (fun s => ?hy) ?_; case hy => (go_simp <;> with_reducible rfl)
        try simp only [List.getElem_toArray, List.getElem_cons_succ, List.getElem_cons_zero, Act.put, List.setIfInBounds_toArray, List.set_cons_zero, List.set_cons_succ]
        refine mixs_take 2 (v := ?_) rfl (by kernel_rfl) (fun _ _ _ h => h) (by kernel_rfl) (by assumption) (fun s => ?hy) ?_; case hy => (go_simp <;> with_reducible rfl)
        try simp only [List.getElem_toArray, List.getElem_cons_succ, List.getElem_cons_zero, Act.put, List.setIfInBounds_toArray, List.set_cons_zero, List.set_cons_succ]
        refine mixs_take 3 (v := ?_) rfl (by kernel_rfl) (fun _ _ _ h => h) (by kernel_rfl) (by assumption) (fun s => ?hy) ?_; case hy => (go_simp <;> with_reducible rfl)
        try simp only [List.getElem_toArray, List.getElem_cons_succ, List.getElem_cons_zero, Act.put, List.setIfInBounds_toArray, List.set_cons_zero, List.set_cons_succ]
        refine mixs_take 4 (v := ?_) rfl (by kernel_rfl) (fun _ _ _ h => h) (by kernel_rfl) (by assumption) (fun s => ?hy) ?_; case hy => (go_simp <;> with_reducible rfl)
        try simp only [List.getElem_toArray, List.getElem_cons_succ, List.getElem_cons_zero, Act.put, List.setIfInBounds_toArray, List.set_cons_zero, List.set_cons_succ]
        refine mixs_take 5 (v := ?_) rfl (by kernel_rfl) (fun _ _ _ h => h) (by kernel_rfl) (by assumption) (fun s => ?hy) ?_; case hy => (go_simp <;> with_reducible rfl)
        try simp only [List.getElem_toArray, List.getElem_cons_succ, List.getElem_cons_zero, Act.put, List.setIfInBounds_toArray, List.set_cons_zero, List.set_cons_succ]
        refine mixs_take 6 (v := ?_) rfl (by kernel_rfl) (fun _ _ _ h => h) (by kernel_rfl) (by assumption) (fun s => ?hy) ?_; case hy => (go_simp <;> with_reducible rfl)
        try simp only [List.getElem_toArray, List.getElem_cons_succ, List.getElem_cons_zero, Act.put, List.setIfInBounds_toArray, List.set_cons_zero, List.set_cons_succ]
        refine mixs_take 7 (v := ?_) rfl (by kernel_rfl) (fun _ _ _ h => h) (by kernel_rfl) (by assumption) (fun s => ?hy) ?_; case hy => (go_simp <;> with_reducible rfl)
        try simp only [List.getElem_toArray, List.getElem_cons_succ, List.getElem_cons_zero, Act.put, List.setIfInBounds_toArray, List.set_cons_zero, List.set_cons_succ]
        refine mixs_take 8 (v := ?_) rfl (by kernel_rfl) (fun _ _ _ h => h) (by kernel_rfl) (by assumption) (fun s => ?hy) ?_; case hy => (go_simp <;> with_reducible rfl)
        try simp only [List.getElem_toArray, List.getElem_cons_succ, List.getElem_cons_zero, Act.put, List.setIfInBounds_toArray, List.set_cons_zero, List.set_cons_succ]
        refine mixs_take 9 (v := ?_) rfl (by kernel_rfl) (fun _ _ _ h => h) (by kernel_rfl) (by assumption) (fun s => ?hy) ?_; case hy => (go_simp <;> with_reducible rfl)
        try simp only [List.getElem_toArray, List.getElem_cons_succ, List.getElem_cons_zero, Act.put, List.setIfInBounds_toArray, List.set_cons_zero, List.set_cons_succ]
        refine mixs_take 10 (v := ?_) rfl (by kernel_rfl) (fun _ _ _ h => h) (by kernel_rfl) (by assumption) (fun s => ?hy) ?_; case hy => (go_simp <;> with_reducible rfl)
        try simp only [List.getElem_toArray, List.getElem_cons_succ, List.getElem_cons_zero, Act.put, List.setIfInBounds_toArray, List.set_cons_zero, List.set_cons_succ]
        refine mixs_take 11 (v := ?_) rfl (by kernel_rfl) (fun _ _ _ h => h) (by kernel_rfl) (by assumption) (fun s => ?hy) ?_; case hy => (go_simp <;> with_reducible rfl)
        try simp only [List.getElem_toArray, List.getElem_cons_succ, List.getElem_cons_zero, Act.put, List.setIfInBounds_toArray, List.set_cons_zero, List.set_cons_succ]
        refine mixs_take 12 (v := ?_) rfl (by kernel_rfl) (fun _ _ _ h => h) (by kernel_rfl) (by assumption) (fun s => ?hy) ?_; case hy => (go_simp <;> with_reducible rfl)
        try simp only [List.getElem_toArray, List.getElem_cons_succ, List.getElem_cons_zero, Act.put, List.setIfInBounds_toArray, List.set_cons_zero, List.set_cons_succ]
        refine mixs_take 13 (v := ?_) rfl (by kernel_rfl) (fun _ _ _ h => h) (by kernel_rfl) (by assumption) (fun s => ?hy) ?_; case hy => (go_simp <;> with_reducible rfl)
        try simp only [List.getElem_toArray, List.getElem_cons_succ, List.getElem_cons_zero, Act.put, List.setIfInBounds_toArray, List.set_cons_zero, List.set_cons_succ]
        refine mixs_take 14 (v := ?_) rfl (by kernel_rfl) (fun _ _ _ h => h) (by kernel_rfl) (by assumption) (fun s => ?hy) ?_; case hy => (go_simp <;> with_reducible rfl)
        try simp only [List.getElem_toArray, List.getElem_cons_succ, List.getElem_cons_zero, Act.put, List.setIfInBounds_toArray, List.set_cons_zero, List.set_cons_succ]
        refine mixs_take 15 (v := ?_) rfl (by kernel_rfl) (fun _ _ _ h => h) (by kernel_rfl) (by assumption) (fun s => ?hy) ?_; case hy => (go_simp <;> with_reducible rfl)
        try simp only [List.getElem_toArray, List.getElem_cons_succ, List.getElem_cons_zero, Act.put, List.setIfInBounds_toArray, List.set_cons_zero, List.set_cons_succ]
        refine wpAnyH_done (by kernel_rfl) ?_ _
        clear k0 k1 z1
        go_wp2_with (first
          | ((with_reducible refine wpList_build0_st hS rfl rfl Try.underlying27 ei ?_); intro g2 w3 hS1; clear hS; have hS := hS1; clear hS1)
          | ((with_reducible refine wpList_loadall_st 1 hS rfl rfl rfl rfl ?_ hsx ?_); focus (simp [rowB, go_sem]; done))
          | (refine wpList_of_op fun K hK => op_build1_st (by with_unfolding_all rfl) hS rfl Try.underlying27 ei (cs := (Value.int .i64 kind :: .int .i64 id :: .int .i64 ver :: .int .u32 lab :: RF).toArray) rfl (by rw [List.size_toArray]; exact hxl) (by decide) ?_; intro g3 w3 hS1; refine hK _ _ ?_; clear hK hS; have hS := hS1; clear hS1)
          | ((with_reducible refine wpList_app_st (m := 1) 1 hS rfl rfl rfl Try.underlying27 ei rfl (Src.slice Try.underlying27 (hS.blksl2 0 rfl) hxl) rfl (fun u hu => List.all_eq_true.1 hxo u hu) (by omega) (by unfold maxLen; omega) ?_); intro v6 w6 hS1; clear hS; simp only [List.set_cons_zero, List.set_cons_succ] at hS1; have hS := hS1.drop; clear hS1; obtain ⟨a6, c6, rfl, -⟩ := hS.row 0 rfl)
          | ((with_reducible refine wpList_app_st 0 hS rfl rfl rfl Try.underlying27 ei rfl (Src.slice Try.underlying27 (hS.sl hs1.out) hl1.out) rfl (hone1.out _) (by omega) (by unfold maxLen; omega) ?_); intro v5 w6 hS1; clear hS; simp only [List.set_cons_zero, Nat.zero_add, List.nil_append] at hS1; have hS := hS1; clear hS1; obtain ⟨a5, c5, rfl, -⟩ := hS.row 0 rfl)
          | ((with_reducible refine wpList_app_st 0 hS rfl rfl rfl Try.underlying27 ei rfl (Src.slice Try.underlying27 (hS.sl hs2.out) hl2.out) rfl (hone1.out _) (by omega) (by unfold maxLen; omega) ?_); intro v7 w6 hS1; clear hS; simp only [List.set_cons_zero] at hS1; have hS := hS1; clear hS1; obtain ⟨a7, c7, rfl, -⟩ := hS.row 0 rfl)
          | ((with_reducible refine wpList_app_st (news := []) (m := 0) 0 hS rfl rfl rfl Try.underlying27 ei rfl (Src.slice Try.underlying27 (Sl.nil _ _) (by simp)) rfl (by simp) (by omega) (by unfold maxLen; omega) ?_); intro v7 w6 hS1; clear hS; simp only [List.set_cons_zero] at hS1; have hS := hS1; clear hS1; obtain ⟨a7, c7, rfl, -⟩ := hS.row 0 rfl))
        go_ret
        exact fin.out _ _ _ _ _ _ (by omega) (by rw [hPX.out] <;> simp) hS
    · have hnj : n = j := by omega
      subst hnj
      have k0 := hS.kblk 0 rfl
      have hPX := Lib.hid (hput.out n hjn hg.out (fun y hy => by rw [List.getElem?_eq_none (by rw [hlen.out]; exact Nat.le_refl _)] at hy; cases hy))
      have hdn : l.drop n = [] := List.drop_of_length_le (by rw [hlen.out]; exact Nat.le_refl _)
      rw [hdn] at hPX
      have hs1 := Lib.hid (hsl1.out n)
      have hs2 := Lib.hid (hsl2.out n hjn)
      have hl1 := Lib.hid (hll1.out n hjn)
      have hl2 := Lib.hid (hll2.out n)
      clear hdn
      have hnc : n ≤ c := hle.out
      by_cases hcj : c = n
      · subst hcj
        go_wp2_with fail
        refine mixs_begin (by kernel_rfl) hS ?_
        clear hS
        intro w2 hS
        refine mixs_take 0 (v := ?_) rfl (by kernel_rfl) (fun _ _ _ h => h) (by kernel_rfl) (by assumption) (fun s => ?hy) ?_; case hy => (go_simp <;> with_reducible rfl)
        try simp only [List.getElem_toArray, List.getElem_cons_succ, List.getElem_cons_zero, Act.put, List.setIfInBounds_toArray, List.set_cons_zero, List.set_cons_succ]
        refine mixs_take 1 (v := ?_) rfl (by kernel_rfl) (fun _ _ _ h => h) (by kernel_rfl) (by assumption) (fun s => ?hy) ?_; case hy => (go_simp <;> with_reducible rfl)
        try simp only [List.getElem_toArray, List.getElem_cons_succ, List.getElem_cons_zero, Act.put, List.setIfInBounds_toArray, List.set_cons_zero, List.set_cons_succ]
        refine mixs_take 2 (v := ?_) rfl (by kernel_rfl) (fun _ _ _ h => h) (by kernel_rfl) (by assumption) (fun s => ?hy) ?_; case hy => (go_simp <;> with_reducible rfl)
        try simp only [List.getElem_toArray, List.getElem_cons_succ, List.getElem_cons_zero, Act.put, List.setIfInBounds_toArray, List.set_cons_zero, List.set_cons_succ]
        refine mixs_take 3 (v := ?_) rfl (by kernel_rfl) (fun _ _ _ h => h) (by kernel_rfl) (by assumption) (fun s => ?hy) ?_; case hy => (go_simp <;> with_reducible rfl)
        try simp only [List.getElem_toArray, List.getElem_cons_succ, List.getElem_cons_zero, Act.put, List.setIfInBounds_toArray, List.set_cons_zero, List.set_cons_succ]
        refine mixs_take 4 (v := ?_) rfl (by kernel_rfl) (fun _ _ _ h => h) (by kernel_rfl) (by assumption) (fun s => ?hy) ?_; case hy => (go_simp <;> with_reducible rfl)
        try simp only [List.getElem_toArray, List.getElem_cons_succ, List.getElem_cons_zero, Act.put, List.setIfInBounds_toArray, List.set_cons_zero, List.set_cons_succ]
        refine mixs_skip 5 rfl (by kernel_rfl) (fun _ _ _ h => h) (by kernel_rfl) (by assumption) ?_
        try simp only [List.getElem_toArray, List.getElem_cons_succ, List.getElem_cons_zero, Act.put, List.setIfInBounds_toArray, List.set_cons_zero, List.set_cons_succ]
        refine mixs_skip 6 rfl (by kernel_rfl) (fun _ _ _ h => h) (by kernel_rfl) (by assumption) ?_
        try simp only [List.getElem_toArray, List.getElem_cons_succ, List.getElem_cons_zero, Act.put, List.setIfInBounds_toArray, List.set_cons_zero, List.set_cons_succ]
        refine mixs_skip 7 rfl (by kernel_rfl) (fun _ _ _ h => h) (by kernel_rfl) (by assumption) ?_
        try simp only [List.getElem_toArray, List.getElem_cons_succ, List.getElem_cons_zero, Act.put, List.setIfInBounds_toArray, List.set_cons_zero, List.set_cons_succ]
        refine mixs_skip 8 rfl (by kernel_rfl) (fun _ _ _ h => h) (by kernel_rfl) (by assumption) ?_
        try simp only [List.getElem_toArray, List.getElem_cons_succ, List.getElem_cons_zero, Act.put, List.setIfInBounds_toArray, List.set_cons_zero, List.set_cons_succ]
        refine mixs_skip 9 rfl (by kernel_rfl) (fun _ _ _ h => h) (by kernel_rfl) (by assumption) ?_
        try simp only [List.getElem_toArray, List.getElem_cons_succ, List.getElem_cons_zero, Act.put, List.setIfInBounds_toArray, List.set_cons_zero, List.set_cons_succ]
        refine mixs_skip 10 rfl (by kernel_rfl) (fun _ _ _ h => h) (by kernel_rfl) (by assumption) ?_
        try simp only [List.getElem_toArray, List.getElem_cons_succ, List.getElem_cons_zero, Act.put, List.setIfInBounds_toArray, List.set_cons_zero, List.set_cons_succ]
        refine mixs_skip 11 rfl (by kernel_rfl) (fun _ _ _ h => h) (by kernel_rfl) (by assumption) ?_
        try simp only [List.getElem_toArray, List.getElem_cons_succ, List.getElem_cons_zero, Act.put, List.setIfInBounds_toArray, List.set_cons_zero, List.set_cons_succ]
        refine mixs_skip 12 rfl (by kernel_rfl) (fun _ _ _ h => h) (by kernel_rfl) (by assumption) ?_
        try simp only [List.getElem_toArray, List.getElem_cons_succ, List.getElem_cons_zero, Act.put, List.setIfInBounds_toArray, List.set_cons_zero, List.set_cons_succ]
        refine mixs_skip 13 rfl (by kernel_rfl) (fun _ _ _ h => h) (by kernel_rfl) (by assumption) ?_
        try simp only [List.getElem_toArray, List.getElem_cons_succ, List.getElem_cons_zero, Act.put, List.setIfInBounds_toArray, List.set_cons_zero, List.set_cons_succ]
        refine mixs_skip 14 rfl (by kernel_rfl) (fun _ _ _ h => h) (by kernel_rfl) (by assumption) ?_
        try simp only [List.getElem_toArray, List.getElem_cons_succ, List.getElem_cons_zero, Act.put, List.setIfInBounds_toArray, List.set_cons_zero, List.set_cons_succ]
        refine mixs_take 15 (v := ?_) rfl (by kernel_rfl) (fun _ _ _ h => h) (by kernel_rfl) (by assumption) (fun s => ?hy) ?_; case hy => (go_simp <;> with_reducible rfl)
        try simp only [List.getElem_toArray, List.getElem_cons_succ, List.getElem_cons_zero, Act.put, List.setIfInBounds_toArray, List.set_cons_zero, List.set_cons_succ]
        refine wpAnyH_done (by kernel_rfl) ?_ _
        clear k0
        go_wp2_with (first
          | ((with_reducible refine wpList_build0_st hS rfl rfl Try.underlying27 ei ?_); intro g2 w3 hS1; clear hS; have hS := hS1; clear hS1)
          | ((with_reducible refine wpList_loadall_st 1 hS rfl rfl rfl rfl ?_ hsx ?_); focus (simp [rowB, go_sem]; done))
          | (refine wpList_of_op fun K hK => op_build1_st (by with_unfolding_all rfl) hS rfl Try.underlying27 ei (cs := (Value.int .i64 kind :: .int .i64 id :: .int .i64 ver :: .int .u32 lab :: RF).toArray) rfl (by rw [List.size_toArray]; exact hxl) (by decide) ?_; intro g3 w3 hS1; refine hK _ _ ?_; clear hK hS; have hS := hS1; clear hS1)
          | ((with_reducible refine wpList_app_st (m := 1) 1 hS rfl rfl rfl Try.underlying27 ei rfl (Src.slice Try.underlying27 (hS.blksl2 0 rfl) hxl) rfl (fun u hu => List.all_eq_true.1 hxo u hu) (by omega) (by unfold maxLen; omega) ?_); intro v6 w6 hS1; clear hS; simp only [List.set_cons_zero, List.set_cons_succ] at hS1; have hS := hS1.drop; clear hS1; obtain ⟨a6, c6, rfl, -⟩ := hS.row 0 rfl)
          | ((with_reducible refine wpList_app_st 0 hS rfl rfl rfl Try.underlying27 ei rfl (Src.slice Try.underlying27 (hS.sl hs1.out) hl1.out) rfl (hone1.out _) (by omega) (by unfold maxLen; omega) ?_); intro v5 w6 hS1; clear hS; simp only [List.set_cons_zero, Nat.zero_add, List.nil_append] at hS1; have hS := hS1; clear hS1; obtain ⟨a5, c5, rfl, -⟩ := hS.row 0 rfl)
          | ((with_reducible refine wpList_app_st 0 hS rfl rfl rfl Try.underlying27 ei rfl (Src.slice Try.underlying27 (hS.sl hs2.out) hl2.out) rfl (hone1.out _) (by omega) (by unfold maxLen; omega) ?_); intro v7 w6 hS1; clear hS; simp only [List.set_cons_zero] at hS1; have hS := hS1; clear hS1; obtain ⟨a7, c7, rfl, -⟩ := hS.row 0 rfl)
          | ((with_reducible refine wpList_app_st (news := []) (m := 0) 0 hS rfl rfl rfl Try.underlying27 ei rfl (Src.slice Try.underlying27 (Sl.nil _ _) (by simp)) rfl (by simp) (by omega) (by unfold maxLen; omega) ?_); intro v7 w6 hS1; clear hS; simp only [List.set_cons_zero] at hS1; have hS := hS1; clear hS1; obtain ⟨a7, c7, rfl, -⟩ := hS.row 0 rfl))
        go_ret
        exact fin.out _ _ _ _ _ _ (by omega) (by rw [hPX.out] <;> simp) hS
      · go_wp2_with fail
        refine mixs_begin (by kernel_rfl) hS ?_
        clear hS
        intro w2 hS
        refine mixs_take 0 (v := ?_) rfl (by kernel_rfl) (fun _ _ _ h => h) (by kernel_rfl) (by assumption) (fun s => ?hy) ?_; case hy => (go_simp <;> with_reducible rfl)
        try simp only [List.getElem_toArray, List.getElem_cons_succ, List.getElem_cons_zero, Act.put, List.setIfInBounds_toArray, List.set_cons_zero, List.set_cons_succ]
        refine mixs_take 1 (v := ?_) rfl (by kernel_rfl) (fun _ _ _ h => h) (by kernel_rfl) (by assumption) (fun s => ?hy) ?_; case hy => (go_simp <;> with_reducible rfl)
        try simp only [List.getElem_toArray, List.getElem_cons_succ, List.getElem_cons_zero, Act.put, List.setIfInBounds_toArray, List.set_cons_zero, List.set_cons_succ]
        refine mixs_take 2 (v := ?_) rfl (by kernel_rfl) (fun _ _ _ h => h) (by kernel_rfl) (by assumption) (fun s => ?hy) ?_; case hy => (go_simp <;> with_reducible rfl)
        try simp only [List.getElem_toArray, List.getElem_cons_succ, List.getElem_cons_zero, Act.put, List.setIfInBounds_toArray, List.set_cons_zero, List.set_cons_succ]
        refine mixs_take 3 (v := ?_) rfl (by kernel_rfl) (fun _ _ _ h => h) (by kernel_rfl) (by assumption) (fun s => ?hy) ?_; case hy => (go_simp <;> with_reducible rfl)
        try simp only [List.getElem_toArray, List.getElem_cons_succ, List.getElem_cons_zero, Act.put, List.setIfInBounds_toArray, List.set_cons_zero, List.set_cons_succ]
        refine mixs_take 4 (v := ?_) rfl (by kernel_rfl) (fun _ _ _ h => h) (by kernel_rfl) (by assumption) (fun s => ?hy) ?_; case hy => (go_simp <;> with_reducible rfl)
        try simp only [List.getElem_toArray, List.getElem_cons_succ, List.getElem_cons_zero, Act.put, List.setIfInBounds_toArray, List.set_cons_zero, List.set_cons_succ]
        refine mixs_skip 5 rfl (by kernel_rfl) (fun _ _ _ h => h) (by kernel_rfl) (by assumption) ?_
        try simp only [List.getElem_toArray, List.getElem_cons_succ, List.getElem_cons_zero, Act.put, List.setIfInBounds_toArray, List.set_cons_zero, List.set_cons_succ]
        refine mixs_skip 6 rfl (by kernel_rfl) (fun _ _ _ h => h) (by kernel_rfl) (by assumption) ?_
        try simp only [List.getElem_toArray, List.getElem_cons_succ, List.getElem_cons_zero, Act.put, List.setIfInBounds_toArray, List.set_cons_zero, List.set_cons_succ]
        refine mixs_skip 7 rfl (by kernel_rfl) (fun _ _ _ h => h) (by kernel_rfl) (by assumption) ?_
        try simp only [List.getElem_toArray, List.getElem_cons_succ, List.getElem_cons_zero, Act.put, List.setIfInBounds_toArray, List.set_cons_zero, List.set_cons_succ]
        refine mixs_skip 8 rfl (by kernel_rfl) (fun _ _ _ h => h) (by kernel_rfl) (by assumption) ?_
        try simp only [List.getElem_toArray, List.getElem_cons_succ, List.getElem_cons_zero, Act.put, List.setIfInBounds_toArray, List.set_cons_zero, List.set_cons_succ]
        refine mixs_skip 9 rfl (by kernel_rfl) (fun _ _ _ h => h) (by kernel_rfl) (by assumption) ?_
        try simp only [List.getElem_toArray, List.getElem_cons_succ, List.getElem_cons_zero, Act.put, List.setIfInBounds_toArray, List.set_cons_zero, List.set_cons_succ]
        refine mixs_skip 10 rfl (by kernel_rfl) (fun _ _ _ h => h) (by kernel_rfl) (by assumption) ?_
        try simp only [List.getElem_toArray, List.getElem_cons_succ, List.getElem_cons_zero, Act.put, List.setIfInBounds_toArray, List.set_cons_zero, List.set_cons_succ]
        refine mixs_skip 11 rfl (by kernel_rfl) (fun _ _ _ h => h) (by kernel_rfl) (by assumption) ?_
        try simp only [List.getElem_toArray, List.getElem_cons_succ, List.getElem_cons_zero, Act.put, List.setIfInBounds_toArray, List.set_cons_zero, List.set_cons_succ]
        refine mixs_skip 12 rfl (by kernel_rfl) (fun _ _ _ h => h) (by kernel_rfl) (by assumption) ?_
        try simp only [List.getElem_toArray, List.getElem_cons_succ, List.getElem_cons_zero, Act.put, List.setIfInBounds_toArray, List.set_cons_zero, List.set_cons_succ]
        refine mixs_skip 13 rfl (by kernel_rfl) (fun _ _ _ h => h) (by kernel_rfl) (by assumption) ?_
        try simp only [List.getElem_toArray, List.getElem_cons_succ, List.getElem_cons_zero, Act.put, List.setIfInBounds_toArray, List.set_cons_zero, List.set_cons_succ]
        refine mixs_skip 14 rfl (by kernel_rfl) (fun _ _ _ h => h) (by kernel_rfl) (by assumption) ?_
        try simp only [List.getElem_toArray, List.getElem_cons_succ, List.getElem_cons_zero, Act.put, List.setIfInBounds_toArray, List.set_cons_zero, List.set_cons_succ]
        refine mixs_take 15 (v := ?_) rfl (by kernel_rfl) (fun _ _ _ h => h) (by kernel_rfl) (by assumption) (fun s => ?hy) ?_; case hy => (go_simp <;> with_reducible rfl)
        try simp only [List.getElem_toArray, List.getElem_cons_succ, List.getElem_cons_zero, Act.put, List.setIfInBounds_toArray, List.set_cons_zero, List.set_cons_succ]
        refine wpAnyH_done (by kernel_rfl) ?_ _
        clear k0
        go_wp2_with (first
          | ((with_reducible refine wpList_build0_st hS rfl rfl Try.underlying27 ei ?_); intro g2 w3 hS1; clear hS; have hS := hS1; clear hS1)
          | ((with_reducible refine wpList_loadall_st 1 hS rfl rfl rfl rfl ?_ hsx ?_); focus (simp [rowB, go_sem]; done))
          | (refine wpList_of_op fun K hK => op_build1_st (by with_unfolding_all rfl) hS rfl Try.underlying27 ei (cs := (Value.int .i64 kind :: .int .i64 id :: .int .i64 ver :: .int .u32 lab :: RF).toArray) rfl (by rw [List.size_toArray]; exact hxl) (by decide) ?_; intro g3 w3 hS1; refine hK _ _ ?_; clear hK hS; have hS := hS1; clear hS1)
          | ((with_reducible refine wpList_app_st (m := 1) 1 hS rfl rfl rfl Try.underlying27 ei rfl (Src.slice Try.underlying27 (hS.blksl2 0 rfl) hxl) rfl (fun u hu => List.all_eq_true.1 hxo u hu) (by omega) (by unfold maxLen; omega) ?_); intro v6 w6 hS1; clear hS; simp only [List.set_cons_zero, List.set_cons_succ] at hS1; have hS := hS1.drop; clear hS1; obtain ⟨a6, c6, rfl, -⟩ := hS.row 0 rfl)
          | ((with_reducible refine wpList_app_st 0 hS rfl rfl rfl Try.underlying27 ei rfl (Src.slice Try.underlying27 (hS.sl hs1.out) hl1.out) rfl (hone1.out _) (by omega) (by unfold maxLen; omega) ?_); intro v5 w6 hS1; clear hS; simp only [List.set_cons_zero, Nat.zero_add, List.nil_append] at hS1; have hS := hS1; clear hS1; obtain ⟨a5, c5, rfl, -⟩ := hS.row 0 rfl)
          | ((with_reducible refine wpList_app_st 0 hS rfl rfl rfl Try.underlying27 ei rfl (Src.slice Try.underlying27 (hS.sl hs2.out) hl2.out) rfl (hone1.out _) (by omega) (by unfold maxLen; omega) ?_); intro v7 w6 hS1; clear hS; simp only [List.set_cons_zero] at hS1; have hS := hS1; clear hS1; obtain ⟨a7, c7, rfl, -⟩ := hS.row 0 rfl)
          | ((with_reducible refine wpList_app_st (news := []) (m := 0) 0 hS rfl rfl rfl Try.underlying27 ei rfl (Src.slice Try.underlying27 (Sl.nil _ _) (by simp)) rfl (by simp) (by omega) (by unfold maxLen; omega) ?_); intro v7 w6 hS1; clear hS; simp only [List.set_cons_zero] at hS1; have hS := hS1; clear hS1; obtain ⟨a7, c7, rfl, -⟩ := hS.row 0 rfl))
        go_ret
        exact fin.out _ _ _ _ _ _ (by omega) (by rw [hPX.out] <;> simp) hS
end Go.Proofs.Ytajldelodnjmoaa
end

section
/- The document's net. -/
set_option linter.unusedSimpArgs false
set_option linter.unusedVariables false
namespace Go.Ofp
open Go.RowKit
theorem refStep_some {l : List Tn} {out : List It} {i : Nat} (hi : i < l.length) : refStep l out i = if (firstOf (l.take i) l[i].id).isNone then (match netAt l l[i].id with | some x => putIt x out | none => out) else out := by
  unfold refStep
  rw [List.getElem?_eq_getElem hi]
  rfl
theorem putIt_length (x : It) : ∀ l : List It, (putIt x l).length = l.length + 1
  | [] => rfl
  | y :: r => by
    unfold putIt
    split
    · simp [putIt_length x r]
    · simp
theorem refNet_length (l : List Tn) : ∀ n, (refNet l n).length ≤ n
  | 0 => by simp [refNet]
  | n + 1 => by
    rw [refNet_succ]
    have ih := refNet_length l n
    unfold refStep
    split
    · split
      · split
        · rw [putIt_length]; omega
        · omega
      · omega
    · omega
theorem putIt_all {p : It → Prop} {x : It} {l : List It} (hx : p x) (hl : ∀ y ∈ l, p y) : ∀ y ∈ putIt x l, p y := by
  intro y hy
  rcases (putIt_mem x y l).1 hy with rfl | h
  · exact hx
  · exact hl y h
theorem firstOf_at {l : List Tn} {i : Nat} (hi : i < l.length) (h : firstOf (l.take i) l[i].id = none) : firstOf l l[i].id = some l[i] := by
  have e : l = l.take i ++ (l[i] :: l.drop (i + 1)) := by rw [← List.drop_eq_getElem_cons hi, List.take_append_drop]
  have e2 : firstOf l l[i].id = firstOf (l.take i ++ (l[i] :: l.drop (i + 1))) l[i].id := congrArg (fun z => firstOf z l[i].id) e
  rw [e2, firstOf_append, h, Option.none_or]
  exact List.find?_cons_of_pos (by simp)
/-- The last turn of the i-th turn's card, among the first q. -/
def curOf (l : List Tn) (i q : Nat) (hi : i < l.length) : Tn := (lastOf (l.take q) l[i].id).getD l[i]
theorem curOf_step {l : List Tn} {i q : Nat} (hi : i < l.length) (hq : q < l.length) : curOf l i (q + 1) hi = if l[q].id = l[i].id then l[q] else curOf l i q hi := by
  unfold curOf
  rw [lastOf_take hq]
  split <;> rfl
theorem curOf_end {l : List Tn} {i : Nat} (hi : i < l.length) (h : firstOf (l.take i) l[i].id = none) : netAt l l[i].id = itemOf l[i].old (curOf l i l.length hi) := by
  obtain ⟨u, hu⟩ := first_last (firstOf_at hi h)
  unfold netAt curOf
  rw [firstOf_at hi h, List.take_length, hu]
  rfl
theorem curOf_mem {l : List Tn} {i q : Nat} (hi : i < l.length) : curOf l i q hi ∈ l := by
  unfold curOf
  cases h : lastOf (l.take q) l[i].id with
  | none => exact List.getElem_mem hi
  | some u => exact List.mem_of_mem_take (lastOf_mem h).1
end Go.Ofp
namespace Go.Proofs.Ytajldelodnjmoaa
open Go.RowKit Go.Ofp
set_option linter.unusedVariables false
set_option maxRecDepth 100000
set_option maxHeartbeats 4000000

theorem rnet_any (a : Option Addr) (n c : Nat) (l : List Tn) (w : World) (hl : Lst tnRow TnIn w a n c l) (hn : n ≤ 999) :
    Calls Try.prog 17 #[.slice a n c] w fun e w' => ∃ g' c', e = .returned (.slice (some ⟨g', 0, none⟩) (refNet l n).length c') ∧ St w [] [Ch.row 50 28 (.slice (some ⟨g', 0, none⟩) (refNet l n).length c') (refNet l n).length ((refNet l n).map itRow).flatten] w' := by
  have hS := St.start w
  have et := elem_turn
  have ei := elem_item
  have cF := Lib.hid fun (b off i : Nat) (ha : a = some ⟨b, off, none⟩) (hi : i < l.length) (W : World) (hb : Below w.heap.size w W) => rfirst_any b off n c i l W (hl.below hb |> fun h => by rw [ha] at h; exact h) (by omega) hi
  have cP : ∀ (g m cc : Nat) (N : List It) (x : It) (W : World), (∀ y ∈ N, y.c.f.length = 8) → x.c.f.length = 8 → N.length = m → m ≤ cc → cc ≤ maxLen → m ≤ 1000 → Sl W (some ⟨g, 0, none⟩) (N.map itRow).flatten →
      Calls Try.prog 54 #[.slice (some ⟨g, 0, none⟩) m cc, .agg (itRow x).toArray] W fun e w' => ∃ g' c', e = .returned (.slice (some ⟨g', 0, none⟩) (m + 1) c') ∧ St W [] [Ch.row 50 28 (.slice (some ⟨g', 0, none⟩) (m + 1) c') (m + 1) ((putIt x N).map itRow).flatten] w' := by
    intro g m cc N x W h1 h2 h3 h4 h5 h6 h7
    refine (rput23_any g 0 m cc N x W ⟨h7, h3, h4, h5, h1⟩ h2 h6).mono ?_
    rintro e w' ⟨a', c', rfl, hk⟩
    obtain ⟨g', c'', e', -⟩ := hk.rowat 0 rfl (by omega)
    cases e'
    exact ⟨g', _, rfl, hk⟩
  replace cP := Lib.hid cP
  have hlen := Lib.hid hl.len
  have hlens := Lib.hid (tn_lens hl)
  have hbase := Lib.hid (hl.base (by decide) hlens.out)
  have hf8 := Lib.hid (show ∀ t ∈ l, t.c.f.length = 8 from fun t ht => (hl.mem t ht).c.len)
  replace hl := Lib.hid hl
  have hrl := Lib.hid fun i => refNet_length l i
  go_enter Try.func17, Try.ntmps17
  go_wp2_with (first
    | ((with_reducible refine wpList_build0_st hS rfl rfl Try.underlying27 ei ?_); intro g2 w3 hS1; clear hS; have hS := hS1; clear hS1))
  go_loopg [3, 4] n (fun gk vo vx wr => ∃ (i go co : Nat) (N : List It), i + gk = n ∧ vx = .int .i64 i ∧ vo = .slice (some ⟨go, 0, none⟩) N.length co ∧ Hid (refNet l i = N) ∧ Hid (∀ y ∈ N, y.c.f.length = 8) ∧ St w [] [Ch.row 50 28 (.slice (some ⟨go, 0, none⟩) N.length co) N.length (N.map itRow).flatten] wr)
  case atStart => exact ⟨0, g2, 0, [], Nat.zero_add _, rfl, rfl, Lib.hid rfl, Lib.hid (by simp), hS⟩
  case round =>
    clear hS
    obtain ⟨i, go, co, N, hi, rfl, rfl, hN, hNf, hS⟩ := hrel
    have hNi : N.length ≤ i := by rw [← hN.out]; exact hrl.out i
    by_cases hlt : i < n
    · have hil : i < l.length := by rw [hlen.out]; exact hlt
      obtain ⟨b, off, rfl⟩ := hbase.out (by omega)
      have hcF := cF.out b off i rfl hil
      have hsuc := refNet_succ l i
      rw [hN.out, refStep_some hil] at hsuc
      cases hfi : firstOf (l.take i) l[i].id with
      | some u =>
        rw [hfi] at hsuc hcF
        have hN2 : refNet l (i + 1) = N := hsuc
        replace hN2 := Lib.hid hN2
        replace hcF := Lib.hid hcF
        clear hsuc hfi
        go_wp2_with (first
          | (go_at_call 53; (with_reducible refine (hcF.out _ hS.below).mono ?_); rintro _ w9 ⟨rfl, hk9⟩; have hS1 := hS.keepB hk9; clear hk9 hS; have hS := hS1; clear hS1))
        go_roundg (n - (i + 1))
        case measure => omega
        case rel => exact ⟨i + 1, go, co, N, by omega, by go_num, rfl, hN2, hNf, hS⟩
      | none =>
        have hnet := curOf_end hil hfi
        rw [hlen.out] at hnet
        rw [hfi] at hsuc hcF
        rw [hnet] at hsuc
        have hcl : ∀ q (hq : q < l.length), w.cell? ⟨b, off + q * 31 + 1, none⟩ = some (.int .i64 l[q].id) := fun q hq => hl.out.rowb hlens.out q hq 1 _ rfl
        have zi := hcl i hil
        have zo : w.cell? ⟨b, off + i * 31 + 2, none⟩ = some (.int .i64 l[i].old) := hl.out.rowb hlens.out i hil 2 _ rfl
        have hrow := Lib.hid fun q (hq : q < l.length) => hl.out.rowb hlens.out q hq
        have hcs := Lib.hid fun q (hq : q < l.length) => curOf_step hil hq
        have hc0 : curOf l i i hil = l[i] := by unfold curOf; cases h : lastOf (l.take i) l[i].id with
          | none => rfl
          | some u => exact absurd (lastOf_mem h).2 (firstOf_none.1 hfi u (lastOf_mem h).1)
        have hrowi := Lib.hid (hrow.out i hil)
        have hrli := hlens.out _ (List.getElem_mem hil)
        have hroi := tnRow_one l[i]
        have hcm := Lib.hid fun q => curOf_mem (q := q) hil
        replace hcl := Lib.hid hcl
        replace hsuc := Lib.hid hsuc
        replace hcF := Lib.hid hcF
        clear hnet hfi
        have hc0' : (tnRow (curOf l i i hil)) = tnRow l[i] := by rw [hc0]
        replace hc0' := Lib.hid hc0'
        clear hc0
        generalize curOf l i = cur at *
        generalize tnRow l[i] = RT at *
        go_wp2_with (first
          | (go_at_call 53; (with_reducible refine (hcF.out _ hS.below).mono ?_); rintro _ w9 ⟨rfl, hk9⟩; have hS1 := hS.keepB hk9; clear hk9 hS; have hS := hS1; clear hS1)
          | (with_reducible refine wpList_rangerow (n := 31) (range_old hS hrowi.out) rfl rfl rfl (by kernel_rfl) (by kernel_rfl) hrli ?_)
          | ((with_reducible refine wpList_alloc_st (L := [_]) hS rfl rfl et ?_); intro gl w1 hS1; clear hS; have hS := hS1; clear hS1)
          | ((with_reducible refine wpList_storerow_st (n := 31) (vs := RT) 0 hS rfl rfl rfl rfl (by kernel_rfl) rfl hrli hroi (by kernel_rfl) ?_); intro w1 hS1; clear hS; have hS := hS1; clear hS1; try simp only [List.set_cons_zero, List.set_cons_succ, List.setIfInBounds_toArray, List.take_succ_cons, List.take_zero, List.drop_succ_cons, List.drop_zero, List.nil_append, List.cons_append, List.append_nil, List.drop_nil, List.take_nil, List.length_cons, List.length_nil, Nat.zero_add, Nat.add_zero, Nat.reduceAdd] at hS))
        rw [← hc0'.out] at hS
        clear hc0' hrowi hrli hroi
        go_loopg [6] (n - i) (fun gk vx wr => ∃ q : Nat, q + gk = n ∧ i ≤ q ∧ vx = .int .i64 q ∧ St w [] [Ch.blk gl 52 (tnRow (cur q hil)).toArray, Ch.row 50 28 (.slice (some ⟨go, 0, none⟩) N.length co) N.length (N.map itRow).flatten] wr)
        case atStart => exact ⟨i, by omega, Nat.le_refl _, rfl, hS⟩
        case round =>
          clear hS
          obtain ⟨q, hq, hiq, rfl, hS⟩ := hrel
          by_cases hlt2 : q < n
          · have hql : q < l.length := by rw [hlen.out]; exact hlt2
            have zq := hcl.out q hql
            have hst := hcs.out q hql
            have kq := hS.kold0 zq
            have ki := hS.kold0 zi
            have hrq := hrow.out q hql
            have hlq := hlens.out _ (List.getElem_mem hql)
            have hoq := tnRow_one l[q]
            by_cases he : l[q].id = l[i].id
            · have de : (l[q].id == l[i].id) = true := by simpa using he
              rw [if_pos he] at hst
              have hst2 : tnRow (cur (q + 1) hil) = tnRow l[q] := by rw [hst]
              replace hst2 := Lib.hid hst2
              replace hrq := Lib.hid hrq
              have hcl2 : (tnRow (cur q hil)).length = 31 := hlens.out _ (hcm.out q)
              clear hst he
              generalize tnRow l[q] = RQ at *
              generalize l[q].id = idq at *
              generalize l[i].id = idi at *
              go_wp2_with fail
              refine mixs_begin (by kernel_rfl) hS ?_
              clear hS
              intro w7 hS
              refine mixs_take 0 (v := ?_) rfl (by kernel_rfl) (fun _ _ _ h => h) (by kernel_rfl) (by assumption) (fun s => ?hy) ?_; case hy => (go_simp <;> with_reducible rfl)
              try simp only [List.getElem_toArray, List.getElem_cons_succ, List.getElem_cons_zero, Act.put, List.setIfInBounds_toArray, List.set_cons_zero, List.set_cons_succ]
              refine mixs_take 1 (v := ?_) rfl (by kernel_rfl) (fun _ _ _ h => h) (by kernel_rfl) (by assumption) (fun s => ?hy) ?_; case hy => (go_simp <;> with_reducible rfl)
              try simp only [List.getElem_toArray, List.getElem_cons_succ, List.getElem_cons_zero, Act.put, List.setIfInBounds_toArray, List.set_cons_zero, List.set_cons_succ]
              refine mixs_take 2 (v := ?_) rfl (by kernel_rfl) (fun _ _ _ h => h) (by kernel_rfl) (by assumption) (fun s => ?hy) ?_; case hy => (go_simp <;> with_reducible rfl)
              try simp only [List.getElem_toArray, List.getElem_cons_succ, List.getElem_cons_zero, Act.put, List.setIfInBounds_toArray, List.set_cons_zero, List.set_cons_succ]
              refine mixs_take 3 (v := ?_) rfl (by kernel_rfl) (fun _ _ _ h => h) (by kernel_rfl) (by assumption) (fun s => ?hy) ?_; case hy => (go_simp <;> with_reducible rfl)
              try simp only [List.getElem_toArray, List.getElem_cons_succ, List.getElem_cons_zero, Act.put, List.setIfInBounds_toArray, List.set_cons_zero, List.set_cons_succ]
              refine mixs_take 4 (v := ?_) rfl (by kernel_rfl) (fun _ _ _ h => h) (by kernel_rfl) (by assumption) (fun s => ?hy) ?_; case hy => (go_simp <;> with_reducible rfl)
              try simp only [List.getElem_toArray, List.getElem_cons_succ, List.getElem_cons_zero, Act.put, List.setIfInBounds_toArray, List.set_cons_zero, List.set_cons_succ]
              refine mixs_take 5 (v := ?_) rfl (by kernel_rfl) (fun _ _ _ h => h) (by kernel_rfl) (by assumption) (fun s => ?hy) ?_; case hy => (go_simp <;> with_reducible rfl)
              try simp only [List.getElem_toArray, List.getElem_cons_succ, List.getElem_cons_zero, Act.put, List.setIfInBounds_toArray, List.set_cons_zero, List.set_cons_succ]
              refine mixs_take 6 (v := ?_) rfl (by kernel_rfl) (fun _ _ _ h => h) (by kernel_rfl) (by assumption) (fun s => ?hy) ?_; case hy => (go_simp <;> with_reducible rfl)
              try simp only [List.getElem_toArray, List.getElem_cons_succ, List.getElem_cons_zero, Act.put, List.setIfInBounds_toArray, List.set_cons_zero, List.set_cons_succ]
              refine mixs_take 7 (v := ?_) rfl (by kernel_rfl) (fun _ _ _ h => h) (by kernel_rfl) (by assumption) (fun s => ?hy) ?_; case hy => (go_simp <;> with_reducible rfl)
              try simp only [List.getElem_toArray, List.getElem_cons_succ, List.getElem_cons_zero, Act.put, List.setIfInBounds_toArray, List.set_cons_zero, List.set_cons_succ]
              refine mixs_take 8 (v := ?_) rfl (by kernel_rfl) (fun _ _ _ h => h) (by kernel_rfl) (by assumption) (fun s => ?hy) ?_; case hy => (go_simp <;> with_reducible rfl)
              try simp only [List.getElem_toArray, List.getElem_cons_succ, List.getElem_cons_zero, Act.put, List.setIfInBounds_toArray, List.set_cons_zero, List.set_cons_succ]
              refine mixs_take 9 (v := ?_) rfl (by kernel_rfl) (fun _ _ _ h => h) (by kernel_rfl) (by assumption) (fun s => ?hy) ?_; case hy => (go_simp <;> with_reducible rfl)
              try simp only [List.getElem_toArray, List.getElem_cons_succ, List.getElem_cons_zero, Act.put, List.setIfInBounds_toArray, List.set_cons_zero, List.set_cons_succ]
              refine mixs_take 10 (v := ?_) rfl (by kernel_rfl) (fun _ _ _ h => h) (by kernel_rfl) (by assumption) (fun s => ?hy) ?_; case hy => (go_simp <;> with_reducible rfl)
              try simp only [List.getElem_toArray, List.getElem_cons_succ, List.getElem_cons_zero, Act.put, List.setIfInBounds_toArray, List.set_cons_zero, List.set_cons_succ]
              refine wpAnyH_done (by kernel_rfl) ?_ _
              clear kq ki
              go_wp2_with (first
                | (with_reducible refine wpList_rangerow (n := 31) (range_old hS hrq.out) rfl rfl rfl (by kernel_rfl) (by kernel_rfl) hlq ?_)
                | ((with_reducible refine wpList_storerow_st (n := 31) (vs := RQ) 0 hS rfl rfl rfl rfl (by kernel_rfl) rfl hlq hoq (by simp [hcl2]) ?_); intro w1 hS1; clear hS; have hS := hS1; clear hS1))
              go_roundg (n - (q + 1))
              case measure => omega
              case rel =>
                refine ⟨q + 1, by omega, by omega, by go_num, ?_⟩
                rw [hst2.out]
                have h31 : (tnRow (cur q hil)).toArray.toList.drop (0 + 31) = [] := List.drop_of_length_le (by simp [hcl2])
                simp only [List.set_cons_zero, h31, List.take_zero, List.nil_append, List.append_nil] at hS
                exact hS
            · have de : (l[q].id == l[i].id) = false := by simpa using he
              rw [if_neg he] at hst
              replace hst := Lib.hid hst
              clear he hrq hlq hoq
              generalize l[q].id = idq at *
              generalize l[i].id = idi at *
              go_wp2_with fail
              refine mixs_begin (by kernel_rfl) hS ?_
              clear hS
              intro w7 hS
              refine mixs_take 0 (v := ?_) rfl (by kernel_rfl) (fun _ _ _ h => h) (by kernel_rfl) (by assumption) (fun s => ?hy) ?_; case hy => (go_simp <;> with_reducible rfl)
              try simp only [List.getElem_toArray, List.getElem_cons_succ, List.getElem_cons_zero, Act.put, List.setIfInBounds_toArray, List.set_cons_zero, List.set_cons_succ]
              refine mixs_take 1 (v := ?_) rfl (by kernel_rfl) (fun _ _ _ h => h) (by kernel_rfl) (by assumption) (fun s => ?hy) ?_; case hy => (go_simp <;> with_reducible rfl)
              try simp only [List.getElem_toArray, List.getElem_cons_succ, List.getElem_cons_zero, Act.put, List.setIfInBounds_toArray, List.set_cons_zero, List.set_cons_succ]
              refine mixs_take 2 (v := ?_) rfl (by kernel_rfl) (fun _ _ _ h => h) (by kernel_rfl) (by assumption) (fun s => ?hy) ?_; case hy => (go_simp <;> with_reducible rfl)
              try simp only [List.getElem_toArray, List.getElem_cons_succ, List.getElem_cons_zero, Act.put, List.setIfInBounds_toArray, List.set_cons_zero, List.set_cons_succ]
              refine mixs_take 3 (v := ?_) rfl (by kernel_rfl) (fun _ _ _ h => h) (by kernel_rfl) (by assumption) (fun s => ?hy) ?_; case hy => (go_simp <;> with_reducible rfl)
              try simp only [List.getElem_toArray, List.getElem_cons_succ, List.getElem_cons_zero, Act.put, List.setIfInBounds_toArray, List.set_cons_zero, List.set_cons_succ]
              refine mixs_take 4 (v := ?_) rfl (by kernel_rfl) (fun _ _ _ h => h) (by kernel_rfl) (by assumption) (fun s => ?hy) ?_; case hy => (go_simp <;> with_reducible rfl)
              try simp only [List.getElem_toArray, List.getElem_cons_succ, List.getElem_cons_zero, Act.put, List.setIfInBounds_toArray, List.set_cons_zero, List.set_cons_succ]
              refine mixs_take 5 (v := ?_) rfl (by kernel_rfl) (fun _ _ _ h => h) (by kernel_rfl) (by assumption) (fun s => ?hy) ?_; case hy => (go_simp <;> with_reducible rfl)
              try simp only [List.getElem_toArray, List.getElem_cons_succ, List.getElem_cons_zero, Act.put, List.setIfInBounds_toArray, List.set_cons_zero, List.set_cons_succ]
              refine mixs_take 6 (v := ?_) rfl (by kernel_rfl) (fun _ _ _ h => h) (by kernel_rfl) (by assumption) (fun s => ?hy) ?_; case hy => (go_simp <;> with_reducible rfl)
              try simp only [List.getElem_toArray, List.getElem_cons_succ, List.getElem_cons_zero, Act.put, List.setIfInBounds_toArray, List.set_cons_zero, List.set_cons_succ]
              refine mixs_take 7 (v := ?_) rfl (by kernel_rfl) (fun _ _ _ h => h) (by kernel_rfl) (by assumption) (fun s => ?hy) ?_; case hy => (go_simp <;> with_reducible rfl)
              try simp only [List.getElem_toArray, List.getElem_cons_succ, List.getElem_cons_zero, Act.put, List.setIfInBounds_toArray, List.set_cons_zero, List.set_cons_succ]
              refine mixs_take 8 (v := ?_) rfl (by kernel_rfl) (fun _ _ _ h => h) (by kernel_rfl) (by assumption) (fun s => ?hy) ?_; case hy => (go_simp <;> with_reducible rfl)
              try simp only [List.getElem_toArray, List.getElem_cons_succ, List.getElem_cons_zero, Act.put, List.setIfInBounds_toArray, List.set_cons_zero, List.set_cons_succ]
              refine mixs_take 9 (v := ?_) rfl (by kernel_rfl) (fun _ _ _ h => h) (by kernel_rfl) (by assumption) (fun s => ?hy) ?_; case hy => (go_simp <;> with_reducible rfl)
              try simp only [List.getElem_toArray, List.getElem_cons_succ, List.getElem_cons_zero, Act.put, List.setIfInBounds_toArray, List.set_cons_zero, List.set_cons_succ]
              refine mixs_take 10 (v := ?_) rfl (by kernel_rfl) (fun _ _ _ h => h) (by kernel_rfl) (by assumption) (fun s => ?hy) ?_; case hy => (go_simp <;> with_reducible rfl)
              try simp only [List.getElem_toArray, List.getElem_cons_succ, List.getElem_cons_zero, Act.put, List.setIfInBounds_toArray, List.set_cons_zero, List.set_cons_succ]
              refine wpAnyH_done (by kernel_rfl) ?_ _
              clear kq ki
              go_wp2_with fail
              go_roundg (n - (q + 1))
              case measure => omega
              case rel =>
                refine ⟨q + 1, by omega, by omega, by go_num, ?_⟩
                rw [hst.out]
                exact hS
          · have hqn : q = n := by omega
            subst hqn
            have hbm := hf8.out _ (hcm.out q)
            have zo' := hS.old zo (by simp)
            generalize cur q hil = bt at *
            generalize l[i].old = old at *
            obtain ⟨seq, id, o1, new, cc⟩ := bt
            dsimp only at hbm
            have hio : itemOf old ⟨seq, id, o1, new, cc⟩ = if old = new then none else if old = 0 then some ⟨1, cc⟩ else if new = 0 then some ⟨2, Cd.none id⟩ else some ⟨3, cc⟩ := rfl
            have hs2 := hsuc.out
            rw [hio] at hs2
            have hcP : ∀ x : It, x.c.f.length = 8 → ∀ W, Sl W (some ⟨go, 0, none⟩) (N.map itRow).flatten → Calls Try.prog 54 #[.slice (some ⟨go, 0, none⟩) N.length co, .agg (itRow x).toArray] W fun e w' => ∃ g' c', e = .returned (.slice (some ⟨g', 0, none⟩) (N.length + 1) c') ∧ St W [] [Ch.row 50 28 (.slice (some ⟨g', 0, none⟩) (N.length + 1) c') (N.length + 1) ((putIt x N).map itRow).flatten] w' := by
              obtain ⟨_, _, e1, -, -, hc1, hc2⟩ := hS.row 1 rfl
              cases e1
              exact fun x hx W h => cP.out go N.length co N x W hNf.out hx rfl hc1 hc2 (by omega) h
            have hp1 : ∀ W, Sl W (some ⟨go, 0, none⟩) (N.map itRow).flatten → Calls Try.prog 54 #[.slice (some ⟨go, 0, none⟩) N.length co, .agg (Value.int .i64 1 :: cdRow cc).toArray] W fun e w' => ∃ g' c', e = .returned (.slice (some ⟨g', 0, none⟩) (N.length + 1) c') ∧ St W [] [Ch.row 50 28 (.slice (some ⟨g', 0, none⟩) (N.length + 1) c') (N.length + 1) ((putIt ⟨1, cc⟩ N).map itRow).flatten] w' := hcP ⟨1, cc⟩ hbm
            have hp3 : ∀ W, Sl W (some ⟨go, 0, none⟩) (N.map itRow).flatten → Calls Try.prog 54 #[.slice (some ⟨go, 0, none⟩) N.length co, .agg (Value.int .i64 3 :: cdRow cc).toArray] W fun e w' => ∃ g' c', e = .returned (.slice (some ⟨g', 0, none⟩) (N.length + 1) c') ∧ St W [] [Ch.row 50 28 (.slice (some ⟨g', 0, none⟩) (N.length + 1) c') (N.length + 1) ((putIt ⟨3, cc⟩ N).map itRow).flatten] w' := hcP ⟨3, cc⟩ hbm
            have hp2 : ∀ W, Sl W (some ⟨go, 0, none⟩) (N.map itRow).flatten → Calls Try.prog 54 #[.slice (some ⟨go, 0, none⟩) N.length co, .agg #[.int .i64 2, .int .i64 id, .int .i64 0, .int .u32 0, .int .i64 0, .int .i64 0, .string ⟨#[]⟩, .int .i64 0, .int .i64 0, .string ⟨#[]⟩, .int .i64 0, .int .i64 0, .string ⟨#[]⟩, .int .i64 0, .int .i64 0, .string ⟨#[]⟩, .int .i64 0, .int .i64 0, .string ⟨#[]⟩, .int .i64 0, .int .i64 0, .string ⟨#[]⟩, .int .i64 0, .int .i64 0, .string ⟨#[]⟩, .int .i64 0, .int .i64 0, .string ⟨#[]⟩]] W fun e w' => ∃ g' c', e = .returned (.slice (some ⟨g', 0, none⟩) (N.length + 1) c') ∧ St W [] [Ch.row 50 28 (.slice (some ⟨g', 0, none⟩) (N.length + 1) c') (N.length + 1) ((putIt ⟨2, Cd.none id⟩ N).map itRow).flatten] w' := hcP ⟨2, Cd.none id⟩ rfl
            replace hp1 := Lib.hid hp1
            replace hp2 := Lib.hid hp2
            replace hp3 := Lib.hid hp3
            have hcl2 : (cdRow cc).length = 27 := cdRow_lenT cc hbm
            have htr : tnRow ⟨seq, id, o1, new, cc⟩ = .int .i64 seq :: .int .i64 id :: .int .i64 o1 :: .int .i64 new :: cdRow cc := rfl
            rw [htr] at hS
            clear htr hcP hio hsuc
            have fin : ∀ (x : It) (W : World) (g9 c9 : Nat) (L : List Ch), refNet l (i + 1) = putIt x N → x.c.f.length = 8 → St w [] (Ch.row 50 28 (.slice (some ⟨g9, 0, none⟩) (N.length + 1) c9) (N.length + 1) ((putIt x N).map itRow).flatten :: L) W →
                ∃ (i' go' co' : Nat) (N' : List It), i' + (q - (i + 1)) = q ∧ Value.int .i64 ((i : Int) + 1) = .int .i64 i' ∧ Value.slice (some ⟨g9, 0, none⟩) (N.length + 1) c9 = .slice (some ⟨go', 0, none⟩) N'.length co' ∧ Hid (refNet l i' = N') ∧ Hid (∀ y ∈ N', y.c.f.length = 8) ∧ St w [] [Ch.row 50 28 (.slice (some ⟨go', 0, none⟩) N'.length co') N'.length (N'.map itRow).flatten] W := by
              intro x W g9 c9 L h1 h2 h3
              refine ⟨i + 1, g9, c9, putIt x N, by omega, by simp, by rw [putIt_length], Lib.hid h1, Lib.hid (putIt_all (p := fun y => y.c.f.length = 8) h2 hNf.out), ?_⟩
              rw [putIt_length]
              exact h3.one 0 rfl
            generalize cdRow cc = RC at *
            have hd4 : ((Value.int .i64 seq :: .int .i64 id :: .int .i64 o1 :: .int .i64 new :: RC).toArray.toList.drop 4).take 27 = RC := List.take_of_length_le (Nat.le_of_eq hcl2)
            have hb : ∀ k : Int, RC.zipIdx.foldl (fun cs x => cs.setIfInBounds (1 + x.2) x.1) #[Value.int .i64 k, .int .i64 0, .int .i64 0, .int .u32 0, .int .i64 0, .int .i64 0, .string ⟨#[]⟩, .int .i64 0, .int .i64 0, .string ⟨#[]⟩, .int .i64 0, .int .i64 0, .string ⟨#[]⟩, .int .i64 0, .int .i64 0, .string ⟨#[]⟩, .int .i64 0, .int .i64 0, .string ⟨#[]⟩, .int .i64 0, .int .i64 0, .string ⟨#[]⟩, .int .i64 0, .int .i64 0, .string ⟨#[]⟩, .int .i64 0, .int .i64 0, .string ⟨#[]⟩] = (Value.int .i64 k :: RC).toArray := fun k => by
              rw [foldl_put 1 RC 0 _ (by rw [hcl2]; exact Nat.le_refl _), hcl2]
              simp
            have hb1 := hb 1
            have hb3 := hb 3
            clear hb
            have hNm : N.length + 1 ≤ 1000 := by omega
            by_cases h1 : old = new
            · rw [if_pos h1] at hs2
              have hN2 : refNet l (i + 1) = N := hs2
              replace hN2 := Lib.hid hN2
              have d1 : (old == new) = true := by simpa using h1
              clear hs2 h1 fin
              go_wp2_with (first
                | (go_at_call 54; (with_reducible refine (hp1.out _ (hS.rowsl 1 rfl)).mono ?_); rintro _ w9 ⟨g9, c9, rfl, hk9⟩; have hS1 := hS.made hk9; clear hS hk9; have hS := hS1; clear hS1)
                | (go_at_call 54; (with_reducible refine (hp2.out _ (hS.rowsl 1 rfl)).mono ?_); rintro _ w9 ⟨g9, c9, rfl, hk9⟩; have hS1 := hS.made hk9; clear hS hk9; have hS := hS1; clear hS1)
                | (go_at_call 54; (with_reducible refine (hp3.out _ (hS.rowsl 1 rfl)).mono ?_); rintro _ w9 ⟨g9, c9, rfl, hk9⟩; have hS1 := hS.made hk9; clear hS hk9; have hS := hS1; clear hS1)
                | ((with_reducible refine wpList_loadrow_st (n := 27) 0 hS rfl rfl rfl rfl ?_ (by kernel_rfl) hd4 hcl2 ?_); focus (simp [rowB, go_sem]; done))
                | (with_reducible refine wpList_box_st hS rfl rfl rfl ?_; intro g1 w1 hS1; clear hS; replace hS := hS1; clear hS1) | (with_reducible refine wpList_box1_st hS rfl rfl rfl ?_; intro g1 w1 hS1; clear hS; replace hS := hS1; clear hS1) | (with_reducible refine wpList_alloc_st hS rfl rfl (by assumption) ?_; intro g1 w1 hS1; clear hS; replace hS := hS1; clear hS1) | (with_reducible refine wpList_alloc1_st hS rfl rfl (by assumption) rfl ?_; intro g1 w1 hS1; clear hS; replace hS := hS1; clear hS1) | ((with_reducible refine wpList_load_st 0 hS rfl rfl rfl rfl ?_ rfl ?_); focus (simp [scalarB, go_sem]; done)) | ((with_reducible refine wpList_loadall_st 0 hS rfl rfl rfl rfl ?_ (by kernel_rfl) ?_); focus (simp [rowB, go_sem]; done)) | ((with_reducible refine wpList_store_st 0 hS rfl rfl rfl rfl (by kernel_rfl) rfl rfl ?_); intro w1 hS1; clear hS; replace hS := hS1; clear hS1; try simp only [List.set_cons_zero, List.set_cons_succ, List.setIfInBounds_toArray, List.take_succ_cons, List.take_zero, List.drop_succ_cons, List.drop_zero, List.nil_append, List.cons_append, List.append_nil, List.drop_nil, List.take_nil, List.length_cons, List.length_nil, Nat.zero_add, Nat.add_zero, Nat.reduceAdd] at hS) | ((with_reducible refine wpList_storerow_st 0 hS rfl rfl rfl rfl (by kernel_rfl) rfl rfl rfl rfl ?_); intro w1 hS1; clear hS; replace hS := hS1; clear hS1; try simp only [List.set_cons_zero, List.set_cons_succ, List.setIfInBounds_toArray, List.take_succ_cons, List.take_zero, List.drop_succ_cons, List.drop_zero, List.nil_append, List.cons_append, List.append_nil, List.drop_nil, List.take_nil, List.length_cons, List.length_nil, Nat.zero_add, Nat.add_zero, Nat.reduceAdd] at hS))
              go_roundg (q - (i + 1))
              case measure => omega
              case rel => exact ⟨i + 1, go, co, N, by omega, by go_num, rfl, hN2, hNf, hS.drop⟩
            rw [if_neg h1] at hs2
            have d1 : (old == new) = false := by simpa using h1
            by_cases h2 : old = 0
            · rw [if_pos h2] at hs2
              have d2 : (old == 0) = true := by simpa using h2
              have hN2 : refNet l (i + 1) = putIt ⟨1, cc⟩ N := hs2
              have fin2 := Lib.hid fun W g9 c9 L h => fin ⟨1, cc⟩ W g9 c9 L hN2 hbm h
              clear hs2 hN2 h1 h2 fin
              go_wp2_with (first
                | (go_at_call 54; (with_reducible refine (hp1.out _ (hS.rowsl 1 rfl)).mono ?_); rintro _ w9 ⟨g9, c9, rfl, hk9⟩; have hS1 := hS.made hk9; clear hS hk9; have hS := hS1; clear hS1)
                | (go_at_call 54; (with_reducible refine (hp2.out _ (hS.rowsl 1 rfl)).mono ?_); rintro _ w9 ⟨g9, c9, rfl, hk9⟩; have hS1 := hS.made hk9; clear hS hk9; have hS := hS1; clear hS1)
                | (go_at_call 54; (with_reducible refine (hp3.out _ (hS.rowsl 1 rfl)).mono ?_); rintro _ w9 ⟨g9, c9, rfl, hk9⟩; have hS1 := hS.made hk9; clear hS hk9; have hS := hS1; clear hS1)
                | ((with_reducible refine wpList_loadrow_st (n := 27) 0 hS rfl rfl rfl rfl ?_ (by kernel_rfl) hd4 hcl2 ?_); focus (simp [rowB, go_sem]; done))
                | (with_reducible refine wpList_box_st hS rfl rfl rfl ?_; intro g1 w1 hS1; clear hS; replace hS := hS1; clear hS1) | (with_reducible refine wpList_box1_st hS rfl rfl rfl ?_; intro g1 w1 hS1; clear hS; replace hS := hS1; clear hS1) | (with_reducible refine wpList_alloc_st hS rfl rfl (by assumption) ?_; intro g1 w1 hS1; clear hS; replace hS := hS1; clear hS1) | (with_reducible refine wpList_alloc1_st hS rfl rfl (by assumption) rfl ?_; intro g1 w1 hS1; clear hS; replace hS := hS1; clear hS1) | ((with_reducible refine wpList_load_st 0 hS rfl rfl rfl rfl ?_ rfl ?_); focus (simp [scalarB, go_sem]; done)) | ((with_reducible refine wpList_loadall_st 0 hS rfl rfl rfl rfl ?_ (by kernel_rfl) ?_); focus (simp [rowB, go_sem]; done)) | ((with_reducible refine wpList_store_st 0 hS rfl rfl rfl rfl (by kernel_rfl) rfl rfl ?_); intro w1 hS1; clear hS; replace hS := hS1; clear hS1; try simp only [List.set_cons_zero, List.set_cons_succ, List.setIfInBounds_toArray, List.take_succ_cons, List.take_zero, List.drop_succ_cons, List.drop_zero, List.nil_append, List.cons_append, List.append_nil, List.drop_nil, List.take_nil, List.length_cons, List.length_nil, Nat.zero_add, Nat.add_zero, Nat.reduceAdd] at hS) | ((with_reducible refine wpList_storerow_st 0 hS rfl rfl rfl rfl (by kernel_rfl) rfl rfl rfl rfl ?_); intro w1 hS1; clear hS; replace hS := hS1; clear hS1; try simp only [List.set_cons_zero, List.set_cons_succ, List.setIfInBounds_toArray, List.take_succ_cons, List.take_zero, List.drop_succ_cons, List.drop_zero, List.nil_append, List.cons_append, List.append_nil, List.drop_nil, List.take_nil, List.length_cons, List.length_nil, Nat.zero_add, Nat.add_zero, Nat.reduceAdd] at hS))
              go_roundg (q - (i + 1))
              case measure => omega
              case rel => exact fin2.out _ _ _ _ hS
            rw [if_neg h2] at hs2
            have d2 : (old == 0) = false := by simpa using h2
            by_cases h3 : new = 0
            · rw [if_pos h3] at hs2
              have d3 : (new == 0) = true := by simpa using h3
              have hN2 : refNet l (i + 1) = putIt ⟨2, Cd.none id⟩ N := hs2
              have fin2 := Lib.hid fun W g9 c9 L h => fin ⟨2, Cd.none id⟩ W g9 c9 L hN2 rfl h
              clear hs2 hN2 h1 h2 h3 fin
              go_wp2_with (first
                | (go_at_call 54; (with_reducible refine (hp1.out _ (hS.rowsl 1 rfl)).mono ?_); rintro _ w9 ⟨g9, c9, rfl, hk9⟩; have hS1 := hS.made hk9; clear hS hk9; have hS := hS1; clear hS1)
                | (go_at_call 54; (with_reducible refine (hp2.out _ (hS.rowsl 1 rfl)).mono ?_); rintro _ w9 ⟨g9, c9, rfl, hk9⟩; have hS1 := hS.made hk9; clear hS hk9; have hS := hS1; clear hS1)
                | (go_at_call 54; (with_reducible refine (hp3.out _ (hS.rowsl 1 rfl)).mono ?_); rintro _ w9 ⟨g9, c9, rfl, hk9⟩; have hS1 := hS.made hk9; clear hS hk9; have hS := hS1; clear hS1)
                | ((with_reducible refine wpList_loadrow_st (n := 27) 0 hS rfl rfl rfl rfl ?_ (by kernel_rfl) hd4 hcl2 ?_); focus (simp [rowB, go_sem]; done))
                | (with_reducible refine wpList_box_st hS rfl rfl rfl ?_; intro g1 w1 hS1; clear hS; replace hS := hS1; clear hS1) | (with_reducible refine wpList_box1_st hS rfl rfl rfl ?_; intro g1 w1 hS1; clear hS; replace hS := hS1; clear hS1) | (with_reducible refine wpList_alloc_st hS rfl rfl (by assumption) ?_; intro g1 w1 hS1; clear hS; replace hS := hS1; clear hS1) | (with_reducible refine wpList_alloc1_st hS rfl rfl (by assumption) rfl ?_; intro g1 w1 hS1; clear hS; replace hS := hS1; clear hS1) | ((with_reducible refine wpList_load_st 0 hS rfl rfl rfl rfl ?_ rfl ?_); focus (simp [scalarB, go_sem]; done)) | ((with_reducible refine wpList_loadall_st 0 hS rfl rfl rfl rfl ?_ (by kernel_rfl) ?_); focus (simp [rowB, go_sem]; done)) | ((with_reducible refine wpList_store_st 0 hS rfl rfl rfl rfl (by kernel_rfl) rfl rfl ?_); intro w1 hS1; clear hS; replace hS := hS1; clear hS1; try simp only [List.set_cons_zero, List.set_cons_succ, List.setIfInBounds_toArray, List.take_succ_cons, List.take_zero, List.drop_succ_cons, List.drop_zero, List.nil_append, List.cons_append, List.append_nil, List.drop_nil, List.take_nil, List.length_cons, List.length_nil, Nat.zero_add, Nat.add_zero, Nat.reduceAdd] at hS) | ((with_reducible refine wpList_storerow_st 0 hS rfl rfl rfl rfl (by kernel_rfl) rfl rfl rfl rfl ?_); intro w1 hS1; clear hS; replace hS := hS1; clear hS1; try simp only [List.set_cons_zero, List.set_cons_succ, List.setIfInBounds_toArray, List.take_succ_cons, List.take_zero, List.drop_succ_cons, List.drop_zero, List.nil_append, List.cons_append, List.append_nil, List.drop_nil, List.take_nil, List.length_cons, List.length_nil, Nat.zero_add, Nat.add_zero, Nat.reduceAdd] at hS))
              go_roundg (q - (i + 1))
              case measure => omega
              case rel => exact fin2.out _ _ _ _ hS
            rw [if_neg h3] at hs2
            have d3 : (new == 0) = false := by simpa using h3
            have hN2 : refNet l (i + 1) = putIt ⟨3, cc⟩ N := hs2
            have fin2 := Lib.hid fun W g9 c9 L h => fin ⟨3, cc⟩ W g9 c9 L hN2 hbm h
            clear hs2 hN2 h1 h2 h3 fin
            go_wp2_with (first
              | (go_at_call 54; (with_reducible refine (hp1.out _ (hS.rowsl 1 rfl)).mono ?_); rintro _ w9 ⟨g9, c9, rfl, hk9⟩; have hS1 := hS.made hk9; clear hS hk9; have hS := hS1; clear hS1)
              | (go_at_call 54; (with_reducible refine (hp2.out _ (hS.rowsl 1 rfl)).mono ?_); rintro _ w9 ⟨g9, c9, rfl, hk9⟩; have hS1 := hS.made hk9; clear hS hk9; have hS := hS1; clear hS1)
              | (go_at_call 54; (with_reducible refine (hp3.out _ (hS.rowsl 1 rfl)).mono ?_); rintro _ w9 ⟨g9, c9, rfl, hk9⟩; have hS1 := hS.made hk9; clear hS hk9; have hS := hS1; clear hS1)
              | ((with_reducible refine wpList_loadrow_st (n := 27) 0 hS rfl rfl rfl rfl ?_ (by kernel_rfl) hd4 hcl2 ?_); focus (simp [rowB, go_sem]; done))
              | (with_reducible refine wpList_box_st hS rfl rfl rfl ?_; intro g1 w1 hS1; clear hS; replace hS := hS1; clear hS1) | (with_reducible refine wpList_box1_st hS rfl rfl rfl ?_; intro g1 w1 hS1; clear hS; replace hS := hS1; clear hS1) | (with_reducible refine wpList_alloc_st hS rfl rfl (by assumption) ?_; intro g1 w1 hS1; clear hS; replace hS := hS1; clear hS1) | (with_reducible refine wpList_alloc1_st hS rfl rfl (by assumption) rfl ?_; intro g1 w1 hS1; clear hS; replace hS := hS1; clear hS1) | ((with_reducible refine wpList_load_st 0 hS rfl rfl rfl rfl ?_ rfl ?_); focus (simp [scalarB, go_sem]; done)) | ((with_reducible refine wpList_loadall_st 0 hS rfl rfl rfl rfl ?_ (by kernel_rfl) ?_); focus (simp [rowB, go_sem]; done)) | ((with_reducible refine wpList_store_st 0 hS rfl rfl rfl rfl (by kernel_rfl) rfl rfl ?_); intro w1 hS1; clear hS; replace hS := hS1; clear hS1; try simp only [List.set_cons_zero, List.set_cons_succ, List.setIfInBounds_toArray, List.take_succ_cons, List.take_zero, List.drop_succ_cons, List.drop_zero, List.nil_append, List.cons_append, List.append_nil, List.drop_nil, List.take_nil, List.length_cons, List.length_nil, Nat.zero_add, Nat.add_zero, Nat.reduceAdd] at hS) | ((with_reducible refine wpList_storerow_st 0 hS rfl rfl rfl rfl (by kernel_rfl) rfl rfl rfl rfl ?_); intro w1 hS1; clear hS; replace hS := hS1; clear hS1; try simp only [List.set_cons_zero, List.set_cons_succ, List.setIfInBounds_toArray, List.take_succ_cons, List.take_zero, List.drop_succ_cons, List.drop_zero, List.nil_append, List.cons_append, List.append_nil, List.drop_nil, List.take_nil, List.length_cons, List.length_nil, Nat.zero_add, Nat.add_zero, Nat.reduceAdd] at hS))
            go_roundg (q - (i + 1))
            case measure => omega
            case rel => exact fin2.out _ _ _ _ hS
    · have hin : i = n := by omega
      subst hin
      have e := hN.out
      subst e
      go_wp2_with fail
      go_ret
      exact ⟨_, _, rfl, hS⟩
end Go.Proofs.Ytajldelodnjmoaa
end
