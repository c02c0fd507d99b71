/- slices.Clone of sectors and of writes; a disk's clone. -/
import Derived.Test.YtlhpibniecfofaaDiskOpen
import Derived.Test.YtlhpibniecfofaaSt6
set_option linter.unusedSimpArgs false
set_option linter.unusedVariables false
namespace Go.Ofp
/-- The second and the third piece change places. -/
theorem St.rot2 {w0 w : World} {F : List Nat} {L : List Ch} {a b c : Ch} (h : St w0 F (a :: b :: c :: L) w) : St w0 F (a :: c :: b :: L) w := by
  refine h.pick (fun i => if i = 1 then 2 else if i = 2 then 1 else i) ?_ ?_
  · intro i d hd
    match i with
    | 0 => exact hd
    | 1 => exact hd
    | 2 => exact hd
    | i + 3 => simpa using hd
  · intro i j _ _ hij
    split <;> split <;> (repeat' split) <;> omega
end Go.Ofp
namespace Go.Proofs.Ytlhpibniecfofaa
open Go.RowKit Go.Ofp
set_option linter.unusedVariables false
set_option maxRecDepth 100000
set_option maxHeartbeats 4000000

theorem clone_sc (ad : Addr) (xs : List Value) (n cap : Nat) (w : World) (hs : Sl w (some ad) xs) (hn : xs.length = n * 65) (ho : ∀ v ∈ xs, v.oneCell' = true) (hm : n ≤ 100000) :
    Calls Try.prog 69 #[.slice (some ad) n cap] w fun e w' => ∃ v, e = .returned v ∧ St w [] [Ch.row 122 65 v n xs] w' := by
  have hS := St.start w
  have he := fun (W : World) (a : Option Addr) (n c : Nat) => Lib.run_eql_slice_nil (P := Try.prog) W 114 122 a n c 0 0 Try.underlying114
  replace hn := Lib.hid hn
  replace hs := Lib.hid hs
  go_enter Try.func69, Try.ntmps69
  go_wp2_with (first
      | ((with_reducible refine wpList_build0_st hS rfl rfl Try.underlying114 elem_sc ?_); intro g1 w3 hS1; clear hS; have hS := hS1; clear hS1)
      | (at_builtin; (with_reducible refine wpList_app_st 0 hS rfl rfl rfl Try.underlying114 elem_sc rfl (Src.slice Try.underlying114 (hS.sl hs.out) hn.out) rfl ho (by omega) (by unfold maxLen; omega) ?_); intro v5 w3 hS1; clear hS; simp only [List.set_cons_zero, Nat.zero_add, List.nil_append] at hS1; have hS := hS1; clear hS1; obtain ⟨a5, c5, rfl, -⟩ := hS.row 0 rfl))
  go_ret
  exact ⟨_, rfl, hS⟩
theorem clone_wt (ad : Addr) (xs : List Value) (n cap : Nat) (w : World) (hs : Sl w (some ad) xs) (hn : xs.length = n * 66) (ho : ∀ v ∈ xs, v.oneCell' = true) (hm : n ≤ 100000) :
    Calls Try.prog 70 #[.slice (some ad) n cap] w fun e w' => ∃ v, e = .returned v ∧ St w [] [Ch.row 125 66 v n xs] w' := by
  have hS := St.start w
  have he := fun (W : World) (a : Option Addr) (n c : Nat) => Lib.run_eql_slice_nil (P := Try.prog) W 115 125 a n c 0 0 Try.underlying115
  replace hn := Lib.hid hn
  replace hs := Lib.hid hs
  go_enter Try.func70, Try.ntmps70
  go_wp2_with (first
      | ((with_reducible refine wpList_build0_st hS rfl rfl Try.underlying115 elem_wt ?_); intro g1 w3 hS1; clear hS; have hS := hS1; clear hS1)
      | (at_builtin; (with_reducible refine wpList_app_st 0 hS rfl rfl rfl Try.underlying115 elem_wt rfl (Src.slice Try.underlying115 (hS.sl hs.out) hn.out) rfl ho (by omega) (by unfold maxLen; omega) ?_); intro v5 w3 hS1; clear hS; simp only [List.set_cons_zero, Nat.zero_add, List.nil_append] at hS1; have hS := hS1; clear hS1; obtain ⟨a5, c5, rfl, -⟩ := hS.row 0 rfl))
  go_ret
  exact ⟨_, rfl, hS⟩


theorem clone_sc_none (w : World) : Calls Try.prog 69 #[.slice none 0 0] w fun e w' => ∃ v, e = .returned v ∧ St w [] [Ch.row 122 65 v 0 []] w' := by
  have hS := St.start w
  have he := fun (W : World) (a : Option Addr) (n c : Nat) => Lib.run_eql_slice_nil (P := Try.prog) W 114 122 a n c 0 0 Try.underlying114
  go_enter Try.func69, Try.ntmps69
  go_wp2_with fail
  go_ret
  exact ⟨_, rfl, hS.nilrow _ _⟩
theorem clone_sc_row (v : Value) (xs : List Value) (n : Nat) (w w0 : World) (F : List Nat) (L : List Ch) (i : Nat) (h : St w0 F L w) (hi : L[i]? = some (Ch.row 122 65 v n xs)) (ho : ∀ u ∈ xs, u.oneCell' = true) (hm : n ≤ 100000) :
    Calls Try.prog 69 #[v] w fun e w' => ∃ v, e = .returned v ∧ St w [] [Ch.row 122 65 v n xs] w' := by
  obtain ⟨a, c, rfl, hs, hl, -⟩ := h.row i hi
  rcases (h.get i hi).2 with ⟨hv, hn⟩ | ⟨g, c', cur, hv, -⟩
  · cases hv
    have : xs = [] := by simpa using hl
    subst this
    exact clone_sc_none w
  · cases hv
    exact clone_sc _ xs n c w hs hl ho hm

theorem clone_wt_none (w : World) : Calls Try.prog 70 #[.slice none 0 0] w fun e w' => ∃ v, e = .returned v ∧ St w [] [Ch.row 125 66 v 0 []] w' := by
  have hS := St.start w
  have he := fun (W : World) (a : Option Addr) (n c : Nat) => Lib.run_eql_slice_nil (P := Try.prog) W 115 125 a n c 0 0 Try.underlying115
  go_enter Try.func70, Try.ntmps70
  go_wp2_with fail
  go_ret
  exact ⟨_, rfl, hS.nilrow _ _⟩
theorem clone_wt_row (v : Value) (xs : List Value) (n : Nat) (w w0 : World) (F : List Nat) (L : List Ch) (i : Nat) (h : St w0 F L w) (hi : L[i]? = some (Ch.row 125 66 v n xs)) (ho : ∀ u ∈ xs, u.oneCell' = true) (hm : n ≤ 100000) :
    Calls Try.prog 70 #[v] w fun e w' => ∃ v, e = .returned v ∧ St w [] [Ch.row 125 66 v n xs] w' := by
  obtain ⟨a, c, rfl, hs, hl, -⟩ := h.row i hi
  rcases (h.get i hi).2 with ⟨hv, hn⟩ | ⟨g, c', cur, hv, -⟩
  · cases hv
    have : xs = [] := by simpa using hl
    subst this
    exact clone_wt_none w
  · cases hv
    exact clone_wt _ xs n c w hs hl ho hm

theorem sc_all_one (l : List Sc) : ∀ u ∈ (l.map scRow).flatten, u.oneCell' = true := by
  intro u hu
  obtain ⟨r, hr, hu⟩ := List.mem_flatten.1 hu
  obtain ⟨x, -, rfl⟩ := List.mem_map.1 hr
  exact List.all_eq_true.1 (sc_rowone x) u hu
theorem wt_all_one (l : List Wt) : ∀ u ∈ (l.map wtRow).flatten, u.oneCell' = true := by
  intro u hu
  obtain ⟨r, hr, hu⟩ := List.mem_flatten.1 hu
  obtain ⟨x, -, rfl⟩ := List.mem_map.1 hr
  simpa using wt_rowone x u (by simpa using hu)

theorem dclone_nil (w : World) : Calls Try.prog 16 #[.pointer none] w fun e w' => e = .returned (.pointer none) ∧ w = w' := by
  go_enter Try.func16, Try.ntmps16
  go_wp2_with fail
  go_ret
  exact ⟨rfl, rfl⟩

theorem dclone_any (bd : Nat) (sv wv : Value) (d : Dk) (w : World) (h : St w (feet (dks bd sv wv d)) (dks bd sv wv d) w) (hl : d.sec.length ≤ 100000) (hw : d.wait.length ≤ 100000) :
    Calls Try.prog 16 #[.pointer (some ⟨bd, 0, none⟩)] w fun e w' => ∃ bd' sv' wv', e = .returned (.pointer (some ⟨bd', 0, none⟩)) ∧ St w [] (dks bd' sv' wv' d) w' := by
  have hlw : ∀ W : World, Below w.heap.size w W → St W (feet (dks bd sv wv d)) (dks bd sv wv d) W := fun W hb => (h.keepB hb).pre0
  have cS : ∀ W : World, Below w.heap.size w W → Calls Try.prog 69 #[sv] W fun e w' => ∃ v, e = .returned v ∧ St W [] [Ch.row 122 65 v d.sec.length (d.sec.map scRow).flatten] w' := fun W hb => clone_sc_row sv _ _ W _ _ _ 1 (hlw W hb) rfl (sc_all_one _) hl
  have cW : ∀ W : World, Below w.heap.size w W → Calls Try.prog 70 #[wv] W fun e w' => ∃ v, e = .returned v ∧ St W [] [Ch.row 125 66 v d.wait.length (d.wait.map wtRow).flatten] w' := fun W hb => clone_wt_row wv _ _ W _ _ _ 2 (hlw W hb) rfl (wt_all_one _) hw
  have c0 : w.cell? ⟨bd, 0, none⟩ = some sv := h.cell 0 rfl 0
  have c1 : w.cell? ⟨bd, 1, none⟩ = some wv := h.cell 0 rfl 1
  have c2 : w.cell? ⟨bd, 2, none⟩ = some (.int .i64 d.fuse) := h.cell 0 rfl 2
  have c3 : w.cell? ⟨bd, 3, none⟩ = some (.bool d.dead) := h.cell 0 rfl 3
  clear h hlw
  have hS := St.start w
  unfold dks
  generalize (d.sec.map scRow).flatten = R1 at *
  generalize (d.wait.map wtRow).flatten = R2 at *
  generalize d.fuse = fu at *
  generalize d.dead = de at *
  obtain ⟨n1, hn1⟩ : ∃ n, d.sec.length = n := ⟨_, rfl⟩
  obtain ⟨n2, hn2⟩ : ∃ n, d.wait.length = n := ⟨_, rfl⟩
  rw [hn1] at cS ⊢
  rw [hn2] at cW ⊢
  clear hn1 hn2 hl hw
  replace cS := Lib.hid cS
  replace cW := Lib.hid cW
  go_enter Try.func16, Try.ntmps16
  go_wp2_with fail
  have k0 := hS.kold0 c0
  have k1 := hS.kold0 c1
  have k2 := hS.kold0 c2
  have k3 := hS.kold0 c3
  refine mixs_beginE (by kernel_rfl) hS ?_
  clear hS
  intro w2 hS hC
  refine mixs_take 0 (v := ?_) rfl (by kernel_rfl) (fun _ _ _ h => h) (by kernel_rfl) (by assumption) (fun s => ?hy) ?_; case hy => (go_simp <;> with_reducible rfl)
  try simp only [List.getElem_toArray, List.getElem_cons_succ, List.getElem_cons_zero, Act.put, List.setIfInBounds_toArray, List.set_cons_zero, List.set_cons_succ]
  refine mixs_take 1 (v := ?_) rfl (by kernel_rfl) (fun _ _ _ h => h) (by kernel_rfl) (by assumption) (fun s => ?hy) ?_; case hy => (go_simp <;> with_reducible rfl)
  try simp only [List.getElem_toArray, List.getElem_cons_succ, List.getElem_cons_zero, Act.put, List.setIfInBounds_toArray, List.set_cons_zero, List.set_cons_succ]
  refine mixs_take 2 (v := ?_) rfl (by kernel_rfl) (fun _ _ _ h => h) (by kernel_rfl) (by assumption) (fun s => ?hy) ?_; case hy => (go_simp <;> with_reducible rfl)
  try simp only [List.getElem_toArray, List.getElem_cons_succ, List.getElem_cons_zero, Act.put, List.setIfInBounds_toArray, List.set_cons_zero, List.set_cons_succ]
  refine mixs_take 3 (v := ?_) rfl (by kernel_rfl) (fun _ _ _ h => h) (by kernel_rfl) (by assumption) (fun s => ?hy) ?_; case hy => (go_simp <;> with_reducible rfl)
  try simp only [List.getElem_toArray, List.getElem_cons_succ, List.getElem_cons_zero, Act.put, List.setIfInBounds_toArray, List.set_cons_zero, List.set_cons_succ]
  refine mixs_take 5 (v := ?_) rfl (by kernel_rfl) (fun _ _ _ h => h) (by kernel_rfl) (by assumption) (fun s => ?hy) ?_; case hy => (go_simp <;> with_reducible rfl)
  try simp only [List.getElem_toArray, List.getElem_cons_succ, List.getElem_cons_zero, Act.put, List.setIfInBounds_toArray, List.set_cons_zero, List.set_cons_succ]
  refine mixs_take 6 (v := ?_) rfl (by kernel_rfl) (fun _ _ _ h => h) (by kernel_rfl) (by assumption) (fun s => ?hy) ?_; case hy => (go_simp <;> with_reducible rfl)
  try simp only [List.getElem_toArray, List.getElem_cons_succ, List.getElem_cons_zero, Act.put, List.setIfInBounds_toArray, List.set_cons_zero, List.set_cons_succ]
  refine mixs_take 7 (v := ?_) rfl (by kernel_rfl) (fun _ _ _ h => h) (by kernel_rfl) (by assumption) (fun s => ?hy) ?_; case hy => (go_simp <;> with_reducible rfl)
  try simp only [List.getElem_toArray, List.getElem_cons_succ, List.getElem_cons_zero, Act.put, List.setIfInBounds_toArray, List.set_cons_zero, List.set_cons_succ]
  refine mixs_take 8 (v := ?_) rfl (by kernel_rfl) (fun _ _ _ h => h) (by kernel_rfl) (by assumption) (fun s => ?hy) ?_; case hy => (go_simp <;> with_reducible rfl)
  try simp only [List.getElem_toArray, List.getElem_cons_succ, List.getElem_cons_zero, Act.put, List.setIfInBounds_toArray, List.set_cons_zero, List.set_cons_succ]
  refine mixs_take 10 (v := ?_) rfl (by kernel_rfl) (fun _ _ _ h => h) (by kernel_rfl) (by assumption) (fun s => ?hy) ?_; case hy => (go_simp <;> with_reducible rfl)
  try simp only [List.getElem_toArray, List.getElem_cons_succ, List.getElem_cons_zero, Act.put, List.setIfInBounds_toArray, List.set_cons_zero, List.set_cons_succ]
  refine mixs_take 11 (v := ?_) rfl (by kernel_rfl) (fun _ _ _ h => h) (by kernel_rfl) (by assumption) (fun s => ?hy) ?_; case hy => (go_simp <;> with_reducible rfl)
  try simp only [List.getElem_toArray, List.getElem_cons_succ, List.getElem_cons_zero, Act.put, List.setIfInBounds_toArray, List.set_cons_zero, List.set_cons_succ]
  refine mixs_take 12 (v := ?_) rfl (by kernel_rfl) (fun _ _ _ h => h) (by kernel_rfl) (by assumption) (fun s => ?hy) ?_; case hy => (go_simp <;> with_reducible rfl)
  try simp only [List.getElem_toArray, List.getElem_cons_succ, List.getElem_cons_zero, Act.put, List.setIfInBounds_toArray, List.set_cons_zero, List.set_cons_succ]
  refine mixs_take 13 (v := ?_) rfl (by kernel_rfl) (fun _ _ _ h => h) (by kernel_rfl) (by assumption) (fun s => ?hy) ?_; case hy => (go_simp <;> with_reducible rfl)
  try simp only [List.getElem_toArray, List.getElem_cons_succ, List.getElem_cons_zero, Act.put, List.setIfInBounds_toArray, List.set_cons_zero, List.set_cons_succ]
  refine mixs_take 14 (v := ?_) rfl (by kernel_rfl) (fun _ _ _ h => h) (by kernel_rfl) (by assumption) (fun s => ?hy) ?_; case hy => (go_simp <;> with_reducible rfl)
  try simp only [List.getElem_toArray, List.getElem_cons_succ, List.getElem_cons_zero, Act.put, List.setIfInBounds_toArray, List.set_cons_zero, List.set_cons_succ]
  refine mixs_take 15 (v := ?_) rfl (by kernel_rfl) (fun _ _ _ h => h) (by kernel_rfl) (by assumption) (fun s => ?hy) ?_; case hy => (go_simp <;> with_reducible rfl)
  try simp only [List.getElem_toArray, List.getElem_cons_succ, List.getElem_cons_zero, Act.put, List.setIfInBounds_toArray, List.set_cons_zero, List.set_cons_succ]
  refine mixs_take 16 (v := ?_) rfl (by kernel_rfl) (fun _ _ _ h => h) (by kernel_rfl) (by assumption) (fun s => ?hy) ?_; case hy => (go_simp <;> with_reducible rfl)
  try simp only [List.getElem_toArray, List.getElem_cons_succ, List.getElem_cons_zero, Act.put, List.setIfInBounds_toArray, List.set_cons_zero, List.set_cons_succ]
  refine mixs_take 17 (v := ?_) rfl (by kernel_rfl) (fun _ _ _ h => h) (by kernel_rfl) (by assumption) (fun s => ?hy) ?_; case hy => (go_simp <;> with_reducible rfl)
  try simp only [List.getElem_toArray, List.getElem_cons_succ, List.getElem_cons_zero, Act.put, List.setIfInBounds_toArray, List.set_cons_zero, List.set_cons_succ]
  refine mixs_one 4 (by kernel_rfl) rfl (fun K hK => ?_)
  go_simp
  ( first | (go_at_call 69; (with_reducible refine (cS.out _ hS.below).mono ?_); rintro _ w5 ⟨sv5, rfl, hk5⟩; have hS1 := hS.made hk5; clear hS hk5; have hS := hS1; clear hS1; obtain ⟨a5, c5, rfl, -⟩ := hS.row 0 rfl) | (go_at_call 70; (with_reducible refine (cW.out _ hS.below).mono ?_); rintro _ w6 ⟨wv6, rfl, hk6⟩; have hS1 := hS.made hk6; clear hS hk6; have hS := hS1; clear hS1; obtain ⟨a6, c6, rfl, -⟩ := hS.row 0 rfl) )
  try clear hC
  refine hK.out _ _ _ (fun _ h => h) (by first | exact hS | exact hS.drop | exact hS.drop.drop | exact hS.drop.drop.drop | exact hS.drop.drop.drop.drop | exact hS.empty) (fun hC => ?_)
  clear hK K
  try simp only [List.getElem_toArray, List.getElem_cons_succ, List.getElem_cons_zero, Act.put, List.setIfInBounds_toArray, List.set_cons_zero, List.set_cons_succ]
  refine mixs_one 9 (by kernel_rfl) rfl (fun K hK => ?_)
  go_simp
  ( first | (go_at_call 69; (with_reducible refine (cS.out _ hS.below).mono ?_); rintro _ w5 ⟨sv5, rfl, hk5⟩; have hS1 := hS.made hk5; clear hS hk5; have hS := hS1; clear hS1; obtain ⟨a5, c5, rfl, -⟩ := hS.row 0 rfl) | (go_at_call 70; (with_reducible refine (cW.out _ hS.below).mono ?_); rintro _ w6 ⟨wv6, rfl, hk6⟩; have hS1 := hS.made hk6; clear hS hk6; have hS := hS1; clear hS1; obtain ⟨a6, c6, rfl, -⟩ := hS.row 0 rfl) )
  try clear hC
  refine hK.out _ _ _ (fun _ h => h) (by first | exact hS | exact hS.drop | exact hS.drop.drop | exact hS.drop.drop.drop | exact hS.drop.drop.drop.drop | exact hS.empty) (fun hC => ?_)
  clear hK K
  try simp only [List.getElem_toArray, List.getElem_cons_succ, List.getElem_cons_zero, Act.put, List.setIfInBounds_toArray, List.set_cons_zero, List.set_cons_succ]
  refine mixs_take 18 (v := ?_) rfl (by kernel_rfl) (fun _ _ _ h => h) (by kernel_rfl) (by assumption) (fun s => ?hy) ?_; case hy => (go_simp <;> with_reducible rfl)
  try simp only [List.getElem_toArray, List.getElem_cons_succ, List.getElem_cons_zero, Act.put, List.setIfInBounds_toArray, List.set_cons_zero, List.set_cons_succ]
  refine mixs_one 19 (by kernel_rfl) rfl (fun K hK => ?_)
  refine op_box_st (by kernel_rfl) rfl rfl hS ?_
  intro g1 w1 hS1; clear hS; have hS := hS1; clear hS1
  try clear hC
  refine hK.out _ _ _ (fun _ h => h) (by first | exact hS | exact hS.drop | exact hS.drop.drop | exact hS.drop.drop.drop | exact hS.drop.drop.drop.drop | exact hS.empty) (fun hC => ?_)
  clear hK K
  try simp only [List.getElem_toArray, List.getElem_cons_succ, List.getElem_cons_zero, Act.put, List.setIfInBounds_toArray, List.set_cons_zero, List.set_cons_succ]
  refine mixs_take 20 (v := ?_) rfl (by kernel_rfl) (fun _ _ _ h => h) (by kernel_rfl) (by assumption) (fun s => ?hy) ?_; case hy => (go_simp <;> with_reducible rfl)
  try simp only [List.getElem_toArray, List.getElem_cons_succ, List.getElem_cons_zero, Act.put, List.setIfInBounds_toArray, List.set_cons_zero, List.set_cons_succ]
  refine wpAnyH_done (by kernel_rfl) ?_ _
  go_wp2_with fail
  go_ret
  exact ⟨_, _, _, rfl, by first | exact hS | exact hS.rot2⟩
end Go.Proofs.Ytlhpibniecfofaa
