/- Groups: which may be, whose members, and which are alike. -/
import Derived.Test.YtplgpbbghhlbjaaGrp4
import Derived.Test.YtplgpbbghhlbjaaBits
set_option linter.unusedSimpArgs false
set_option linter.unusedVariables false
namespace Go.Ofp
/-- May groups be, behind a number? -/
def chkKF : Int → List Key → Bool
  | _, [] => true
  | last, k :: ks => decide (last < k.1) && (decide (k.1 < 16) && (Ids.chk k.2 && chkKF k.1 ks))
theorem chkKF_cons (last no : Int) (mem : List Int) (ks : List Key) : chkKF last ((no, mem) :: ks) = (decide (last < no) && (decide (no < 16) && (Ids.chk mem && chkKF no ks))) := rfl
def chkK (ks : List Key) : Bool := chkKF (-1) ks
/-- A card's groups. -/
def ofFrom (id : Int) : Nat → List Key → Nat
  | s, [] => s
  | s, k :: ks => ofFrom id (cond (Ids.has k.2 id) (s ||| 2 ^ k.1.toNat) s) ks
theorem ofFrom_cons (id : Int) (s : Nat) (no : Int) (mem : List Int) (ks : List Key) : ofFrom id s ((no, mem) :: ks) = ofFrom id (cond (Ids.has mem id) (s ||| 2 ^ no.toNat) s) ks := rfl
def ofK (ks : List Key) (id : Int) : Nat := ofFrom id 0 ks
def membersK (ks : List Key) (g : Int) : List Int := if Ids.has (knos ks) g then memAt ks g else []

theorem chkKF_iff (ks : List Key) : ∀ last : Int, chkKF last ks = true ↔ Ids.Up (knos ks) ∧ (∀ k ∈ ks, last < k.1 ∧ k.1 < 16) ∧ ∀ k ∈ ks, Ids.Rise k.2 := by
  induction ks with
  | nil => intro last; simp [chkKF, knos, Ids.Up]
  | cons x l ih =>
    intro last
    simp only [chkKF, Bool.and_eq_true, decide_eq_true_eq, ih x.1, Ids.Up, knos, List.map_cons, List.pairwise_cons, List.mem_cons, forall_eq_or_imp, List.mem_map, forall_exists_index, and_imp, forall_apply_eq_imp_iff₂, Ids.chk_iff]
    constructor
    · rintro ⟨h1, h2, h3, h4, h5, h6⟩
      exact ⟨⟨fun y hy => (h5 y hy).1, h4⟩, ⟨⟨h1, h2⟩, fun y hy => ⟨by have := (h5 y hy).1; omega, (h5 y hy).2⟩⟩, h3, h6⟩
    · rintro ⟨⟨h1, h2⟩, ⟨⟨h3, h4⟩, h5⟩, h6, h7⟩
      exact ⟨h3, h4, h6, h2, fun y hy => ⟨h1 y hy, (h5 y hy).2⟩, h7⟩
theorem chkK_iff (ks : List Key) : chkK ks = true ↔ Ids.Up (knos ks) ∧ (∀ k ∈ ks, 0 ≤ k.1 ∧ k.1 < 16) ∧ ∀ k ∈ ks, Ids.Rise k.2 := by
  unfold chkK
  rw [chkKF_iff]
  constructor
  · rintro ⟨h1, h2, h3⟩; exact ⟨h1, fun k hk => ⟨by have := h2 k hk; omega, (h2 k hk).2⟩, h3⟩
  · rintro ⟨h1, h2, h3⟩; exact ⟨h1, fun k hk => ⟨by have := h2 k hk; omega, (h2 k hk).2⟩, h3⟩
theorem ofFrom_lt (id : Int) (ks : List Key) : ∀ s, s < 4294967296 → (∀ k ∈ ks, 0 ≤ k.1 ∧ k.1 < 16) → ofFrom id s ks < 4294967296 := by
  induction ks with
  | nil => intro s hs _; exact hs
  | cons x l ih =>
    intro s hs hk
    have hx := hk x (by simp)
    unfold ofFrom
    apply ih _ _ (fun k h => hk k (by simp [h]))
    cases Ids.has x.2 id
    · exact hs
    · exact or_lt s _ hs (by omega)
end Go.Ofp
namespace Go.Proofs.Ytplgpbbghhlbjaa
open Go.RowKit Go.Ofp
set_option linter.unusedVariables false
set_option maxRecDepth 100000
set_option maxHeartbeats 4000000

theorem gkeys_drop_cons {gs : List Gr} {j : Nat} (h : j < gs.length) : (keys gs).drop j = gs[j].key :: (keys gs).drop (j + 1) := by
  unfold keys
  rw [List.drop_eq_getElem_cons (by simpa using h)]
  simp

theorem gcheck_any (a : Option Addr) (gs : List Gr) (n cap : Nat) (w : World) (hD : Deep w a n cap gs) (hm : n ≤ 100000) (hmm : ∀ g ∈ gs, g.mem.length ≤ 10000) :
    Calls Try.prog 44 #[.slice a n cap] w fun e w' => e = .returned (.bool (chkK (keys gs))) ∧ Below w.heap.size w w' := by
  have hS := St.start w
  have ez := elem_g
  have hlen := Lib.hid hD.len
  have hget := Lib.hid hD.get
  have hM := Lib.hid (fun j (hj : j < gs.length) => hD.mem gs[j] (List.getElem_mem hj))
  have hml := Lib.hid (fun j (hj : j < gs.length) => hmm gs[j] (List.getElem_mem hj))
  clear hD hmm
  go_enter Try.func44, Try.ntmps44
  go_wp2_with fail
  go_loopg [3, 8] n (fun gk vl vx wr => ∃ (j : Nat) (y : Int), j + gk = n ∧ vx = .int .i64 j ∧ vl = .int .i64 y ∧ Hid (chkK (keys gs) = chkKF y ((keys gs).drop j)) ∧ St w [] [] wr)
  case atStart => exact ⟨0, -1, Nat.zero_add _, rfl, rfl, Lib.hid rfl, hS⟩
  case round =>
    clear hS
    obtain ⟨j, y, hj, rfl, rfl, hr, hS⟩ := hrel
    by_cases hlt : j < n
    · have hjg : j < gs.length := by rw [hlen.out]; exact hlt
      obtain ⟨b, off, rfl, c0, c1⟩ := hget.out j hjg
      have hMj := hM.out j hjg
      have hmlj := hml.out j hjg
      have hr2 := hr.out
      rw [gkeys_drop_cons hjg, Gr.key, chkKF_cons] at hr2
      generalize gs[j] = x at c0 c1 hMj hr2 hmlj
      have cC := fun W h => check_any x.a x.mem x.mem.length x.c W h rfl (by unfold maxLen; omega)
      replace c0 := hS.old c0 (by simp)
      replace c1 := hS.old c1 (by simp)
      have hslx := Lib.hid (fun W (h : St w [] [] W) => h.sl hMj.sl)
      obtain ⟨xn, xa, xc, xm⟩ := x
      simp only at *
      generalize hml3 : xm.length = m3 at *
      clear hml3 hMj
      replace cC := Lib.hid cC
      by_cases h1 : xn ≤ y
      · rw [decide_eq_false (by omega), Bool.false_and] at hr2
        replace hr2 := Lib.hid hr2
        go_wp2_with (first | ((with_reducible refine wpList_storerow_st 0 hS rfl rfl rfl rfl (by kernel_rfl) rfl rfl rfl rfl ?_); intro w1 hS1; clear hS; have hS := hS1; clear hS1; try simp only [List.set_cons_zero, List.set_cons_succ, List.setIfInBounds_toArray, List.take_succ_cons, List.take_zero, List.drop_succ_cons, List.drop_zero, List.nil_append, List.cons_append, List.append_nil, List.drop_nil, List.take_nil, List.length_cons, List.length_nil, Nat.zero_add, Nat.add_zero, Nat.reduceAdd] at hS; have hcl := hS.cell 0 rfl) | (with_reducible refine wpList_box_st hS rfl rfl rfl ?_; intro g1 w1 hS1; clear hS; replace hS := hS1; clear hS1) | (with_reducible refine wpList_box1_st hS rfl rfl rfl ?_; intro g1 w1 hS1; clear hS; replace hS := hS1; clear hS1) | (with_reducible refine wpList_alloc_st hS rfl rfl (by assumption) ?_; intro g1 w1 hS1; clear hS; replace hS := hS1; clear hS1) | (with_reducible refine wpList_alloc1_st hS rfl rfl (by assumption) rfl ?_; intro g1 w1 hS1; clear hS; replace hS := hS1; clear hS1) | ((with_reducible refine wpList_load_st 0 hS rfl rfl rfl rfl ?_ rfl ?_); focus (simp [scalarB, go_sem]; done)) | ((with_reducible refine wpList_loadall_st 0 hS rfl rfl rfl rfl ?_ (by kernel_rfl) ?_); focus (simp [rowB, go_sem]; done)) | ((with_reducible refine wpList_store_st 0 hS rfl rfl rfl rfl (by kernel_rfl) rfl rfl ?_); intro w1 hS1; clear hS; replace hS := hS1; clear hS1; try simp only [List.set_cons_zero, List.set_cons_succ, List.setIfInBounds_toArray, List.take_succ_cons, List.take_zero, List.drop_succ_cons, List.drop_zero, List.nil_append, List.cons_append, List.append_nil, List.drop_nil, List.take_nil, List.length_cons, List.length_nil, Nat.zero_add, Nat.add_zero, Nat.reduceAdd] at hS) | ((with_reducible refine wpList_storerow_st 0 hS rfl rfl rfl rfl (by kernel_rfl) rfl rfl rfl rfl ?_); intro w1 hS1; clear hS; replace hS := hS1; clear hS1; try simp only [List.set_cons_zero, List.set_cons_succ, List.setIfInBounds_toArray, List.take_succ_cons, List.take_zero, List.drop_succ_cons, List.drop_zero, List.nil_append, List.cons_append, List.append_nil, List.drop_nil, List.take_nil, List.length_cons, List.length_nil, Nat.zero_add, Nat.add_zero, Nat.reduceAdd] at hS))
        go_ret
        exact ⟨by rw [hr2.out]; rfl, hS.below⟩
      · have h1' : y < xn := by omega
        have d1 : decide (xn ≤ y) = false := decide_eq_false h1
        by_cases h2 : 16 ≤ xn
        · rw [decide_eq_true h1', decide_eq_false (p := xn < 16) (by omega)] at hr2
          replace hr2 := Lib.hid hr2
          clear h1
          go_wp2_with (first | ((with_reducible refine wpList_storerow_st 0 hS rfl rfl rfl rfl (by kernel_rfl) rfl rfl rfl rfl ?_); intro w1 hS1; clear hS; have hS := hS1; clear hS1; try simp only [List.set_cons_zero, List.set_cons_succ, List.setIfInBounds_toArray, List.take_succ_cons, List.take_zero, List.drop_succ_cons, List.drop_zero, List.nil_append, List.cons_append, List.append_nil, List.drop_nil, List.take_nil, List.length_cons, List.length_nil, Nat.zero_add, Nat.add_zero, Nat.reduceAdd] at hS; have hcl := hS.cell 0 rfl) | (with_reducible refine wpList_box_st hS rfl rfl rfl ?_; intro g1 w1 hS1; clear hS; replace hS := hS1; clear hS1) | (with_reducible refine wpList_box1_st hS rfl rfl rfl ?_; intro g1 w1 hS1; clear hS; replace hS := hS1; clear hS1) | (with_reducible refine wpList_alloc_st hS rfl rfl (by assumption) ?_; intro g1 w1 hS1; clear hS; replace hS := hS1; clear hS1) | (with_reducible refine wpList_alloc1_st hS rfl rfl (by assumption) rfl ?_; intro g1 w1 hS1; clear hS; replace hS := hS1; clear hS1) | ((with_reducible refine wpList_load_st 0 hS rfl rfl rfl rfl ?_ rfl ?_); focus (simp [scalarB, go_sem]; done)) | ((with_reducible refine wpList_loadall_st 0 hS rfl rfl rfl rfl ?_ (by kernel_rfl) ?_); focus (simp [rowB, go_sem]; done)) | ((with_reducible refine wpList_store_st 0 hS rfl rfl rfl rfl (by kernel_rfl) rfl rfl ?_); intro w1 hS1; clear hS; replace hS := hS1; clear hS1; try simp only [List.set_cons_zero, List.set_cons_succ, List.setIfInBounds_toArray, List.take_succ_cons, List.take_zero, List.drop_succ_cons, List.drop_zero, List.nil_append, List.cons_append, List.append_nil, List.drop_nil, List.take_nil, List.length_cons, List.length_nil, Nat.zero_add, Nat.add_zero, Nat.reduceAdd] at hS) | ((with_reducible refine wpList_storerow_st 0 hS rfl rfl rfl rfl (by kernel_rfl) rfl rfl rfl rfl ?_); intro w1 hS1; clear hS; replace hS := hS1; clear hS1; try simp only [List.set_cons_zero, List.set_cons_succ, List.setIfInBounds_toArray, List.take_succ_cons, List.take_zero, List.drop_succ_cons, List.drop_zero, List.nil_append, List.cons_append, List.append_nil, List.drop_nil, List.take_nil, List.length_cons, List.length_nil, Nat.zero_add, Nat.add_zero, Nat.reduceAdd] at hS))
          go_ret
          exact ⟨by rw [hr2.out]; rfl, hS.below⟩
        · have h2' : xn < 16 := by omega
          have d2 : decide (16 ≤ xn) = false := decide_eq_false h2
          rw [decide_eq_true h1', decide_eq_true h2', Bool.true_and, Bool.true_and] at hr2
          clear h1 h2
          generalize Ids.chk xm = cx at cC hr2
          cases cx with
          | false =>
            replace hr2 := Lib.hid hr2
            go_wp2_with (first | ((with_reducible refine wpList_storerow_st 0 hS rfl rfl rfl rfl (by kernel_rfl) rfl rfl rfl rfl ?_); intro w1 hS1; clear hS; have hS := hS1; clear hS1; try simp only [List.set_cons_zero, List.set_cons_succ, List.setIfInBounds_toArray, List.take_succ_cons, List.take_zero, List.drop_succ_cons, List.drop_zero, List.nil_append, List.cons_append, List.append_nil, List.drop_nil, List.take_nil, List.length_cons, List.length_nil, Nat.zero_add, Nat.add_zero, Nat.reduceAdd] at hS; have hcl := hS.cell 0 rfl) | (with_reducible refine wpList_box_st hS rfl rfl rfl ?_; intro g1 w1 hS1; clear hS; replace hS := hS1; clear hS1) | (with_reducible refine wpList_box1_st hS rfl rfl rfl ?_; intro g1 w1 hS1; clear hS; replace hS := hS1; clear hS1) | (with_reducible refine wpList_alloc_st hS rfl rfl (by assumption) ?_; intro g1 w1 hS1; clear hS; replace hS := hS1; clear hS1) | (with_reducible refine wpList_alloc1_st hS rfl rfl (by assumption) rfl ?_; intro g1 w1 hS1; clear hS; replace hS := hS1; clear hS1) | ((with_reducible refine wpList_load_st 0 hS rfl rfl rfl rfl ?_ rfl ?_); focus (simp [scalarB, go_sem]; done)) | ((with_reducible refine wpList_loadall_st 0 hS rfl rfl rfl rfl ?_ (by kernel_rfl) ?_); focus (simp [rowB, go_sem]; done)) | ((with_reducible refine wpList_store_st 0 hS rfl rfl rfl rfl (by kernel_rfl) rfl rfl ?_); intro w1 hS1; clear hS; replace hS := hS1; clear hS1; try simp only [List.set_cons_zero, List.set_cons_succ, List.setIfInBounds_toArray, List.take_succ_cons, List.take_zero, List.drop_succ_cons, List.drop_zero, List.nil_append, List.cons_append, List.append_nil, List.drop_nil, List.take_nil, List.length_cons, List.length_nil, Nat.zero_add, Nat.add_zero, Nat.reduceAdd] at hS) | ((with_reducible refine wpList_storerow_st 0 hS rfl rfl rfl rfl (by kernel_rfl) rfl rfl rfl rfl ?_); intro w1 hS1; clear hS; replace hS := hS1; clear hS1; try simp only [List.set_cons_zero, List.set_cons_succ, List.setIfInBounds_toArray, List.take_succ_cons, List.take_zero, List.drop_succ_cons, List.drop_zero, List.nil_append, List.cons_append, List.append_nil, List.drop_nil, List.take_nil, List.length_cons, List.length_nil, Nat.zero_add, Nat.add_zero, Nat.reduceAdd] at hS) | (go_at_call 26; (with_reducible refine (cC.out _ (hslx.out _ hS.empty)).mono ?_); rintro _ _ ⟨rfl, rfl⟩))
            go_ret
            exact ⟨by rw [hr2.out]; rfl, hS.below⟩
          | true =>
            replace hr2 := Lib.hid hr2
            go_wp2_with (first | ((with_reducible refine wpList_storerow_st 0 hS rfl rfl rfl rfl (by kernel_rfl) rfl rfl rfl rfl ?_); intro w1 hS1; clear hS; have hS := hS1; clear hS1; try simp only [List.set_cons_zero, List.set_cons_succ, List.setIfInBounds_toArray, List.take_succ_cons, List.take_zero, List.drop_succ_cons, List.drop_zero, List.nil_append, List.cons_append, List.append_nil, List.drop_nil, List.take_nil, List.length_cons, List.length_nil, Nat.zero_add, Nat.add_zero, Nat.reduceAdd] at hS; have hcl := hS.cell 0 rfl) | (with_reducible refine wpList_box_st hS rfl rfl rfl ?_; intro g1 w1 hS1; clear hS; replace hS := hS1; clear hS1) | (with_reducible refine wpList_box1_st hS rfl rfl rfl ?_; intro g1 w1 hS1; clear hS; replace hS := hS1; clear hS1) | (with_reducible refine wpList_alloc_st hS rfl rfl (by assumption) ?_; intro g1 w1 hS1; clear hS; replace hS := hS1; clear hS1) | (with_reducible refine wpList_alloc1_st hS rfl rfl (by assumption) rfl ?_; intro g1 w1 hS1; clear hS; replace hS := hS1; clear hS1) | ((with_reducible refine wpList_load_st 0 hS rfl rfl rfl rfl ?_ rfl ?_); focus (simp [scalarB, go_sem]; done)) | ((with_reducible refine wpList_loadall_st 0 hS rfl rfl rfl rfl ?_ (by kernel_rfl) ?_); focus (simp [rowB, go_sem]; done)) | ((with_reducible refine wpList_store_st 0 hS rfl rfl rfl rfl (by kernel_rfl) rfl rfl ?_); intro w1 hS1; clear hS; replace hS := hS1; clear hS1; try simp only [List.set_cons_zero, List.set_cons_succ, List.setIfInBounds_toArray, List.take_succ_cons, List.take_zero, List.drop_succ_cons, List.drop_zero, List.nil_append, List.cons_append, List.append_nil, List.drop_nil, List.take_nil, List.length_cons, List.length_nil, Nat.zero_add, Nat.add_zero, Nat.reduceAdd] at hS) | ((with_reducible refine wpList_storerow_st 0 hS rfl rfl rfl rfl (by kernel_rfl) rfl rfl rfl rfl ?_); intro w1 hS1; clear hS; replace hS := hS1; clear hS1; try simp only [List.set_cons_zero, List.set_cons_succ, List.setIfInBounds_toArray, List.take_succ_cons, List.take_zero, List.drop_succ_cons, List.drop_zero, List.nil_append, List.cons_append, List.append_nil, List.drop_nil, List.take_nil, List.length_cons, List.length_nil, Nat.zero_add, Nat.add_zero, Nat.reduceAdd] at hS) | (go_at_call 26; (with_reducible refine (cC.out _ (hslx.out _ hS.empty)).mono ?_); rintro _ _ ⟨rfl, rfl⟩))
            go_roundg (n - (j + 1))
            case measure => omega
            case rel => exact ⟨j + 1, xn, by omega, by go_num, rfl, Lib.hid (by rw [hr2.out, Bool.true_and]), hS.drop⟩
    · obtain rfl : j = n := by omega
      have hr2 := hr.out
      rw [List.drop_of_length_le (by simp [keys, hlen.out])] at hr2
      replace hr2 := Lib.hid hr2
      go_wp2_with fail
      go_ret
      exact ⟨by rw [hr2.out]; rfl, hS.below⟩

theorem gof_any (a : Option Addr) (gs : List Gr) (n cap : Nat) (id : Int) (w : World) (hD : Deep w a n cap gs) (hm : n ≤ 100000) (hmm : ∀ g ∈ gs, g.mem.length ≤ 10000) (hv : ∀ g ∈ gs, 0 ≤ g.no ∧ g.no < 16) (hum : ∀ g ∈ gs, Ids.Up g.mem) :
    Calls Try.prog 38 #[.slice a n cap, .int .i64 id] w fun e w' => e = .returned (.int .u32 (ofK (keys gs) id : Nat)) ∧ Below w.heap.size w w' := by
  have hS := St.start w
  have ez := elem_g
  have hlen := Lib.hid hD.len
  have hget := Lib.hid hD.get
  have hM := Lib.hid (fun j (hj : j < gs.length) => hD.mem gs[j] (List.getElem_mem hj))
  have hml := Lib.hid (fun j (hj : j < gs.length) => hmm gs[j] (List.getElem_mem hj))
  have hvv := Lib.hid (fun j (hj : j < gs.length) => hv gs[j] (List.getElem_mem hj))
  have huu := Lib.hid (fun j (hj : j < gs.length) => hum gs[j] (List.getElem_mem hj))
  clear hD hmm hv hum
  go_enter Try.func38, Try.ntmps38
  go_wp2_with fail
  go_loopg [5, 10] n (fun gk vl vx wr => ∃ j s : Nat, j + gk = n ∧ vx = .int .i64 j ∧ vl = .int .u32 s ∧ s < 4294967296 ∧ Hid (ofK (keys gs) id = ofFrom id s ((keys gs).drop j)) ∧ St w [] [] wr)
  case atStart => exact ⟨0, 0, Nat.zero_add _, rfl, rfl, by omega, Lib.hid rfl, hS⟩
  case round =>
    clear hS
    obtain ⟨j, s, hj, rfl, rfl, hs32, hr, hS⟩ := hrel
    by_cases hlt : j < n
    · have hjg : j < gs.length := by rw [hlen.out]; exact hlt
      obtain ⟨b, off, rfl, c0, c1⟩ := hget.out j hjg
      have hMj := hM.out j hjg
      have hmlj := hml.out j hjg
      have hvj := hvv.out j hjg
      have huj := huu.out j hjg
      have hr2 := hr.out
      rw [gkeys_drop_cons hjg, Gr.key, ofFrom_cons] at hr2
      generalize gs[j] = x at c0 c1 hMj hr2 hmlj hvj huj
      have cH := fun W h => has_any x.a x.mem x.mem.length x.c id W h rfl (by omega) huj
      replace c0 := hS.old c0 (by simp)
      replace c1 := hS.old c1 (by simp)
      have hslx := Lib.hid (fun W (h : St w [] [] W) => h.sl hMj.sl)
      obtain ⟨xn, xa, xc, xm⟩ := x
      simp only at *
      obtain ⟨q, rfl⟩ := Int.eq_ofNat_of_zero_le hvj.1
      have hq : q < 32 := by omega
      rw [Int.toNat_natCast] at hr2
      have cW := Lib.hid (fun W : World => with_any s q W hq hs32)
      have hor := or_lt s q hs32 hq
      generalize hml3 : xm.length = m3 at *
      clear hml3 hMj hvj huj
      generalize Ids.has xm id = cx at cH hr2
      generalize s ||| 2 ^ q = s2 at *
      replace cH := Lib.hid cH
      cases cx with
      | false =>
        replace hr2 := Lib.hid hr2
        go_wp2_with (first | ((with_reducible refine wpList_storerow_st 0 hS rfl rfl rfl rfl (by kernel_rfl) rfl rfl rfl rfl ?_); intro w1 hS1; clear hS; have hS := hS1; clear hS1; try simp only [List.set_cons_zero, List.set_cons_succ, List.setIfInBounds_toArray, List.take_succ_cons, List.take_zero, List.drop_succ_cons, List.drop_zero, List.nil_append, List.cons_append, List.append_nil, List.drop_nil, List.take_nil, List.length_cons, List.length_nil, Nat.zero_add, Nat.add_zero, Nat.reduceAdd] at hS; have hcl := hS.cell 0 rfl) | (with_reducible refine wpList_box_st hS rfl rfl rfl ?_; intro g1 w1 hS1; clear hS; replace hS := hS1; clear hS1) | (with_reducible refine wpList_box1_st hS rfl rfl rfl ?_; intro g1 w1 hS1; clear hS; replace hS := hS1; clear hS1) | (with_reducible refine wpList_alloc_st hS rfl rfl (by assumption) ?_; intro g1 w1 hS1; clear hS; replace hS := hS1; clear hS1) | (with_reducible refine wpList_alloc1_st hS rfl rfl (by assumption) rfl ?_; intro g1 w1 hS1; clear hS; replace hS := hS1; clear hS1) | ((with_reducible refine wpList_load_st 0 hS rfl rfl rfl rfl ?_ rfl ?_); focus (simp [scalarB, go_sem]; done)) | ((with_reducible refine wpList_loadall_st 0 hS rfl rfl rfl rfl ?_ (by kernel_rfl) ?_); focus (simp [rowB, go_sem]; done)) | ((with_reducible refine wpList_store_st 0 hS rfl rfl rfl rfl (by kernel_rfl) rfl rfl ?_); intro w1 hS1; clear hS; replace hS := hS1; clear hS1; try simp only [List.set_cons_zero, List.set_cons_succ, List.setIfInBounds_toArray, List.take_succ_cons, List.take_zero, List.drop_succ_cons, List.drop_zero, List.nil_append, List.cons_append, List.append_nil, List.drop_nil, List.take_nil, List.length_cons, List.length_nil, Nat.zero_add, Nat.add_zero, Nat.reduceAdd] at hS) | ((with_reducible refine wpList_storerow_st 0 hS rfl rfl rfl rfl (by kernel_rfl) rfl rfl rfl rfl ?_); intro w1 hS1; clear hS; replace hS := hS1; clear hS1; try simp only [List.set_cons_zero, List.set_cons_succ, List.setIfInBounds_toArray, List.take_succ_cons, List.take_zero, List.drop_succ_cons, List.drop_zero, List.nil_append, List.cons_append, List.append_nil, List.drop_nil, List.take_nil, List.length_cons, List.length_nil, Nat.zero_add, Nat.add_zero, Nat.reduceAdd] at hS) | (go_at_call 29; (with_reducible refine (cH.out _ (hslx.out _ hS.empty)).mono ?_); rintro _ _ ⟨rfl, rfl⟩))
        go_roundg (n - (j + 1))
        case measure => omega
        case rel => exact ⟨j + 1, s, by omega, by go_num, rfl, hs32, Lib.hid (by rw [hr2.out]; rfl), hS.drop⟩
      | true =>
        replace hr2 := Lib.hid hr2
        go_wp2_with (first | ((with_reducible refine wpList_storerow_st 0 hS rfl rfl rfl rfl (by kernel_rfl) rfl rfl rfl rfl ?_); intro w1 hS1; clear hS; have hS := hS1; clear hS1; try simp only [List.set_cons_zero, List.set_cons_succ, List.setIfInBounds_toArray, List.take_succ_cons, List.take_zero, List.drop_succ_cons, List.drop_zero, List.nil_append, List.cons_append, List.append_nil, List.drop_nil, List.take_nil, List.length_cons, List.length_nil, Nat.zero_add, Nat.add_zero, Nat.reduceAdd] at hS; have hcl := hS.cell 0 rfl) | (with_reducible refine wpList_box_st hS rfl rfl rfl ?_; intro g1 w1 hS1; clear hS; replace hS := hS1; clear hS1) | (with_reducible refine wpList_box1_st hS rfl rfl rfl ?_; intro g1 w1 hS1; clear hS; replace hS := hS1; clear hS1) | (with_reducible refine wpList_alloc_st hS rfl rfl (by assumption) ?_; intro g1 w1 hS1; clear hS; replace hS := hS1; clear hS1) | (with_reducible refine wpList_alloc1_st hS rfl rfl (by assumption) rfl ?_; intro g1 w1 hS1; clear hS; replace hS := hS1; clear hS1) | ((with_reducible refine wpList_load_st 0 hS rfl rfl rfl rfl ?_ rfl ?_); focus (simp [scalarB, go_sem]; done)) | ((with_reducible refine wpList_loadall_st 0 hS rfl rfl rfl rfl ?_ (by kernel_rfl) ?_); focus (simp [rowB, go_sem]; done)) | ((with_reducible refine wpList_store_st 0 hS rfl rfl rfl rfl (by kernel_rfl) rfl rfl ?_); intro w1 hS1; clear hS; replace hS := hS1; clear hS1; try simp only [List.set_cons_zero, List.set_cons_succ, List.setIfInBounds_toArray, List.take_succ_cons, List.take_zero, List.drop_succ_cons, List.drop_zero, List.nil_append, List.cons_append, List.append_nil, List.drop_nil, List.take_nil, List.length_cons, List.length_nil, Nat.zero_add, Nat.add_zero, Nat.reduceAdd] at hS) | ((with_reducible refine wpList_storerow_st 0 hS rfl rfl rfl rfl (by kernel_rfl) rfl rfl rfl rfl ?_); intro w1 hS1; clear hS; replace hS := hS1; clear hS1; try simp only [List.set_cons_zero, List.set_cons_succ, List.setIfInBounds_toArray, List.take_succ_cons, List.take_zero, List.drop_succ_cons, List.drop_zero, List.nil_append, List.cons_append, List.append_nil, List.drop_nil, List.take_nil, List.length_cons, List.length_nil, Nat.zero_add, Nat.add_zero, Nat.reduceAdd] at hS) | (go_at_call 29; (with_reducible refine (cH.out _ (hslx.out _ hS.empty)).mono ?_); rintro _ _ ⟨rfl, rfl⟩) | (go_at_call 68; (with_reducible refine (cW.out _).mono ?_); rintro _ _ ⟨rfl, rfl⟩))
        go_roundg (n - (j + 1))
        case measure => omega
        case rel => exact ⟨j + 1, s2, by omega, by go_num, rfl, hor, Lib.hid (by rw [hr2.out]; rfl), hS.drop⟩
    · obtain rfl : j = n := by omega
      have hr2 := hr.out
      rw [List.drop_of_length_le (by simp [keys, hlen.out])] at hr2
      replace hr2 := Lib.hid hr2
      go_wp2_with fail
      go_ret
      exact ⟨by rw [hr2.out]; rfl, hS.below⟩

/-- Two lists are alike: the library's word. -/
theorem equal_any (a b : Option Addr) (l m : List Int) (n k cap cap2 : Nat) (w : World) (hs : Sl w a (l.map vi)) (ht : Sl w b (m.map vi)) (hn : l.length = n) (hk : m.length = k) (hm : n ≤ maxLen) (hm2 : k ≤ maxLen) :
    Calls Try.prog 82 #[.slice a n cap, .slice b k cap2] w fun e w' => e = .returned (.bool (decide (l = m))) ∧ Below w.heap.size w w' := by
  unfold maxLen at hm hm2
  have hS := St.start w
  by_cases hlen : n = k
  · subst hlen
    replace hn := Lib.hid hn
    replace hk := Lib.hid hk
    replace hs := Lib.hid hs
    replace ht := Lib.hid ht
    go_enter Try.func82, Try.ntmps82
    go_wp2
    go_loopg [13] n (fun gk vi wr => ∃ j : Nat, j + gk = n ∧ vi = .int .i64 j ∧ Hid (l.take j = m.take j) ∧ St w [] [] wr)
    case atStart => exact ⟨0, Nat.zero_add _, rfl, Lib.hid (by simp), hS⟩
    case round =>
      clear hS
      obtain ⟨j, hj, rfl, hr, hS⟩ := hrel
      by_cases hlt : j < n
      · obtain ⟨b1, o1, rfl, c1⟩ := sl_int hs.out j (by rw [hn.out]; exact hlt)
        obtain ⟨b2, o2, rfl, c2⟩ := sl_int ht.out j (by rw [hk.out]; exact hlt)
        have t1 := Lib.hid (take_snoc_i l j (by rw [hn.out]; exact hlt))
        have t2 := Lib.hid (take_snoc_i m j (by rw [hk.out]; exact hlt))
        have t3 := Lib.hid (show l = m → l[j]'(by rw [hn.out]; exact hlt) = m[j]'(by rw [hk.out]; exact hlt) by intro e; subst e; rfl)
        generalize l[j]'(by rw [hn.out]; exact hlt) = x at c1 t1 t3
        generalize m[j]'(by rw [hk.out]; exact hlt) = y at c2 t2 t3
        have k1 := hS.kold0 c1
        have k2 := hS.kold0 c2
        clear c1 c2
        by_cases hx : x = y
        · subst hx
          go_wp2_with fail
          refine mixs_begin (by kernel_rfl) hS ?_
          clear hS
          intro w2 hS
          refine mixs_take 0 (v := ?_) rfl (by kernel_rfl) (fun _ _ _ h => h) (by kernel_rfl) (by assumption) (fun s => ?hy) ?_; case hy => (go_simp <;> with_reducible rfl)
          try simp only [List.getElem_toArray, List.getElem_cons_succ, List.getElem_cons_zero, Act.put, List.setIfInBounds_toArray, List.set_cons_zero, List.set_cons_succ]
          refine mixs_take 1 (v := ?_) rfl (by kernel_rfl) (fun _ _ _ h => h) (by kernel_rfl) (by assumption) (fun s => ?hy) ?_; case hy => (go_simp <;> with_reducible rfl)
          try simp only [List.getElem_toArray, List.getElem_cons_succ, List.getElem_cons_zero, Act.put, List.setIfInBounds_toArray, List.set_cons_zero, List.set_cons_succ]
          refine mixs_take 2 (v := ?_) rfl (by kernel_rfl) (fun _ _ _ h => h) (by kernel_rfl) (by assumption) (fun s => ?hy) ?_; case hy => (go_simp <;> with_reducible rfl)
          try simp only [List.getElem_toArray, List.getElem_cons_succ, List.getElem_cons_zero, Act.put, List.setIfInBounds_toArray, List.set_cons_zero, List.set_cons_succ]
          refine mixs_take 3 (v := ?_) rfl (by kernel_rfl) (fun _ _ _ h => h) (by kernel_rfl) (by assumption) (fun s => ?hy) ?_; case hy => (go_simp <;> with_reducible rfl)
          try simp only [List.getElem_toArray, List.getElem_cons_succ, List.getElem_cons_zero, Act.put, List.setIfInBounds_toArray, List.set_cons_zero, List.set_cons_succ]
          refine mixs_take 4 (v := ?_) rfl (by kernel_rfl) (fun _ _ _ h => h) (by kernel_rfl) (by assumption) (fun s => ?hy) ?_; case hy => (go_simp <;> with_reducible rfl)
          try simp only [List.getElem_toArray, List.getElem_cons_succ, List.getElem_cons_zero, Act.put, List.setIfInBounds_toArray, List.set_cons_zero, List.set_cons_succ]
          refine mixs_take 5 (v := ?_) rfl (by kernel_rfl) (fun _ _ _ h => h) (by kernel_rfl) (by assumption) (fun s => ?hy) ?_; case hy => (go_simp <;> with_reducible rfl)
          try simp only [List.getElem_toArray, List.getElem_cons_succ, List.getElem_cons_zero, Act.put, List.setIfInBounds_toArray, List.set_cons_zero, List.set_cons_succ]
          refine mixs_take 6 (v := ?_) rfl (by kernel_rfl) (fun _ _ _ h => h) (by kernel_rfl) (by assumption) (fun s => ?hy) ?_; case hy => (go_simp <;> with_reducible rfl)
          try simp only [List.getElem_toArray, List.getElem_cons_succ, List.getElem_cons_zero, Act.put, List.setIfInBounds_toArray, List.set_cons_zero, List.set_cons_succ]
          refine mixs_take 7 (v := ?_) rfl (by kernel_rfl) (fun _ _ _ h => h) (by kernel_rfl) (by assumption) (fun s => ?hy) ?_; case hy => (go_simp <;> with_reducible rfl)
          try simp only [List.getElem_toArray, List.getElem_cons_succ, List.getElem_cons_zero, Act.put, List.setIfInBounds_toArray, List.set_cons_zero, List.set_cons_succ]
          refine mixs_take 8 (v := ?_) rfl (by kernel_rfl) (fun _ _ _ h => h) (by kernel_rfl) (by assumption) (fun s => ?hy) ?_; case hy => (go_simp <;> with_reducible rfl)
          try simp only [List.getElem_toArray, List.getElem_cons_succ, List.getElem_cons_zero, Act.put, List.setIfInBounds_toArray, List.set_cons_zero, List.set_cons_succ]
          refine wpAnyH_done (by kernel_rfl) ?_ _
          clear k1 k2
          go_wp2_with fail
          go_roundg (n - (j + 1))
          case measure => omega
          case rel => exact ⟨j + 1, by omega, by go_num, Lib.hid (by rw [t1.out, t2.out, hr.out]), hS⟩
        · have hxb : (x != y) = true := by simpa using hx
          replace hx := Lib.hid hx
          go_wp2_with fail
          refine mixs_begin (by kernel_rfl) hS ?_
          clear hS
          intro w2 hS
          refine mixs_take 0 (v := ?_) rfl (by kernel_rfl) (fun _ _ _ h => h) (by kernel_rfl) (by assumption) (fun s => ?hy) ?_; case hy => (go_simp <;> with_reducible rfl)
          try simp only [List.getElem_toArray, List.getElem_cons_succ, List.getElem_cons_zero, Act.put, List.setIfInBounds_toArray, List.set_cons_zero, List.set_cons_succ]
          refine mixs_take 1 (v := ?_) rfl (by kernel_rfl) (fun _ _ _ h => h) (by kernel_rfl) (by assumption) (fun s => ?hy) ?_; case hy => (go_simp <;> with_reducible rfl)
          try simp only [List.getElem_toArray, List.getElem_cons_succ, List.getElem_cons_zero, Act.put, List.setIfInBounds_toArray, List.set_cons_zero, List.set_cons_succ]
          refine mixs_take 2 (v := ?_) rfl (by kernel_rfl) (fun _ _ _ h => h) (by kernel_rfl) (by assumption) (fun s => ?hy) ?_; case hy => (go_simp <;> with_reducible rfl)
          try simp only [List.getElem_toArray, List.getElem_cons_succ, List.getElem_cons_zero, Act.put, List.setIfInBounds_toArray, List.set_cons_zero, List.set_cons_succ]
          refine mixs_take 3 (v := ?_) rfl (by kernel_rfl) (fun _ _ _ h => h) (by kernel_rfl) (by assumption) (fun s => ?hy) ?_; case hy => (go_simp <;> with_reducible rfl)
          try simp only [List.getElem_toArray, List.getElem_cons_succ, List.getElem_cons_zero, Act.put, List.setIfInBounds_toArray, List.set_cons_zero, List.set_cons_succ]
          refine mixs_take 4 (v := ?_) rfl (by kernel_rfl) (fun _ _ _ h => h) (by kernel_rfl) (by assumption) (fun s => ?hy) ?_; case hy => (go_simp <;> with_reducible rfl)
          try simp only [List.getElem_toArray, List.getElem_cons_succ, List.getElem_cons_zero, Act.put, List.setIfInBounds_toArray, List.set_cons_zero, List.set_cons_succ]
          refine mixs_take 5 (v := ?_) rfl (by kernel_rfl) (fun _ _ _ h => h) (by kernel_rfl) (by assumption) (fun s => ?hy) ?_; case hy => (go_simp <;> with_reducible rfl)
          try simp only [List.getElem_toArray, List.getElem_cons_succ, List.getElem_cons_zero, Act.put, List.setIfInBounds_toArray, List.set_cons_zero, List.set_cons_succ]
          refine mixs_take 6 (v := ?_) rfl (by kernel_rfl) (fun _ _ _ h => h) (by kernel_rfl) (by assumption) (fun s => ?hy) ?_; case hy => (go_simp <;> with_reducible rfl)
          try simp only [List.getElem_toArray, List.getElem_cons_succ, List.getElem_cons_zero, Act.put, List.setIfInBounds_toArray, List.set_cons_zero, List.set_cons_succ]
          refine mixs_take 7 (v := ?_) rfl (by kernel_rfl) (fun _ _ _ h => h) (by kernel_rfl) (by assumption) (fun s => ?hy) ?_; case hy => (go_simp <;> with_reducible rfl)
          try simp only [List.getElem_toArray, List.getElem_cons_succ, List.getElem_cons_zero, Act.put, List.setIfInBounds_toArray, List.set_cons_zero, List.set_cons_succ]
          refine mixs_take 8 (v := ?_) rfl (by kernel_rfl) (fun _ _ _ h => h) (by kernel_rfl) (by assumption) (fun s => ?hy) ?_; case hy => (go_simp <;> with_reducible rfl)
          try simp only [List.getElem_toArray, List.getElem_cons_succ, List.getElem_cons_zero, Act.put, List.setIfInBounds_toArray, List.set_cons_zero, List.set_cons_succ]
          refine wpAnyH_done (by kernel_rfl) ?_ _
          clear k1 k2
          go_wp2_with fail
          go_ret
          have : decide (l = m) = false := by rw [decide_eq_false_iff_not]; intro e; exact hx.out (t3.out e)
          exact ⟨by rw [this]; rfl, hS.below⟩
      · obtain rfl : j = n := by omega
        go_wp2_with fail
        go_ret
        have e1 := hr.out
        rw [List.take_of_length_le (by rw [hn.out]; exact Nat.le_refl _), List.take_of_length_le (by rw [hk.out]; exact Nat.le_refl _)] at e1
        exact ⟨by rw [decide_eq_true e1]; rfl, hS.below⟩
  · have e : decide (l = m) = false := by rw [decide_eq_false_iff_not]; intro e; subst e; omega
    have hb : ((n : Int) != (k : Int)) = true := by simp; omega
    rw [e]
    clear hlen hn hk e
    go_enter Try.func82, Try.ntmps82
    go_wp2_with fail
    go_ret
    exact ⟨rfl, hS.below⟩
end Go.Proofs.Ytplgpbbghhlbjaa
