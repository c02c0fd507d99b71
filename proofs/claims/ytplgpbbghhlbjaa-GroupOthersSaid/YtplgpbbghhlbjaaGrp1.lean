/- Groups: what lies in memory; the search for one. -/
import Derived.Test.YtplgpbbghhlbjaaIdsOps
import Derived.Test.YtplgpbbghhlbjaaOpen3
set_option linter.unusedSimpArgs false
set_option linter.unusedVariables false
namespace Go.Ofp
open Go.RowKit
/-- A group, and where its members lie. -/
structure Gr where
  no : Int
  a : Option Addr
  c : Nat
  mem : List Int
/-- What a group is. -/
def Gr.key (g : Gr) : Int × List Int := (g.no, g.mem)
def Gr.row (g : Gr) : List Value := [.int .i64 g.no, .slice g.a g.mem.length g.c]
theorem Gr.row_length (g : Gr) : g.row.length = 2 := rfl
def grows (gs : List Gr) : List Value := (gs.map Gr.row).flatten
def keys (gs : List Gr) : List (Int × List Int) := gs.map Gr.key
def nos (gs : List Gr) : List Int := gs.map Gr.no
theorem grows_len (gs : List Gr) : (grows gs).length = gs.length * 2 := by
  unfold grows
  induction gs with
  | nil => rfl
  | cons p ps ih => rw [List.map_cons, List.flatten_cons, List.length_append, ih, Gr.row_length, List.length_cons]; omega
theorem grows_one (gs : List Gr) : ∀ u ∈ grows gs, u.oneCell' = true := by
  intro u hu
  obtain ⟨r, hr, hu⟩ := List.mem_flatten.1 hu
  obtain ⟨p, _, rfl⟩ := List.mem_map.1 hr
  simp only [Gr.row, List.mem_cons, List.not_mem_nil, or_false] at hu
  rcases hu with rfl | rfl <;> rfl
theorem grows_append (a b : List Gr) : grows (a ++ b) = grows a ++ grows b := by simp [grows]
theorem grows_take (gs : List Gr) (i : Nat) : (grows gs).take (i * 2) = grows (gs.take i) := by
  induction gs generalizing i with
  | nil => simp [grows]
  | cons g gs ih =>
    cases i with
    | zero => simp [grows]
    | succ i =>
      have := ih i
      simp only [grows, List.map_cons, List.flatten_cons, Gr.row, List.take_succ_cons] at this ⊢
      rw [show (i + 1) * 2 = i * 2 + 1 + 1 by omega]
      simp [this]
theorem grows_drop (gs : List Gr) (i : Nat) : (grows gs).drop (i * 2) = grows (gs.drop i) := by
  induction gs generalizing i with
  | nil => simp [grows]
  | cons g gs ih =>
    cases i with
    | zero => simp [grows]
    | succ i =>
      have := ih i
      simp only [grows, List.map_cons, List.flatten_cons, Gr.row, List.drop_succ_cons] at this ⊢
      rw [show (i + 1) * 2 = i * 2 + 1 + 1 by omega]
      simp [this]
end Go.Ofp
namespace Go.Proofs.Ytplgpbbghhlbjaa
open Go.RowKit Go.Ofp
set_option linter.unusedVariables false
set_option maxRecDepth 100000
set_option maxHeartbeats 4000000

/-- A group's members lie there. -/
structure Mem (w : World) (g : Gr) : Prop where
  sl : Sl w g.a (g.mem.map vi)
  le : g.mem.length ≤ g.c
  cm : g.c ≤ maxLen
  nz : g.a = none → g.c = 0
theorem Mem.below {w w' : World} {g : Gr} (h : Mem w g) (hb : Below w.heap.size w w') : Mem w' g := ⟨h.sl.below hb, h.le, h.cm, h.nz⟩
/-- Groups lie there. -/
structure Deep (w : World) (a : Option Addr) (n c : Nat) (gs : List Gr) : Prop where
  sl : Sl w a (grows gs)
  len : gs.length = n
  le : n ≤ c
  cm : c ≤ maxLen
  nz : a = none → c = 0
  mem : ∀ g ∈ gs, Mem w g
theorem Deep.below {w w' : World} {a : Option Addr} {n c : Nat} {gs : List Gr} (h : Deep w a n c gs) (hb : Below w.heap.size w w') : Deep w' a n c gs :=
  ⟨h.sl.below hb, h.len, h.le, h.cm, h.nz, fun g hg => (h.mem g hg).below hb⟩
theorem Deep.get {w : World} {a : Option Addr} {n c : Nat} {gs : List Gr} (h : Deep w a n c gs) (j : Nat) (hj : j < gs.length) :
    ∃ b off, a = some ⟨b, off, none⟩ ∧ w.cell? ⟨b, off + j * 2, none⟩ = some (.int .i64 gs[j].no) ∧ w.cell? ⟨b, off + j * 2 + 1, none⟩ = some (.slice gs[j].a gs[j].mem.length gs[j].c) := by
  have hr : Rw w a 2 (gs.map Gr.row) := ⟨h.sl, fun r hr => by obtain ⟨p, _, rfl⟩ := List.mem_map.1 hr; rfl⟩
  obtain ⟨b, off, rfl, hc⟩ := hr.get j (by simpa using hj) (by decide)
  simp only [List.getElem_map] at hc
  exact ⟨b, off, rfl, hc 0 _ rfl, hc 1 _ rfl⟩

def cmpI (x y : Int) : Int := if x < y then -1 else if y < x then 1 else 0

theorem compare_any (x y : Int) (w : World) : Calls Try.prog 98 #[.int .i64 x, .int .i64 y] w fun e w' => e = .returned (.int .i64 (cmpI x y)) ∧ w = w' := by
  unfold cmpI
  by_cases h1 : x < y
  · rw [if_pos h1]
    go_enter Try.func98, Try.ntmps98
    go_wp2_with (go_at_call 102; (with_reducible refine (nan1_any _ _).mono ?_); rintro _ _ ⟨rfl, rfl⟩)
    go_ret
    exact ⟨rfl, rfl⟩
  · by_cases h2 : y < x
    · rw [if_neg h1, if_pos h2]
      have d1 : decide (x < y) = false := decide_eq_false h1
      clear h1
      go_enter Try.func98, Try.ntmps98
      go_wp2_with (go_at_call 102; (with_reducible refine (nan1_any _ _).mono ?_); rintro _ _ ⟨rfl, rfl⟩)
      go_ret
      exact ⟨rfl, rfl⟩
    · rw [if_neg h1, if_neg h2]
      have d1 : decide (x < y) = false := decide_eq_false h1
      have d2 : decide (y < x) = false := decide_eq_false h2
      have h3 : x ≤ y := by omega
      have h4 : y ≤ x := by omega
      clear h1 h2
      go_enter Try.func98, Try.ntmps98
      go_wp2_with (go_at_call 102; (with_reducible refine (nan1_any _ _).mono ?_); rintro _ _ ⟨rfl, rfl⟩)
      go_ret
      exact ⟨rfl, rfl⟩

theorem find1_any (no g : Int) (a : Option Addr) (n c : Nat) (w : World) : Calls Try.prog 97 #[.agg #[.int .i64 no, .slice a n c], .int .i64 g] w fun e w' => e = .returned (.int .i64 (cmpI no g)) ∧ Below w.heap.size w w' := by
  have hS := St.start w
  go_enter Try.func97, Try.ntmps97
  go_wp2_with (first
    | (with_reducible refine wpList_box_st hS rfl rfl rfl ?_; intro g1 w1 hS1; clear hS; replace hS := hS1; clear hS1) | (with_reducible refine wpList_box1_st hS rfl rfl rfl ?_; intro g1 w1 hS1; clear hS; replace hS := hS1; clear hS1) | (with_reducible refine wpList_alloc_st hS rfl rfl (by assumption) ?_; intro g1 w1 hS1; clear hS; replace hS := hS1; clear hS1) | (with_reducible refine wpList_alloc1_st hS rfl rfl (by assumption) rfl ?_; intro g1 w1 hS1; clear hS; replace hS := hS1; clear hS1) | ((with_reducible refine wpList_load_st 0 hS rfl rfl rfl rfl ?_ rfl ?_); focus (simp [scalarB, go_sem]; done)) | ((with_reducible refine wpList_loadall_st 0 hS rfl rfl rfl rfl ?_ (by kernel_rfl) ?_); focus (simp [rowB, go_sem]; done)) | ((with_reducible refine wpList_store_st 0 hS rfl rfl rfl rfl (by kernel_rfl) rfl rfl ?_); intro w1 hS1; clear hS; replace hS := hS1; clear hS1; try simp only [List.set_cons_zero, List.set_cons_succ, List.setIfInBounds_toArray, List.take_succ_cons, List.take_zero, List.drop_succ_cons, List.drop_zero, List.nil_append, List.cons_append, List.append_nil, List.drop_nil, List.take_nil, List.length_cons, List.length_nil, Nat.zero_add, Nat.add_zero, Nat.reduceAdd] at hS) | ((with_reducible refine wpList_storerow_st 0 hS rfl rfl rfl rfl (by kernel_rfl) rfl rfl rfl rfl ?_); intro w1 hS1; clear hS; replace hS := hS1; clear hS1; try simp only [List.set_cons_zero, List.set_cons_succ, List.setIfInBounds_toArray, List.take_succ_cons, List.take_zero, List.drop_succ_cons, List.drop_zero, List.nil_append, List.cons_append, List.append_nil, List.drop_nil, List.take_nil, List.length_cons, List.length_nil, Nat.zero_add, Nat.add_zero, Nat.reduceAdd] at hS)
    | (go_at_call 98; (with_reducible refine (compare_any _ _ _).mono ?_); rintro _ _ ⟨rfl, rfl⟩))
  go_ret
  exact ⟨rfl, hS.below⟩

theorem gsearch_any (a : Option Addr) (gs : List Gr) (n cap : Nat) (id : Int) (w : World) (hD : Deep w a n cap gs) (hm : n ≤ 100000) (hu : Ids.Up (nos gs)) :
    Calls Try.prog 96 #[.slice a n cap, .int .i64 id, .func (.func 97) #[] #[]] w fun e w' => e = .returned (.tuple #[.int .i64 (Ids.place (nos gs) id), .bool (Ids.has (nos gs) id)]) ∧ Below w.heap.size w w' := by
  have hS := St.start w
  have hn : (nos gs).length = n := by rw [nos, List.length_map, hD.len]
  have hp := place_le (nos gs) id
  rw [hn] at hp
  have hlt := Lib.hid (Ids.lt_place (nos gs) id hu)
  have hhas := Lib.hid (Ids.has_place (nos gs) id hu)
  have hget : ∀ j (hj : j < (nos gs).length), ∃ b off A N C, a = some ⟨b, off, none⟩ ∧ w.cell? ⟨b, off + j * 2, none⟩ = some (.int .i64 (nos gs)[j]) ∧ w.cell? ⟨b, off + j * 2 + 1, none⟩ = some (.slice A N C) := by
    intro j hj
    obtain ⟨b, off, h1, h2, h3⟩ := hD.get j (by simpa [nos] using hj)
    exact ⟨b, off, (gs[j]'(by simpa [nos] using hj)).a, (gs[j]'(by simpa [nos] using hj)).mem.length, (gs[j]'(by simpa [nos] using hj)).c, h1, by simpa [nos] using h2, h3⟩
  replace hget := Lib.hid hget
  generalize Ids.has (nos gs) id = hb at hhas ⊢
  generalize Ids.place (nos gs) id = p at hp hlt hhas ⊢
  generalize nos gs = l at *
  replace hn := Lib.hid hn
  clear hu hD
  go_enter Try.func96, Try.ntmps96
  go_wp2_with fail
  go_loopg [9, 10] n (fun gk vx vy wr => ∃ i j : Nat, i ≤ p ∧ p ≤ j ∧ j ≤ n ∧ gk = j - i ∧ vx = .int .i64 i ∧ vy = .int .i64 j ∧ St w [] [] wr)
  case atStart => exact ⟨0, n, Nat.zero_le _, hp, Nat.le_refl _, rfl, rfl, rfl, hS⟩
  case round =>
    clear hS
    obtain ⟨i, j, h1, h2, h3, rfl, rfl, rfl, hS⟩ := hrel
    by_cases hij : i < j
    · have hmid : (i + j) / 2 < n := by omega
      obtain ⟨b, off, A, N, C, rfl, c0, c1⟩ := hget.out ((i + j) / 2) (by rw [hn.out]; exact hmid)
      have hl2 := hlt.out ((i + j) / 2) (by rw [hn.out]; exact hmid)
      generalize l[(i + j) / 2]'(by rw [hn.out]; exact hmid) = x at c0 hl2
      replace c0 := hS.old c0 (by simp)
      replace c1 := hS.old c1 (by simp)
      have cF := Lib.hid (fun W : World => find1_any x id A N C W)
      by_cases hx : x < id
      · have hp2 := hl2.1 hx
        have hcm := Lib.hid (show cmpI x id = -1 from by unfold cmpI; rw [if_pos hx])
        clear hl2 hx
        go_wp2_with (go_at_call 97; (with_reducible refine (cF.out _).mono ?_); rintro _ w3 ⟨rfl, hb3⟩; rw [hcm.out]; have hS1 := hS.keepB hb3; clear hb3 hS; have hS := hS1; clear hS1)
        go_roundg (j - ((i + j) / 2 + 1))
        case measure => omega
        case rel => exact ⟨(i + j) / 2 + 1, j, by omega, h2, h3, rfl, congrArg (Value.int .i64) (by omega), rfl, hS⟩
      · have hp2 : p ≤ (i + j) / 2 := by
          rcases Nat.lt_or_ge ((i + j) / 2) p with h | h
          · exact absurd (hl2.2 h) hx
          · exact h
        have hcm : 0 ≤ cmpI x id := by unfold cmpI; rw [if_neg hx]; split <;> omega
        have hcb : decide (cmpI x id < 0) = false := decide_eq_false (by omega)
        generalize cmpI x id = cx at *
        clear hl2 hx
        go_wp2_with (go_at_call 97; (with_reducible refine (cF.out _).mono ?_); rintro _ w3 ⟨rfl, hb3⟩; have hS1 := hS.keepB hb3; clear hb3 hS; have hS := hS1; clear hS1)
        go_roundg ((i + j) / 2 - i)
        case measure => omega
        case rel => exact ⟨i, (i + j) / 2, h1, hp2, by omega, rfl, rfl, congrArg (Value.int .i64) (by omega), hS⟩
    · obtain rfl : i = p := by omega
      obtain rfl : j = i := by omega
      clear h1 h2 hp hij
      by_cases hj : j < n
      · obtain ⟨b, off, A, N, C, rfl, c0, c1⟩ := hget.out j (by rw [hn.out]; exact hj)
        have hh := hhas.out
        rw [dif_pos (by rw [hn.out]; exact hj)] at hh
        generalize l[j]'(by rw [hn.out]; exact hj) = x at c0 hh
        replace c0 := hS.old c0 (by simp)
        replace c1 := hS.old c1 (by simp)
        have cF := Lib.hid (fun W : World => find1_any x id A N C W)
        have hcm : (cmpI x id == 0) = decide (x = id) := by
          unfold cmpI
          by_cases h1 : x < id
          · rw [if_pos h1, decide_eq_false (by omega)]; rfl
          · by_cases h2 : id < x
            · rw [if_neg h1, if_pos h2, decide_eq_false (by omega)]; rfl
            · rw [if_neg h1, if_neg h2, decide_eq_true (by omega)]; rfl
        rw [← hh] at hcm
        generalize cmpI x id = cx at *
        clear hh
        replace hcm := Lib.hid hcm
        go_wp2_with (go_at_call 97; (with_reducible refine (cF.out _).mono ?_); rintro _ w3 ⟨rfl, hb3⟩; have hS1 := hS.keepB hb3; clear hb3 hS; have hS := hS1; clear hS1)
        go_ret2
        exact ⟨by rw [← hcm.out]; rfl, hS.below⟩
      · have hh := hhas.out
        rw [dif_neg (by rw [hn.out]; exact hj)] at hh
        replace hh := Lib.hid hh
        have hj2 : n ≤ j := by omega
        clear hj
        go_wp2_with fail
        go_ret2
        exact ⟨by rw [hh.out]; rfl, hS.below⟩

theorem find_any (a : Option Addr) (gs : List Gr) (n cap : Nat) (id : Int) (w : World) (hD : Deep w a n cap gs) (hm : n ≤ 100000) (hu : Ids.Up (nos gs)) :
    Calls Try.prog 69 #[.slice a n cap, .int .i64 id] w fun e w' => e = .returned (.tuple #[.int .i64 (Ids.place (nos gs) id), .bool (Ids.has (nos gs) id)]) ∧ Below w.heap.size w w' := by
  have cS := Lib.hid (gsearch_any a gs n cap id w hD hm hu)
  clear hD hu
  go_enter Try.func69, Try.ntmps69
  go_wp2_with (go_at_call 96; (with_reducible refine cS.out.mono ?_); rintro _ w3 ⟨rfl, hb3⟩)
  go_ret2
  exact ⟨rfl, hb3⟩
end Go.Proofs.Ytplgpbbghhlbjaa
