/- Records cut into pieces, and pieces joined: the plain law of both ways to do it. -/
import Derived.Test.YtlhpibniecfofaaKit2
set_option linter.unusedSimpArgs false
set_option linter.unusedVariables false
namespace Go.Ofp
set_option linter.unusedVariables false

/-- A piece of a record. -/
structure Pc where
  life : Int
  place : Int
  first : Bool
  last : Bool
  body : ByteArray

def Pc.row (p : Pc) : List Value := [.int .i64 p.life, .int .i64 p.place, .bool p.first, .bool p.last, .string p.body]
def Pc.val (p : Pc) : Value := .agg p.row.toArray

@[simp] theorem Pc.row_length (p : Pc) : p.row.length = 5 := rfl

def Pc.ok (p : Pc) : Bool := decide (1 ≤ p.life) && (decide (p.life < 4294967296) && (decide (0 ≤ p.place) && (decide (p.place < 1099511627776) && decide (p.body.size ≤ 52))))

theorem Pc.ok_iff (p : Pc) : p.ok = true ↔ 1 ≤ p.life ∧ p.life < 4294967296 ∧ 0 ≤ p.place ∧ p.place < 1099511627776 ∧ p.body.size ≤ 52 := by
  simp [Pc.ok]

/-- How many pieces a record has. -/
def manyB (n : Nat) : Nat := if n ≤ 52 then 1 else (n - 1) / 52 + 1

theorem manyB_pos (n : Nat) : 0 < manyB n := by unfold manyB; split <;> omega
theorem manyB_le (n : Nat) : n ≤ manyB n * 52 := by unfold manyB; split <;> omega
theorem manyB_eq (n : Nat) : (n ≤ 52 ∧ manyB n = 1) ∨ (52 < n ∧ manyB n = (n - 1) / 52 + 1) := by unfold manyB; split <;> omega
theorem manyB_lt (n : Nat) (h : 1 < manyB n) : (manyB n - 1) * 52 < n := by have := manyB_eq n; omega
theorem manyB_of (n m : Nat) (hm : 0 < m) (h1 : n ≤ m * 52) (h2 : m = 1 ∨ (m - 1) * 52 < n) : manyB n = m := by have := manyB_eq n; omega
theorem manyB_bound (n : Nat) : manyB n ≤ n + 1 := by unfold manyB; split <;> omega

/-- Piece number i. -/
def pieceAt (life place : Int) (rec : ByteArray) (n i : Nat) : Pc :=
  ⟨life, place + i, i == 0, i == n - 1, rec.extract (i * 52) (min rec.size ((i + 1) * 52))⟩

/-- May a record be cut there? -/
def cutOk (life place : Int) (n : Nat) : Bool := decide (0 ≤ place) && (decide (place + n ≤ 1099511627776) && (decide (1 ≤ life) && decide (life < 4294967296)))

theorem cutOk_iff (life place : Int) (n : Nat) : cutOk life place n = true ↔ 0 ≤ place ∧ place + n ≤ 1099511627776 ∧ 1 ≤ life ∧ life < 4294967296 := by simp [cutOk]

def cutB (life place : Int) (rec : ByteArray) : List Pc :=
  if cutOk life place (manyB rec.size) then (List.range (manyB rec.size)).map (pieceAt life place rec (manyB rec.size)) else []

theorem size_extract (s : ByteArray) (a b : Nat) : (s.extract a b).size = min b s.size - a := by simp

theorem pieceAt_size (life place : Int) (rec : ByteArray) (i : Nat) : (pieceAt life place rec (manyB rec.size) i).body.size = min rec.size ((i + 1) * 52) - i * 52 := by
  simp only [pieceAt, size_extract]
  omega

theorem pieceAt_ok (life place : Int) (rec : ByteArray) (i : Nat) (hi : i < manyB rec.size) (h0 : 0 ≤ place) : (pieceAt life place rec (manyB rec.size) i).ok = (decide (1 ≤ life) && (decide (life < 4294967296) && decide (place + i < 1099511627776))) := by
  rw [Bool.eq_iff_iff, Pc.ok_iff, pieceAt_size life place rec i]
  simp only [pieceAt, Bool.and_eq_true, decide_eq_true_eq]
  omega

/-- All bodies, in a row. -/
def catB (l : List Pc) : List UInt8 := (l.map fun p => p.body.data.toList).flatten

/-- May piece number i of n stand there, behind a first one? -/
def joinAt (l0 : Pc) (n i : Nat) (p : Pc) : Bool :=
  p.ok && (p.life == l0.life && (p.place == l0.place + i && (p.first == (i == 0) && (p.last == (i == n - 1) && ((i == n - 1 || decide (52 ≤ p.body.size)) && (i == 0 || decide (0 < p.body.size)))))))

theorem joinAt_iff (l0 : Pc) (n i : Nat) (p : Pc) : joinAt l0 n i p = true ↔ p.ok = true ∧ p.life = l0.life ∧ p.place = l0.place + i ∧ p.first = (i == 0) ∧ p.last = (i == n - 1) ∧ (i = n - 1 ∨ 52 ≤ p.body.size) ∧ (i = 0 ∨ 0 < p.body.size) := by
  simp [joinAt]

def joinOk (l : List Pc) : Bool := match l with
  | [] => false
  | l0 :: _ => (List.range l.length).all fun i => match l[i]? with
    | some p => joinAt l0 l.length i p
    | none => false

theorem joinOk_iff (l0 : Pc) (l : List Pc) (h0 : l[0]? = some l0) : joinOk l = true ↔ ∀ i p, l[i]? = some p → joinAt l0 l.length i p = true := by
  cases l with
  | nil => simp at h0
  | cons a l =>
    simp only [List.getElem?_cons_zero, Option.some.injEq] at h0
    subst h0
    simp only [joinOk, List.all_eq_true, List.mem_range]
    constructor
    · intro h i p hp
      have := h i (List.getElem?_eq_some_iff.1 hp).1
      rwa [hp] at this
    · intro h i hi
      rw [List.getElem?_eq_getElem hi]
      exact h i _ (List.getElem?_eq_getElem hi)

/-- The record of pieces, and whether there is one. -/
def joinB (l : List Pc) : ByteArray × Bool := if joinOk l then (str (catB l), true) else (str [], false)

theorem ba_ext {a b : ByteArray} (h : a.data.toList = b.data.toList) : a = b := ByteArray.ext (Array.ext' h)
theorem ba_size (s : ByteArray) : s.size = s.data.toList.length := by rw [Array.length_toList]; rfl
theorem extract_list (s : ByteArray) (a b : Nat) : (s.extract a b).data.toList = (s.data.toList.drop a).take (b - a) := by
  rw [ByteArray.data_extract, Array.toList_extract, List.extract_eq_take_drop]

theorem flat_at {α : Type} (k : Nat) : ∀ (bs : List (List α)) (i : Nat) (hi : i < bs.length), (∀ j (hj : j < bs.length), j < i → bs[j].length = k) → (bs.flatten.drop (i * k)).take bs[i].length = bs[i]
  | [], i, hi, _ => by simp at hi
  | b :: bs, 0, _, _ => by simp
  | b :: bs, i + 1, hi, h => by
    have h0 : b.length = k := h 0 (by simp) (by omega)
    have ih := flat_at k bs i (by simpa using hi) (fun j hj hji => by have := h (j + 1) (by simpa using hj) (by omega); simpa using this)
    have e : (i + 1) * k - b.length = i * k := by rw [h0, Nat.add_mul]; omega
    simp only [List.flatten_cons, List.getElem_cons_succ]
    rw [List.drop_append, e, List.drop_eq_nil_of_le (by rw [h0, Nat.add_mul]; omega), List.nil_append]
    exact ih

theorem flat_len {α : Type} (k : Nat) : ∀ (bs : List (List α)) (n : Nat) (hn : bs.length = n + 1), (∀ j (hj : j < bs.length), j < n → bs[j].length = k) → bs.flatten.length = n * k + (bs[n]'(by omega)).length
  | [], n, hn, _ => by simp at hn
  | [b], 0, _, _ => by simp
  | b :: c :: bs, 0, hn, _ => by simp at hn
  | b :: bs, n + 1, hn, h => by
    have h0 : b.length = k := h 0 (by simp) (by omega)
    have ih := flat_len k bs n (by simpa using hn) (fun j hj hji => by have := h (j + 1) (by simpa using hj) (by omega); simpa using this)
    simp only [List.flatten_cons, List.length_append, List.getElem_cons_succ, ih, h0, Nat.add_mul]
    omega

/-- A list, cut into pieces of k, is what the pieces come to. -/
theorem chunks_flat {α : Type} (k : Nat) (l : List α) : ∀ n, l.length ≤ n * k → ((List.range n).map fun i => (l.drop (i * k)).take k).flatten = l
  | 0, h => by
    have : l = [] := List.eq_nil_of_length_eq_zero (by omega)
    simp [this]
  | n + 1, h => by
    rw [List.range_succ_eq_map, List.map_cons, List.map_map, List.flatten_cons]
    have ih := chunks_flat k (l.drop k) n (by rw [List.length_drop, Nat.add_mul] at *; omega)
    have e : (List.range n).map ((fun i => (l.drop (i * k)).take k) ∘ Nat.succ) = (List.range n).map fun i => ((l.drop k).drop (i * k)).take k := by
      refine List.map_congr_left fun i _ => ?_
      simp only [Function.comp, List.drop_drop]
      congr 2
      rw [Nat.succ_mul]
      omega
    rw [e, ih]
    simp

theorem cutB_get {life place : Int} {rec : ByteArray} (h : cutOk life place (manyB rec.size) = true) (i : Nat) : (cutB life place rec)[i]? = if i < manyB rec.size then some (pieceAt life place rec (manyB rec.size) i) else none := by
  rw [cutB, if_pos h, List.getElem?_map]
  split
  · rename_i hi; rw [List.getElem?_range hi]; rfl
  · rename_i hi; rw [List.getElem?_eq_none (by simpa using hi)]; rfl

theorem cutB_length {life place : Int} {rec : ByteArray} (h : cutOk life place (manyB rec.size) = true) : (cutB life place rec).length = manyB rec.size := by
  rw [cutB, if_pos h]; simp

theorem pieceAt_body (life place : Int) (rec : ByteArray) (i : Nat) : (pieceAt life place rec (manyB rec.size) i).body.data.toList = (rec.data.toList.drop (i * 52)).take 52 := by
  simp only [pieceAt]
  rw [extract_list]
  by_cases h : (i + 1) * 52 ≤ rec.size
  · rw [Nat.min_eq_right h]; congr 1; omega
  · rw [Nat.min_eq_left (by omega), List.take_of_length_le (by rw [List.length_drop, ← ba_size]; omega), List.take_of_length_le (by rw [List.length_drop, ← ba_size]; omega)]

theorem cat_cut {life place : Int} {rec : ByteArray} (h : cutOk life place (manyB rec.size) = true) : catB (cutB life place rec) = rec.data.toList := by
  rw [catB, cutB, if_pos h, List.map_map]
  have e : (List.range (manyB rec.size)).map ((fun p : Pc => p.body.data.toList) ∘ pieceAt life place rec (manyB rec.size)) = (List.range (manyB rec.size)).map fun i => (rec.data.toList.drop (i * 52)).take 52 :=
    List.map_congr_left fun i _ => pieceAt_body _ _ _ _
  rw [e]
  exact chunks_flat 52 _ _ (by rw [← ba_size]; exact manyB_le _)

/-- Pieces that a cut makes stand where they may. -/
theorem join_cut_at {life place : Int} {rec : ByteArray} (h : cutOk life place (manyB rec.size) = true) (l0 : Pc) (h1 : l0.life = life) (h2 : l0.place = place) (i : Nat) (hi : i < manyB rec.size) :
    joinAt l0 (manyB rec.size) i (pieceAt life place rec (manyB rec.size) i) = true := by
  rw [cutOk_iff] at h
  rw [joinAt_iff, pieceAt_ok _ _ _ _ hi h.1, pieceAt_size]
  have := manyB_le rec.size
  have h3 := manyB_lt rec.size
  simp only [pieceAt, Bool.and_eq_true, decide_eq_true_eq, h1, h2]
  refine ⟨by omega, trivial, trivial, trivial, trivial, ?_, ?_⟩ <;> omega

theorem joinOk_iff_cut (l0 : Pc) (l : List Pc) (h0 : l[0]? = some l0) : joinOk l = true ↔ cutB l0.life l0.place (str (catB l)) = l := by
  have hpos : 0 < l.length := (List.getElem?_eq_some_iff.1 h0).1
  rw [joinOk_iff l0 l h0]
  constructor
  · intro h
    have hat : ∀ i (hi : i < l.length), joinAt l0 l.length i l[i] = true := fun i hi => h i _ (List.getElem?_eq_getElem hi)
    have hL : (l.map fun p : Pc => p.body.data.toList).length = l.length - 1 + 1 := by rw [List.length_map]; omega
    have h52 : ∀ j (hj : j < (l.map fun p : Pc => p.body.data.toList).length), j < l.length - 1 → ((l.map fun p : Pc => p.body.data.toList)[j]).length = 52 := by
      intro j hj hlt
      have hj' : j < l.length := by omega
      have := (joinAt_iff _ _ _ _).1 (hat j hj')
      have hk := ((Pc.ok_iff _).1 this.1).2.2.2.2
      rw [List.getElem_map, ← ba_size]
      omega
    have hlen := flat_len 52 _ (l.length - 1) hL h52
    rw [List.getElem_map, ← ba_size] at hlen
    have hlast := (joinAt_iff _ _ _ _).1 (hat (l.length - 1) (by omega))
    have hlok := (Pc.ok_iff _).1 hlast.1
    have hsz : (str (catB l)).size = (l.length - 1) * 52 + (l[l.length - 1]).body.size := by rw [str_size, catB]; exact hlen
    have hmany : manyB (str (catB l)).size = l.length := manyB_of _ _ hpos (by omega) (by omega)
    have hok : cutOk l0.life l0.place (manyB (str (catB l)).size) = true := by
      rw [cutOk_iff, hmany]
      have z := (joinAt_iff _ _ _ _).1 (hat 0 hpos)
      have zk := (Pc.ok_iff _).1 z.1
      omega
    refine List.ext_getElem? fun i => ?_
    rw [cutB_get hok, hmany]
    split
    · rename_i hi
      rw [List.getElem?_eq_getElem hi]
      have hi' := (joinAt_iff _ _ _ _).1 (hat i hi)
      have hik := (Pc.ok_iff _).1 hi'.1
      have hb : (l[i]).body = (pieceAt l0.life l0.place (str (catB l)) l.length i).body := by
        apply ba_ext
        rw [← hmany, pieceAt_body, str_data, catB]
        have hf := flat_at 52 (l.map fun p : Pc => p.body.data.toList) i (by simpa using hi) (fun j hj hji => h52 j hj (by omega))
        rw [List.getElem_map] at hf
        by_cases hl : i = l.length - 1
        · rw [List.take_of_length_le] 
          · rw [← hf, List.take_of_length_le]
            rw [List.length_drop, hlen, ← ba_size]
            subst hl
            omega
          · rw [List.length_drop, hlen]
            subst hl
            omega
        · have : (l[i]).body.data.toList.length = 52 := by have := h52 i (by simpa using hi) (by omega); rwa [List.getElem_map] at this
          rw [this] at hf
          exact hf.symm
      obtain ⟨-, e1, e2, e3, e4, -, -⟩ := hi'
      cases hli : l[i] with
      | mk a b c d e =>
        rw [hli] at hb e1 e2 e3 e4
        simp only at hb e1 e2 e3 e4
        subst e1 e2 e3 e4 hb
        simp [pieceAt]
    · rename_i hi
      rw [List.getElem?_eq_none (by omega)]
  · intro h i p hp
    have hok : cutOk l0.life l0.place (manyB (str (catB l)).size) = true := by
      cases hc : cutOk l0.life l0.place (manyB (str (catB l)).size) with
      | true => rfl
      | false =>
        rw [cutB, hc] at h
        simp at h
        subst h
        simp at hpos
    have hlen : manyB (str (catB l)).size = l.length := by rw [← cutB_length hok, h]
    rw [← h, cutB_get hok] at hp
    split at hp
    · rename_i hi
      cases hp
      rw [← hlen]
      exact join_cut_at hok l0 rfl rfl i hi
    · cases hp

/-- A record joined of its pieces. -/
theorem join_cut {life place : Int} {rec : ByteArray} (h : cutOk life place (manyB rec.size) = true) : joinB (cutB life place rec) = (rec, true) := by
  have hp := manyB_pos rec.size
  have h0 : (cutB life place rec)[0]? = some (pieceAt life place rec (manyB rec.size) 0) := by rw [cutB_get h, if_pos hp]
  have hj : joinOk (cutB life place rec) = true := by
    rw [joinOk_iff_cut _ _ h0, cat_cut h, str_of]
    simp [pieceAt]
  rw [joinB, if_pos hj, cat_cut h, str_of]

/-- Pieces of which one lacks. -/
theorem join_less {life place : Int} {rec : ByteArray} (h : cutOk life place (manyB rec.size) = true) (a : Nat) (ha : a < manyB rec.size) :
    joinOk ((cutB life place rec).take a ++ (cutB life place rec).drop (a + 1)) = false := by
  have hl := cutB_length h
  have hg := cutB_get h
  generalize cutB life place rec = l at hl hg
  generalize manyB rec.size = n at *
  rw [Bool.eq_false_iff]
  intro hj
  have hless : (l.take a ++ l.drop (a + 1)).length = n - 1 := by rw [List.length_append, List.length_take, List.length_drop]; omega
  by_cases hn : n = 1
  · subst hn
    have : l.take a ++ l.drop (a + 1) = [] := List.eq_nil_of_length_eq_zero (by omega)
    rw [this] at hj
    simp [joinOk] at hj
  have hget : ∀ i, (l.take a ++ l.drop (a + 1))[i]? = if i < a then l[i]? else l[i + 1]? := by
    intro i
    rw [List.getElem?_append]
    split
    · rename_i hi
      rw [List.length_take] at hi
      rw [if_pos (by omega), List.getElem?_take_of_lt (by omega)]
    · rename_i hi
      rw [List.length_take] at hi
      rw [if_neg (by omega), List.getElem?_drop, List.length_take]
      congr 1
      omega
  by_cases ha0 : a = 0
  · subst ha0
    have h0 := hget 0
    rw [if_neg (by omega), hg, if_pos (by omega)] at h0
    have := (joinOk_iff _ _ h0).1 hj 0 _ h0
    rw [joinAt_iff] at this
    simp [pieceAt] at this
  · have h0 := hget 0
    rw [if_pos (by omega), hg, if_pos (by omega)] at h0
    by_cases hlast : a = n - 1
    · have h1 := hget (n - 2)
      rw [if_pos (by omega), hg, if_pos (by omega)] at h1
      have := (joinOk_iff _ _ h0).1 hj (n - 2) _ h1
      rw [joinAt_iff, hless] at this
      obtain ⟨-, -, -, -, h5, -, -⟩ := this
      simp only [pieceAt] at h5
      have e1 : (n - 2 == n - 1) = false := by rw [beq_eq_false_iff_ne]; omega
      have e2 : (n - 2 == n - 1 - 1) = true := by rw [beq_iff_eq]; omega
      rw [e1, e2] at h5
      cases h5
    · have h1 := hget a
      rw [if_neg (by omega), hg, if_pos (by omega)] at h1
      have := (joinOk_iff _ _ h0).1 hj a _ h1
      rw [joinAt_iff] at this
      obtain ⟨-, -, h3, -⟩ := this
      simp only [pieceAt] at h3
      omega

/-- Pieces that are changed about. -/
theorem join_swap {life place : Int} {rec : ByteArray} (h : cutOk life place (manyB rec.size) = true) (a b : Nat) (ha : a < manyB rec.size) (hb : b < manyB rec.size) (pa pb : Pc) (hpa : (cutB life place rec)[a]? = some pa) (hpb : (cutB life place rec)[b]? = some pb) :
    joinOk (((cutB life place rec).set a pb).set b pa) = (a == b) := by
  by_cases hab : a = b
  · subst hab
    rw [hpa] at hpb
    cases hpb
    have e : ((cutB life place rec).set a pa).set a pa = cutB life place rec := by
      rw [List.set_set]
      refine List.ext_getElem? fun i => ?_
      rw [List.getElem?_set]
      split
      · rename_i hi
        subst hi
        rw [if_pos (by rw [cutB_length h]; exact ha), hpa]
      · rfl
    have hp := manyB_pos rec.size
    have h0 : (cutB life place rec)[0]? = some (pieceAt life place rec (manyB rec.size) 0) := by rw [cutB_get h, if_pos hp]
    rw [e, beq_self_eq_true, joinOk_iff_cut _ _ h0, cat_cut h, str_of]
    simp [pieceAt]
  · have hne : (a == b) = false := by rw [beq_eq_false_iff_ne]; exact hab
    rw [hne, Bool.eq_false_iff]
    intro hj
    have hl := cutB_length h
    rw [cutB_get h, if_pos ha] at hpa
    rw [cutB_get h, if_pos hb] at hpb
    cases hpa
    cases hpb
    have hg := cutB_get h
    generalize cutB life place rec = l at hl hg hj
    generalize manyB rec.size = n at *
    have hget : ∀ i, ((l.set a (pieceAt life place rec n b)).set b (pieceAt life place rec n a))[i]? = if i = b then some (pieceAt life place rec n a) else if i = a then some (pieceAt life place rec n b) else l[i]? := by
      intro i
      rw [List.getElem?_set, List.getElem?_set, List.length_set, hl]
      by_cases h1 : i = b
      · subst h1; simp [hb]
      · by_cases h2 : i = a
        · subst h2; simp [ha, Ne.symm h1, h1]
        · simp [Ne.symm h1, Ne.symm h2, h1, h2]
    have hf : ∀ (i : Nat) (p : Pc), ((l.set a (pieceAt life place rec n b)).set b (pieceAt life place rec n a))[i]? = some p → ∀ l0 : Pc, ((l.set a (pieceAt life place rec n b)).set b (pieceAt life place rec n a))[0]? = some l0 → p.place = l0.place + i ∧ p.first = (i == 0) := by
      intro i p hp l0 h0
      have := (joinAt_iff _ _ _ _).1 ((joinOk_iff _ _ h0).1 hj i p hp)
      exact ⟨this.2.2.1, this.2.2.2.1⟩
    have g0 := hget 0
    by_cases hb0 : b = 0
    · rw [if_pos hb0.symm] at g0
      have := (hf 0 _ g0 _ g0).2
      simp [pieceAt] at this
      omega
    · rw [if_neg (Ne.symm hb0)] at g0
      by_cases ha0 : a = 0
      · rw [if_pos ha0.symm] at g0
        have := (hf 0 _ g0 _ g0).2
        simp [pieceAt] at this
        omega
      · rw [if_neg (Ne.symm ha0), hg, if_pos (by omega)] at g0
        have g1 := hget b
        rw [if_pos rfl] at g1
        have := (hf b _ g1 _ g0).1
        simp only [pieceAt] at this
        omega

end Go.Ofp
