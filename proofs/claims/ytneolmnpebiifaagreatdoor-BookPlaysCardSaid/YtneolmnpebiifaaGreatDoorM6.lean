import Derived.ShutString
import Derived.Test.YtneolmnpebiifaaGreatDoorM5
set_option linter.unusedVariables false
set_option linter.unusedSimpArgs false
set_option maxRecDepth 100000
section
namespace Go.Ofp
open Go.RowKit Go.WideShapes
structure Rw (w : World) (a : Option Addr) (size : Nat) (rows : List (List Value)) : Prop where
 sl : Sl w a rows.flatten
 each : ∀ r ∈ rows, r.length = size
theorem flatten_get {α : Type} (size : Nat) : ∀ (rows : List (List α)), (∀ r ∈ rows, r.length = size) → ∀ j t (hj : j < rows.length) (ht : t < size), rows.flatten[j * size + t]? = rows[j][t]?
 | [], _, j, t, hj, _ => by simp at hj
 | r :: rows, h, 0, t, _, ht => by
  have := h r (by simp)
  simp only [List.flatten_cons, Nat.zero_mul, Nat.zero_add, List.getElem_cons_zero]
  rw [List.getElem?_append_left (by omega)]
 | r :: rows, h, j + 1, t, hj, ht => by
  have hr := h r (by simp)
  simp only [List.flatten_cons, List.getElem_cons_succ]
  rw [List.getElem?_append_right (by rw [hr, Nat.add_mul]; omega), show (j + 1) * size + t - r.length = j * size + t by rw [hr, Nat.add_mul]; omega]
  exact flatten_get size rows (fun x hx => h x (by simp [hx])) j t (by simpa using hj) ht
theorem Rw.get {w : World} {a : Option Addr} {size : Nat} {rows : List (List Value)} (h : Rw w a size rows) (j : Nat) (hj : j < rows.length) (h0 : 0 < size) :
 ∃ b off, a = some ⟨b, off, none⟩ ∧ ∀ t v, rows[j][t]? = some v → w.cell? ⟨b, off + (j * size + t), none⟩ = some v := by
 have hl : rows.flatten.length = rows.length * size := by
  have : ∀ (rs : List (List Value)), (∀ r ∈ rs, r.length = size) → rs.flatten.length = rs.length * size := by
   intro rs
   induction rs with
   | nil => intro _; simp
   | cons r rs ih => intro h; rw [List.flatten_cons, List.length_append, ih (fun x hx => h x (by simp [hx])), h r (by simp), List.length_cons, Nat.add_mul]; omega
  exact this rows h.each
 have hpos : rows.flatten ≠ [] := by
  intro e
  rw [e, List.length_nil] at hl
  have := Nat.mul_pos (show 0 < rows.length by omega) h0
  omega
 obtain ⟨b, off, rfl⟩ := h.sl.cells hpos
 refine ⟨b, off, rfl, fun t v hv => ?_⟩
 have ht : t < size := by
  have := (List.getElem?_eq_some_iff.1 hv).1
  rwa [h.each _ (List.getElem_mem hj)] at this
 have := h.sl.add (j * size + t) v (by rw [flatten_get size rows h.each j t hj ht]; exact hv)
 rwa [Addr.add_lit] at this
theorem Rw.below {w w' : World} {a : Option Addr} {size : Nat} {rows : List (List Value)} (h : Rw w a size rows) (hb : Below w.heap.size w w') : Rw w' a size rows := ⟨h.sl.below hb, h.each⟩
section
variable {H : Type} {enc : TypeId × Value → H} {P : Program} {w : World} {base : Nat} {spare : Nat → Bool} {held : Bool} {t e : TypeId}
theorem open_rows {r : Reach} {b0 : Nat} {v : Value} {d : DataW H} {ps : List MemPlace} (ht : P.underlying t = some (.slice e)) (ho : Value.okWide P w r b0 t v) (h : DataW.Trod enc P w base spare held t v d ps) (hp : 0 < P.cellsOf e) :
 ∃ a n cap, v = .slice a n cap ∧ n ≤ cap ∧ cap ≤ maxLen ∧ ∃ rows, rows.length = n ∧ Rw w a (P.cellsOf e) rows ∧ ∀ cs ∈ rows, ∃ fuel x, DataW.trod enc P w base spare held fuel e cs = some x := by
 obtain ⟨a, n, cap, rfl⟩ := okWide_slice ht ho
 obtain ⟨fuel, hf⟩ := h
 rcases DataW.trod_slice ht hf with ⟨hc, _⟩ | ⟨ad, len, c, elems, rest, m, _, hc, _, _, hlc, hcm, hle, hel, _, _⟩
 · simp only [Value.cells, List.cons.injEq, Value.slice.injEq, and_true] at hc
   obtain ⟨rfl, rfl, rfl⟩ := hc
   exact ⟨none, 0, 0, rfl, Nat.le_refl _, Nat.zero_le _, [], rfl, ⟨Sl.nil _ _, by simp⟩, by simp⟩
 · simp only [Value.cells, List.cons.injEq, Value.slice.injEq, and_true] at hc
   obtain ⟨rfl, rfl, rfl⟩ := hc
   have key : ∀ i, i < n → ∃ cs x, w.cells? base (ad.add (i * P.cellsOf e)) (P.cellsOf e) = some cs ∧ DataW.trod enc P w base spare held m e cs = some x := by
    intro i hi
    have h1 := hel i hi
    rw [List.getElem?_eq_getElem (by omega)] at h1
    obtain ⟨cs, h2, h3⟩ := Option.bind_eq_some_iff.1 h1
    exact ⟨cs, _, h2, h3⟩
   have cell : ∀ i (hi : i < n) cs, w.cells? base (ad.add (i * P.cellsOf e)) (P.cellsOf e) = some cs → cs.length = P.cellsOf e ∧ ∀ t, t < P.cellsOf e → w.cell? ((ad.add (i * P.cellsOf e)).add t) = cs[t]? := by
    intro i hi cs h1
    unfold World.cells? at h1
    split at h1
    · exact ⟨by simpa using mapM_some_length h1, fun t ht => mapM_some_get h1 t t (by simp [ht])⟩
    · cases h1
   refine ⟨some ad, n, cap, rfl, hlc, hcm, (List.range n).map fun i => (w.cells? base (ad.add (i * P.cellsOf e)) (P.cellsOf e)).getD [], by simp, ?_, ?_⟩
   · have heach : ∀ r ∈ (List.range n).map (fun i => (w.cells? base (ad.add (i * P.cellsOf e)) (P.cellsOf e)).getD []), r.length = P.cellsOf e := by
      intro r hr
      obtain ⟨i, hi, rfl⟩ := List.mem_map.1 hr
      rw [List.mem_range] at hi
      obtain ⟨cs, x, h1, _⟩ := key i hi
      rw [h1]
      exact (cell i hi cs h1).1
     refine ⟨?_, heach⟩
     by_cases hn : n = 0
     · subst hn
       exact Sl.nil _ _
     · obtain ⟨b, off, spot⟩ := ad
       have hs : spot = none := by
        obtain ⟨cs, x, h1, _⟩ := key 0 (by omega)
        obtain ⟨hl, hc⟩ := cell 0 (by omega) cs h1
        have := hc 0 hp
        rw [List.getElem?_eq_getElem (by omega)] at this
        simp only [Nat.zero_mul, Addr.add, if_true] at this
        exact World.cell?_spot this
       subst hs
       intro q hq
       have hfl : ∀ (rs : List (List Value)), (∀ r ∈ rs, r.length = P.cellsOf e) → rs.flatten.length = rs.length * P.cellsOf e := by
        intro rs
        induction rs with
        | nil => intro _; simp
        | cons r rs ih => intro h; rw [List.flatten_cons, List.length_append, ih (fun x hx => h x (by simp [hx])), h r (by simp), List.length_cons, Nat.add_mul]; omega
       have hq2 := hq
       rw [hfl _ heach, List.length_map, List.length_range] at hq2
       have hj : q / P.cellsOf e < n := Nat.div_lt_of_lt_mul (by rw [Nat.mul_comm]; exact hq2)
       have ht : q % P.cellsOf e < P.cellsOf e := Nat.mod_lt _ hp
       have hqe : q / P.cellsOf e * P.cellsOf e + q % P.cellsOf e = q := by rw [Nat.mul_comm]; exact Nat.div_add_mod q _
       obtain ⟨cs, x, h1, _⟩ := key _ hj
       obtain ⟨hl, hc⟩ := cell _ hj cs h1
       have hc' := hc _ ht
       have hget := flatten_get (P.cellsOf e) _ heach (q / P.cellsOf e) (q % P.cellsOf e) (by simpa using hj) ht
       rw [hqe] at hget
       simp only [List.getElem_map, List.getElem_range, h1, Option.getD_some] at hget
       refine ⟨b, off, rfl, ?_⟩
       rw [← List.getElem?_eq_getElem hq, hget, ← hc', Addr.add_lit, Addr.add_lit]
       congr 2
       omega
   · intro cs hcs
     obtain ⟨i, hi, rfl⟩ := List.mem_map.1 hcs
     rw [List.mem_range] at hi
     obtain ⟨cs, x, h1, h2⟩ := key i hi
     rw [h1]
     exact ⟨m, x, h2⟩
end
end Go.Ofp
end
section
namespace Go.Ofp
open Go.RowKit Go.WideShapes
section
variable {H : Type} {enc : TypeId × Value → H} {P : Program} {w : World} {base : Nat} {spare : Nat → Bool} {held : Bool}
theorem field_read {t : TypeId} {fs : Array Field} {fuel : Nat} {cs : List Value} {x : DataW H × List MemPlace} (ht : P.underlying t = some (.struct fs)) (h : DataW.trod enc P w base spare held fuel t cs = some x) :
 cs.length = P.cellsOf t ∧ ∀ (i : Nat) (f : Field), fs[i]? = some f → ∃ n y, DataW.trod enc P w base spare held n f.type ((cs.drop f.offset).take (P.cellsOf f.type)) = some y := by
 obtain ⟨xs, n, _, rfl, hl, hlen, hf⟩ := DataW.trod_struct ht h
 refine ⟨hl, fun i f hi => ?_⟩
 have hi' : i < xs.length := by
  have := (Array.getElem?_eq_some_iff.1 hi).1
  omega
 refine ⟨n, xs[i], ?_⟩
 rw [hf i f hi, List.getElem?_eq_getElem hi']
theorem field_int {f : TypeId} {k : IntKind} {o n : Nat} {cs : List Value} {y : DataW H × List MemPlace} (hf : P.underlying f = some (.int k)) (hc : P.cellsOf f = 1) (ho : o < cs.length)
 (h : DataW.trod enc P w base spare held n f ((cs.drop o).take (P.cellsOf f)) = some y) : ∃ z, cs[o]? = some (.int k z) ∧ (Lit.int k z).wf = true := by
 obtain ⟨z, hz, _, hw⟩ := DataW.trod_int hf h
 rw [hc, List.drop_eq_getElem_cons ho] at hz
 simp only [List.take_succ_cons, List.take_zero, List.cons.injEq, and_true] at hz
 exact ⟨z, by rw [List.getElem?_eq_getElem ho, hz], hw⟩
end
end Go.Ofp
end
section
namespace Go.Ofp
open Go.RowKit
structure Gr where
 no : Int
 a : Option Addr
 c : Nat
 mem : List Int
def Gr.key (g : Gr) : Int × List Int := (g.no, g.mem)
def Gr.row (g : Gr) : List Value := [.int .i64 g.no, .slice g.a g.mem.length g.c]
theorem Gr.row_length (g : Gr) : g.row.length = 2 := rfl
def grows (gs : List Gr) : List Value := (gs.map Gr.row).flatten
def keys (gs : List Gr) : List (Int × List Int) := gs.map Gr.key
def nos (gs : List Gr) : List Int := gs.map Gr.no
theorem grows_len (gs : List Gr) : (grows gs).length = gs.length * 2 := by
 unfold grows
 induction gs with
 | nil => rfl
 | cons p ps ih => rw [List.map_cons, List.flatten_cons, List.length_append, ih, Gr.row_length, List.length_cons]; omega
theorem grows_one (gs : List Gr) : ∀ u ∈ grows gs, u.oneCell' = true := by
 intro u hu
 obtain ⟨r, hr, hu⟩ := List.mem_flatten.1 hu
 obtain ⟨p, _, rfl⟩ := List.mem_map.1 hr
 simp only [Gr.row, List.mem_cons, List.not_mem_nil, or_false] at hu
 rcases hu with rfl | rfl <;> rfl
theorem grows_append (a b : List Gr) : grows (a ++ b) = grows a ++ grows b := by simp [grows]
theorem grows_take (gs : List Gr) (i : Nat) : (grows gs).take (i * 2) = grows (gs.take i) := by
 induction gs generalizing i with
 | nil => simp [grows]
 | cons g gs ih =>
  cases i with
  | zero => simp [grows]
  | succ i =>
   have := ih i
   simp only [grows, List.map_cons, List.flatten_cons, Gr.row, List.take_succ_cons] at this ⊢
   rw [show (i + 1) * 2 = i * 2 + 1 + 1 by omega]
   simp [this]
theorem grows_drop (gs : List Gr) (i : Nat) : (grows gs).drop (i * 2) = grows (gs.drop i) := by
 induction gs generalizing i with
 | nil => simp [grows]
 | cons g gs ih =>
  cases i with
  | zero => simp [grows]
  | succ i =>
   have := ih i
   simp only [grows, List.map_cons, List.flatten_cons, Gr.row, List.drop_succ_cons] at this ⊢
   rw [show (i + 1) * 2 = i * 2 + 1 + 1 by omega]
   simp [this]
end Go.Ofp
namespace Go.Proofs.YtneolmnpebiifaaGreatDoor
open Go.RowKit Go.Ofp
set_option maxHeartbeats 4000000
structure Mem (w : World) (g : Gr) : Prop where
 sl : Sl w g.a (g.mem.map vi)
 le : g.mem.length ≤ g.c
 cm : g.c ≤ maxLen
 nz : g.a = none → g.c = 0
theorem Mem.below {w w' : World} {g : Gr} (h : Mem w g) (hb : Below w.heap.size w w') : Mem w' g := ⟨h.sl.below hb, h.le, h.cm, h.nz⟩
structure Deep (w : World) (a : Option Addr) (n c : Nat) (gs : List Gr) : Prop where
 sl : Sl w a (grows gs)
 len : gs.length = n
 le : n ≤ c
 cm : c ≤ maxLen
 nz : a = none → c = 0
 mem : ∀ g ∈ gs, Mem w g
theorem Deep.below {w w' : World} {a : Option Addr} {n c : Nat} {gs : List Gr} (h : Deep w a n c gs) (hb : Below w.heap.size w w') : Deep w' a n c gs :=
 ⟨h.sl.below hb, h.len, h.le, h.cm, h.nz, fun g hg => (h.mem g hg).below hb⟩
theorem Deep.get {w : World} {a : Option Addr} {n c : Nat} {gs : List Gr} (h : Deep w a n c gs) (j : Nat) (hj : j < gs.length) :
 ∃ b off, a = some ⟨b, off, none⟩ ∧ w.cell? ⟨b, off + j * 2, none⟩ = some (.int .i64 gs[j].no) ∧ w.cell? ⟨b, off + j * 2 + 1, none⟩ = some (.slice gs[j].a gs[j].mem.length gs[j].c) := by
 have hr : Rw w a 2 (gs.map Gr.row) := ⟨h.sl, fun r hr => by obtain ⟨p, _, rfl⟩ := List.mem_map.1 hr; rfl⟩
 obtain ⟨b, off, rfl, hc⟩ := hr.get j (by simpa using hj) (by decide)
 simp only [List.getElem_map] at hc
 exact ⟨b, off, rfl, hc 0 _ rfl, hc 1 _ rfl⟩
def cmpI (x y : Int) : Int := if x < y then -1 else if y < x then 1 else 0
theorem compare_any (x y : Int) (w : World) : Calls Tryz.prog 153 #[.int .i64 x, .int .i64 y] w fun e w' => e = .returned (.int .i64 (cmpI x y)) ∧ w = w' := by
 unfold cmpI
 by_cases h1 : x < y
 · rw [if_pos h1]
   go_enter Tryz.func153, Tryz.ntmps153
   go_wp2_with (go_at_call 177; (with_reducible refine (nan1_any _ _).mono ?_); rintro _ _ ⟨rfl, rfl⟩)
   go_ret
   exact ⟨rfl, rfl⟩
 · by_cases h2 : y < x
   · rw [if_neg h1, if_pos h2]
     have d1 : decide (x < y) = false := decide_eq_false h1
     clear h1
     go_enter Tryz.func153, Tryz.ntmps153
     go_wp2_with (go_at_call 177; (with_reducible refine (nan1_any _ _).mono ?_); rintro _ _ ⟨rfl, rfl⟩)
     go_ret
     exact ⟨rfl, rfl⟩
   · rw [if_neg h1, if_neg h2]
     have d1 : decide (x < y) = false := decide_eq_false h1
     have d2 : decide (y < x) = false := decide_eq_false h2
     have h3 : x ≤ y := by omega
     have h4 : y ≤ x := by omega
     clear h1 h2
     go_enter Tryz.func153, Tryz.ntmps153
     go_wp2_with (go_at_call 177; (with_reducible refine (nan1_any _ _).mono ?_); rintro _ _ ⟨rfl, rfl⟩)
     go_ret
     exact ⟨rfl, rfl⟩
theorem find1_any (no g : Int) (a : Option Addr) (n c : Nat) (w : World) : Calls Tryz.prog 152 #[.agg #[.int .i64 no, .slice a n c], .int .i64 g] w fun e w' => e = .returned (.int .i64 (cmpI no g)) ∧ Below w.heap.size w w' := by
 have hS := St.start w
 go_enter Tryz.func152, Tryz.ntmps152
 go_wp2_with (first | (with_reducible refine wpList_box_st hS rfl rfl rfl ?_; clear hS; intro g1 w1 hS) | (with_reducible refine ld 0 hS rfl rfl rfl rfl rfl ?_) | (go_at_call 153; (with_reducible refine (compare_any _ _ _).mono ?_); rintro _ _ ⟨rfl, rfl⟩))
 go_ret
 exact ⟨rfl, hS.below⟩
theorem gsearch_any (a : Option Addr) (gs : List Gr) (n cap : Nat) (id : Int) (w : World) (hD : Deep w a n cap gs) (hm : n ≤ 100000) (hu : Ids.Up (nos gs)) :
 Calls Tryz.prog 151 #[.slice a n cap, .int .i64 id, .func (.func 152) #[] #[]] w fun e w' => e = .returned (.tuple #[.int .i64 (Ids.place (nos gs) id), .bool (Ids.has (nos gs) id)]) ∧ Below w.heap.size w w' := by
 have hS := St.start w
 have hn : (nos gs).length = n := by rw [nos, List.length_map, hD.len]
 have hp := place_le (nos gs) id
 rw [hn] at hp
 have hlt := Lib.hid (Ids.lt_place (nos gs) id hu)
 have hhas := Lib.hid (Ids.has_place (nos gs) id hu)
 have hget : ∀ j (hj : j < (nos gs).length), ∃ b off A N C, a = some ⟨b, off, none⟩ ∧ w.cell? ⟨b, off + j * 2, none⟩ = some (.int .i64 (nos gs)[j]) ∧ w.cell? ⟨b, off + j * 2 + 1, none⟩ = some (.slice A N C) := by
  intro j hj
  obtain ⟨b, off, h1, h2, h3⟩ := hD.get j (by simpa [nos] using hj)
  exact ⟨b, off, (gs[j]'(by simpa [nos] using hj)).a, (gs[j]'(by simpa [nos] using hj)).mem.length, (gs[j]'(by simpa [nos] using hj)).c, h1, by simpa [nos] using h2, h3⟩
 replace hget := Lib.hid hget
 generalize Ids.has (nos gs) id = hb at hhas ⊢
 generalize Ids.place (nos gs) id = p at hp hlt hhas ⊢
 generalize nos gs = l at *
 replace hn := Lib.hid hn
 clear hu hD
 go_enter Tryz.func151, Tryz.ntmps151
 go_wp2_with fail
 go_loopg [9, 10] n (fun gk vx vy wr => ∃ i j : Nat, i ≤ p ∧ p ≤ j ∧ j ≤ n ∧ gk = j - i ∧ vx = .int .i64 i ∧ vy = .int .i64 j ∧ St w [] [] wr)
 case atStart => exact ⟨0, n, Nat.zero_le _, hp, Nat.le_refl _, rfl, rfl, rfl, hS⟩
 case round =>
  clear hS
  obtain ⟨i, j, h1, h2, h3, rfl, rfl, rfl, hS⟩ := hrel
  by_cases hij : i < j
  · have hmid : (i + j) / 2 < n := by omega
    obtain ⟨b, off, A, N, C, rfl, c0, c1⟩ := hget.out ((i + j) / 2) (by rw [hn.out]; exact hmid)
    have hl2 := hlt.out ((i + j) / 2) (by rw [hn.out]; exact hmid)
    generalize l[(i + j) / 2]'(by rw [hn.out]; exact hmid) = x at c0 hl2
    replace c0 := hS.old c0 (by simp)
    replace c1 := hS.old c1 (by simp)
    have cF := Lib.hid (fun W : World => find1_any x id A N C W)
    by_cases hx : x < id
    · have hp2 := hl2.1 hx
      have hcm := Lib.hid (show cmpI x id = -1 from by unfold cmpI; rw [if_pos hx])
      clear hl2 hx
      go_wp2_with (go_at_call 152; (with_reducible refine (cF.out _).mono ?_); rintro _ w3 ⟨rfl, hb3⟩; rw [hcm.out]; have hS1 := hS.keepB hb3; clear hb3 hS; have hS := hS1; clear hS1)
      go_roundg (j - ((i + j) / 2 + 1))
      case measure => omega
      case rel => exact ⟨(i + j) / 2 + 1, j, by omega, h2, h3, rfl, congrArg (Value.int .i64) (by omega), rfl, hS⟩
    · have hp2 : p ≤ (i + j) / 2 := by
       rcases Nat.lt_or_ge ((i + j) / 2) p with h | h
       · exact absurd (hl2.2 h) hx
       · exact h
      have hcm : 0 ≤ cmpI x id := by unfold cmpI; rw [if_neg hx]; split <;> omega
      have hcb : decide (cmpI x id < 0) = false := decide_eq_false (by omega)
      generalize cmpI x id = cx at *
      clear hl2 hx
      go_wp2_with (go_at_call 152; (with_reducible refine (cF.out _).mono ?_); rintro _ w3 ⟨rfl, hb3⟩; have hS1 := hS.keepB hb3; clear hb3 hS; have hS := hS1; clear hS1)
      go_roundg ((i + j) / 2 - i)
      case measure => omega
      case rel => exact ⟨i, (i + j) / 2, h1, hp2, by omega, rfl, rfl, congrArg (Value.int .i64) (by omega), hS⟩
  · obtain rfl : i = p := by omega
    obtain rfl : j = i := by omega
    clear h1 h2 hp hij
    by_cases hj : j < n
    · obtain ⟨b, off, A, N, C, rfl, c0, c1⟩ := hget.out j (by rw [hn.out]; exact hj)
      have hh := hhas.out
      rw [dif_pos (by rw [hn.out]; exact hj)] at hh
      generalize l[j]'(by rw [hn.out]; exact hj) = x at c0 hh
      replace c0 := hS.old c0 (by simp)
      replace c1 := hS.old c1 (by simp)
      have cF := Lib.hid (fun W : World => find1_any x id A N C W)
      have hcm : (cmpI x id == 0) = decide (x = id) := by
       unfold cmpI
       by_cases h1 : x < id
       · rw [if_pos h1, decide_eq_false (by omega)]; rfl
       · by_cases h2 : id < x
         · rw [if_neg h1, if_pos h2, decide_eq_false (by omega)]; rfl
         · rw [if_neg h1, if_neg h2, decide_eq_true (by omega)]; rfl
      rw [← hh] at hcm
      generalize cmpI x id = cx at *
      clear hh
      replace hcm := Lib.hid hcm
      go_wp2_with (go_at_call 152; (with_reducible refine (cF.out _).mono ?_); rintro _ w3 ⟨rfl, hb3⟩; have hS1 := hS.keepB hb3; clear hb3 hS; have hS := hS1; clear hS1)
      go_ret2
      exact ⟨by rw [← hcm.out]; rfl, hS.below⟩
    · have hh := hhas.out
      rw [dif_neg (by rw [hn.out]; exact hj)] at hh
      replace hh := Lib.hid hh
      have hj2 : n ≤ j := by omega
      clear hj
      go_wp2_with fail
      go_ret2
      exact ⟨by rw [hh.out]; rfl, hS.below⟩
theorem find_any (a : Option Addr) (gs : List Gr) (n cap : Nat) (id : Int) (w : World) (hD : Deep w a n cap gs) (hm : n ≤ 100000) (hu : Ids.Up (nos gs)) :
 Calls Tryz.prog 118 #[.slice a n cap, .int .i64 id] w fun e w' => e = .returned (.tuple #[.int .i64 (Ids.place (nos gs) id), .bool (Ids.has (nos gs) id)]) ∧ Below w.heap.size w w' := by
 have cS := Lib.hid (gsearch_any a gs n cap id w hD hm hu)
 clear hD hu
 go_enter Tryz.func118, Tryz.ntmps118
 go_wp2_with (go_at_call 151; (with_reducible refine cS.out.mono ?_); rintro _ w3 ⟨rfl, hb3⟩)
 go_ret2
 exact ⟨rfl, hb3⟩
end Go.Proofs.YtneolmnpebiifaaGreatDoor
end
section
namespace Go.Proofs.YtneolmnpebiifaaGreatDoor
open Go.RowKit Go.Ofp
set_option maxHeartbeats 4000000
theorem elem_g : Elem Tryz.prog 82 (.agg #[.int .i64 0, .slice none 0 0]) 2 32 := Elem.mk (by kernel_rfl) (by rfl) (by decide)
theorem goverlaps_no (w : World) (gv g j m lb cb : Nat) (cv cs : Array Value) (hv : Whole w gv 82 cv) (hg : Whole w g 82 cs) (hne : gv ≠ g) (hcs : cs.size ≠ 0) :
 (callFunc 154 #[.slice (some ⟨gv, 0, none⟩) m m, .slice (some ⟨g, j, none⟩) lb cb]).run Tryz.prog w = .ok (.value (.bool false)) w := by
 have hz : ∀ w : World, (sizeOf 82).run Tryz.prog w = .ok 2 w := fun w => by kernel_rfl
 rw [run_callFunc_extern Tryz.func154 (by kernel_rfl) (by kernel_rfl) (by kernel_rfl) (e := Extern.SlicesOverlaps.overlaps #[29, 29] #[4]) (by kernel_rfl),
  Lib.run_overlaps_apart w 29 4 82 Tryz.underlying29 2 hz ⟨gv, 0, none⟩ ⟨g, j, none⟩ m m lb cb hne _ _ _ _ hv.shape hg.shape hcs (hv.frozen 0) (hv.frozen cv.size)]
 rfl
def gA (a : Option Addr) (n c gv : Nat) (xs V : List Value) : List Ch := [Ch.row 82 2 (.slice a n c) n xs, Ch.blk gv 82 V.toArray]
def GInsRet (F : List Nat) (n i : Nat) (xs V : List Value) (w : World) (e : Ending) (w' : World) : Prop := ∃ a' c', e = .returned (.slice a' (n + 1) c') ∧ St w F [Ch.row 82 2 (.slice a' (n + 1) c') (n + 1) (xs.take (i * 2) ++ V ++ xs.drop (i * 2))] w'
theorem ginsert_room (g gv n c i : Nat) (xs V : List Value) (w : World) (h : St w (feet (gA (some ⟨g, 0, none⟩) n c gv xs V)) (gA (some ⟨g, 0, none⟩) n c gv xs V) w)
 (h1x : ∀ u ∈ xs, u.oneCell' = true) (h1v : ∀ u ∈ V, u.oneCell' = true) (hV : V.length = 2) (hi : i < n) (hc : n + 1 ≤ c) (hm : n ≤ 100000) :
 Calls Tryz.prog 119 #[.slice (some ⟨g, 0, none⟩) n c, .int .i64 i, .slice (some ⟨gv, 0, none⟩) 1 1] w (GInsRet (feet (gA (some ⟨g, 0, none⟩) n c gv xs V)) n i xs V w) := by
 generalize feet (gA (some ⟨g, 0, none⟩) n c gv xs V) = F at h ⊢
 have h' : St w F [Ch.row 82 2 (.slice (some ⟨g, 0, none⟩) n c) n xs, Ch.blk gv 82 V.toArray] w := h
 obtain ⟨cur, h1, h2, h3, h4, hS⟩ := h'.rowblk
 clear h h'
 have hne : gv ≠ g := fun e => by
  have := hS.apart 1 0 _ _ rfl rfl (by omega) gv (by simp [Ch.blk])
  simp [Ch.blk, e] at this
 have hov := fun lb cb => goverlaps_no w gv g ((i + 1) * 2) 1 lb cb _ _ (hS.get 1 rfl) (hS.get 0 rfl) hne (by omega)
 have h4' : c ≤ 9223372036854775807 := by unfold maxLen at h4; omega
 have hci : ¬ (c = i) := by omega
 have hci1 : ¬ (c = i + 1) := by omega
 have hcl : cur.toList.length = c * 2 := by simpa using h1
 have e1 : (i + 1) * 2 = i * 2 + 2 := by omega
 have e2 : (n - i) * 2 = n * 2 - i * 2 := by omega
 have e3 : (n + 1) * 2 = n * 2 + 2 := by omega
 have hfin := insert_cells cur.toList xs V (n * 2) (i * 2) 2 h2 (by omega) hV (by omega)
 rw [← e1, ← e2, ← e3] at hfin
 have hone1 : ∀ u ∈ (cur.toList.drop (i * 2)).take ((n - i) * 2), u.oneCell' = true := by
  rw [e2, drop_take_of _ _ (n * 2) (i * 2) h2]
  exact fun u hu => h1x u (List.mem_of_mem_drop hu)
 have hlen1 : ((cur.toList.drop (i * 2)).take ((n - i) * 2)).length = (n - i) * 2 := by rw [List.length_take, List.length_drop]; omega
 have hfit1 : (i + 1) * 2 + (n - i) * 2 ≤ cur.size := by omega
 have hk1 : Nat.min (n + 1 - i) (n - i) = n - i := Nat.min_eq_right (by omega)
 have hk2 : Nat.min 1 (n + 1 - i) = 1 := Nat.min_eq_left (by omega)
 clear e1 e2 e3
 replace hfin := Lib.hid hfin
 replace hone1 := Lib.hid hone1
 replace hlen1 := Lib.hid hlen1
 replace hfit1 := Lib.hid hfit1
 replace hk1 := Lib.hid hk1
 replace hk2 := Lib.hid hk2
 replace h1 := Lib.hid h1
 replace h2 := Lib.hid h2
 replace hcl := Lib.hid hcl
 replace hV := Lib.hid hV
 have hb1 : (i : Int) ≤ (n : Int) + 1 := by omega
 have hb2 : (i : Int) ≤ (n : Int) := by omega
 go_enter Tryz.func119, Tryz.ntmps119
 go_wp2_with fail
 clear hov
 have s1 : (0 : Int) ≤ (i : Int) + 1 := by omega
 have s2 : ((i : Int) + 1).toNat = i + 1 := by omega
 have s3 : (i : Int) + 1 ≤ (n : Int) + 1 := by omega
 have s4 : n + 1 - (i + 1) = n - i := by omega
 have s5 : IntKind.i64.wrap ((i : Int) + 1) = (i : Int) + 1 := IntWalk.i64_in _ (by omega)
 refine mixs_beginE (by kernel_rfl) hS ?_
 clear hS
 intro w2 hS hC
 refine tk 0 ?_
 refine tk 1 ?_
 refine tk 2 ?_
 refine tk 3 ?_
 refine tk 4 ?_
 refine tk 5 ?_
 refine tk 6 ?_
 refine tk 7 ?_
 refine mixs_one 8 (by kernel_rfl) rfl (fun K hK => ?_)
 ( refine op_copyblk_st (by kernel_rfl) 0 hS rfl rfl Tryz.underlying29 elem_g rfl rfl (hS.blkpart 0 rfl (i * 2) ((n - i) * 2)) hk1.out hlen1.out hone1.out hfit1.out ?_; clear hS; intro w3 hS )
 try clear hC
 refine cl hK (fun hC => ?_)
 clear hK K
 refine wpAnyH_done (by kernel_rfl) ?_ _
 clear s1 s2 s3 s4 s5
 go_wp2_with ((with_reducible refine wpList_copyblk_st 0 (off := i * 2) (nd := n + 1 - i) hS rfl rfl rfl Tryz.underlying29 elem_g rfl rfl (hS.blksl2 1 rfl) hk2.out (by rw [hV.out]) h1v (by have := h1.out; have := hV.out; simp only [List.size_toArray, List.length_append, List.length_take, List.length_drop, Array.length_toList]; omega) ?_); clear hS; intro w3 hS)
 go_ret
 simp only [List.set_cons_zero] at hS
 have hr := hS.blkrow2 2 (n := n + 1) (c := c) (xs := xs.take (i * 2) ++ V ++ xs.drop (i * 2)) (by have := h1.out; have := hV.out; simp only [List.size_toArray, List.length_append, List.length_take, List.length_drop, Array.length_toList]; omega) hc h4 (by
  have := hfin.out
  rw [show (i + 1) * 2 = i * 2 + 1 * 2 by omega] at this
  rw [show (i + 1) * 2 = i * 2 + 1 * 2 by omega]
  exact this)
 exact ⟨_, _, rfl, hr.drop1⟩
theorem ginsert_end (a : Option Addr) (gv n c : Nat) (xs V : List Value) (w : World) (h : St w (feet (gA a n c gv xs V)) (gA a n c gv xs V) w) (h1v : ∀ u ∈ V, u.oneCell' = true) (hV : V.length = 2) (hm : n ≤ 100000) :
 Calls Tryz.prog 119 #[.slice a n c, .int .i64 n, .slice (some ⟨gv, 0, none⟩) 1 1] w (GInsRet (feet (gA a n c gv xs V)) n n xs V w) := by
 generalize feet (gA a n c gv xs V) = F at h ⊢
 have hS : St w F [Ch.row 82 2 (.slice a n c) n xs, Ch.blk gv 82 V.toArray] w := h
 clear h
 have hxl := (hS.get 0 rfl).1
 have hfin := Lib.hid (show xs ++ V = xs.take (n * 2) ++ V ++ xs.drop (n * 2) by rw [List.take_of_length_le (by omega), List.drop_of_length_le (by omega), List.append_nil])
 have hsh := (hS.get 0 rfl).2
 replace hV := Lib.hid hV
 replace hxl := Lib.hid hxl
 rcases hsh with ⟨e, e0⟩ | ⟨g, cap, cur, e, -, -, h3, h4, -⟩
 · cases e
   clear e0
   go_enter Tryz.func119, Tryz.ntmps119
   go_wp2_with (at_builtin; ((with_reducible refine wpList_app_st 0 hS rfl rfl rfl Tryz.underlying29 elem_g rfl (Src.slice Tryz.underlying29 (hS.blksl2 1 rfl) (by rw [hV.out])) rfl h1v (by omega) (by unfold maxLen; omega) ?_); intro v5 w3 hS1; clear hS; simp only [List.set_cons_zero] at hS1; have hS := hS1; clear hS1; obtain ⟨a5, c5, rfl, -⟩ := hS.row 0 rfl))
   go_ret
   rw [hfin.out] at hS
   exact ⟨_, _, rfl, hS.drop1⟩
 · cases e
   have h4' : c ≤ 9223372036854775807 := by unfold maxLen at h4; omega
   by_cases hcn : c = n
   · subst hcn
     go_enter Tryz.func119, Tryz.ntmps119
     go_wp2_with (at_builtin; ((with_reducible refine wpList_app_st 0 hS rfl rfl rfl Tryz.underlying29 elem_g rfl (Src.slice Tryz.underlying29 (hS.blksl2 1 rfl) (by rw [hV.out])) rfl h1v (by omega) (by unfold maxLen; omega) ?_); intro v5 w3 hS1; clear hS; simp only [List.set_cons_zero] at hS1; have hS := hS1; clear hS1; obtain ⟨a5, c5, rfl, -⟩ := hS.row 0 rfl))
     go_ret
     rw [hfin.out] at hS
     exact ⟨_, _, rfl, hS.drop1⟩
   · go_enter Tryz.func119, Tryz.ntmps119
     go_wp2_with (at_builtin; ((with_reducible refine wpList_app_st 0 hS rfl rfl rfl Tryz.underlying29 elem_g rfl (Src.slice Tryz.underlying29 (hS.blksl2 1 rfl) (by rw [hV.out])) rfl h1v (by omega) (by unfold maxLen; omega) ?_); intro v5 w3 hS1; clear hS; simp only [List.set_cons_zero] at hS1; have hS := hS1; clear hS1; obtain ⟨a5, c5, rfl, -⟩ := hS.row 0 rfl))
     go_ret
     rw [hfin.out] at hS
     exact ⟨_, _, rfl, hS.drop1⟩
theorem ginsert_grow (g gv n i : Nat) (xs V : List Value) (w : World) (h : St w (feet (gA (some ⟨g, 0, none⟩) n n gv xs V)) (gA (some ⟨g, 0, none⟩) n n gv xs V) w) (h1x : ∀ u ∈ xs, u.oneCell' = true) (h1v : ∀ u ∈ V, u.oneCell' = true) (hV : V.length = 2) (hi : i < n) (hm : n ≤ 100000) :
 Calls Tryz.prog 119 #[.slice (some ⟨g, 0, none⟩) n n, .int .i64 i, .slice (some ⟨gv, 0, none⟩) 1 1] w (GInsRet (feet (gA (some ⟨g, 0, none⟩) n n gv xs V)) n i xs V w) := by
 generalize feet (gA (some ⟨g, 0, none⟩) n n gv xs V) = F at h ⊢
 have hS : St w F [Ch.row 82 2 (.slice (some ⟨g, 0, none⟩) n n) n xs, Ch.blk gv 82 V.toArray] w := h
 clear h
 have hxl := (hS.get 0 rfl).1
 have hni : ¬ (n = i) := by omega
 have hs1 : Sl w (some ⟨g, 0, none⟩) (xs.take (i * 2)) := (hS.rowsl 0 rfl).take (i * 2)
 have hl1 : (xs.take (i * 2)).length = i * 2 := by rw [List.length_take]; omega
 have hsum : i + (n + 1 - i) = n + 1 := by omega
 have hM : (n : Int) + 1 - (i : Int) = ((n + 1 - i : Nat) : Int) := by omega
 have hl3 : (xs.drop (i * 2)).length = (n - i) * 2 := by rw [List.length_drop]; omega
 have h1d : ∀ u ∈ xs.drop (i * 2), u.oneCell' = true := fun u hu => h1x u (List.mem_of_mem_drop hu)
 have hk2 : Nat.min 1 (n + 1 - i) = 1 := Nat.min_eq_left (by omega)
 have hk3 : Nat.min (n - i) (n - i) = n - i := Nat.min_self _
 replace hs1 := Lib.hid hs1
 replace hl1 := Lib.hid hl1
 replace hM := Lib.hid hM
 replace hsum := Lib.hid hsum
 replace hk2 := Lib.hid hk2
 replace hk3 := Lib.hid hk3
 replace hl3 := Lib.hid hl3
 replace hV := Lib.hid hV
 replace hxl := Lib.hid hxl
 go_enter Tryz.func119, Tryz.ntmps119
 go_wp2_with (first | (at_builtin; ((with_reducible refine wpList_appzeros_st (m := n + 1 - i) hS rfl rfl Tryz.underlying29 Tryz.underlying3 elem_g rfl rfl hM.out hs1.out hl1.out (by omega) (by omega) (by omega) (by unfold maxLen; omega) (by omega) ?_); intro g5 c5 w3 hS1; clear hS; simp only [hsum.out] at hS1 ⊢; obtain ⟨cur, k1, k2, k3, k4, hS⟩ := hS1.rowblk; clear hS1; have q1 : ¬ (c5 = i) := (by omega); have q2 : ¬ (c5 = i + 1) := (by omega); have q3 : c5 ≤ 9223372036854775807 := (by unfold maxLen at k4; omega); replace k1 := Lib.hid k1; replace k2 := Lib.hid k2)) | ((with_reducible refine wpList_copyblk_st 0 (off := i * 2) (nd := n + 1 - i) hS rfl rfl rfl Tryz.underlying29 elem_g rfl rfl (hS.blksl2 2 rfl) hk2.out (by rw [hV.out]) h1v (by have := k1.out; omega) ?_); clear hS; intro w3 hS))
 have s1 : (0 : Int) ≤ (i : Int) + 1 := by omega
 have s2 : ((i : Int) + 1).toNat = i + 1 := by omega
 have s3 : (i : Int) + 1 ≤ (n : Int) + 1 := by omega
 have s4 : n + 1 - (i + 1) = n - i := by omega
 have s5 : IntKind.i64.wrap ((i : Int) + 1) = (i : Int) + 1 := IntWalk.i64_in _ (by omega)
 have s6 : (i : Int) ≤ (n : Int) := by omega
 simp only [List.set_cons_zero] at hS
 refine mixs_beginE (by kernel_rfl) hS ?_
 clear hS
 intro w2 hS hC
 have hs3 : Sl w2 (some ⟨g, i * 2, none⟩) (xs.drop (i * 2)) := by
  have := (hS.rowsl 1 rfl).drop (i * 2)
  rwa [Nat.zero_add] at this
 replace hs3 := Lib.hid hs3
 refine tk 0 ?_
 refine tk 1 ?_
 refine tk 2 ?_
 refine tk 3 ?_
 refine tk 4 ?_
 refine tk 5 ?_
 refine tk 6 ?_
 refine tk 7 ?_
 refine mixs_one 8 (by kernel_rfl) rfl (fun K hK => ?_)
 ( refine op_copyblk_st (by kernel_rfl) 0 hS rfl rfl Tryz.underlying29 elem_g rfl rfl hs3.out hk3.out hl3.out h1d (by have := k1.out; have := hV.out; simp only [List.size_toArray, List.length_append, List.length_take, List.length_drop, Array.length_toList]; omega) ?_; intro w3 hS1; clear hS hs3; have hS := hS1; clear hS1 )
 try clear hC
 refine cl hK (fun hC => ?_)
 clear hK K
 refine wpAnyH_done (by kernel_rfl) ?_ _
 clear s1 s2 s3 s4 s5 s6
 go_wp2_with fail
 go_ret
 have hcl : cur.toList.length = c5 * 2 := by simpa using k1.out
 have k2' := k2.out
 have hV' := hV.out
 have hfin := grow_cells cur.toList (xs.take (i * 2)) _ V (xs.drop (i * 2)) (n * 2) (i * 2) 2 (by rw [show n * 2 + 2 = (n + 1) * 2 by omega]; exact k2') hl1.out (by omega) hV' (by rw [hl3.out]; omega) (by omega)
 simp only [List.set_cons_zero] at hS
 have hr := hS.blkrow2 2 (n := n + 1) (c := c5) (xs := xs.take (i * 2) ++ V ++ xs.drop (i * 2)) (by have := k1.out; have := hl3.out; simp only [List.size_toArray, List.length_append, List.length_take, List.length_drop, Array.length_toList] at this ⊢; omega) k3 k4 (by
  rw [show (n + 1) * 2 = n * 2 + 2 by omega, show (i + 1) * 2 = i * 2 + 2 by omega, show (n - i) * 2 = n * 2 - i * 2 by omega]
  exact hfin)
 exact ⟨_, _, rfl, hr.drop1.drop1⟩
theorem ginsert_any (a : Option Addr) (gv n c i : Nat) (xs V : List Value) (w : World) (h : St w (feet (gA a n c gv xs V)) (gA a n c gv xs V) w) (h1x : ∀ u ∈ xs, u.oneCell' = true) (h1v : ∀ u ∈ V, u.oneCell' = true) (hV : V.length = 2) (hi : i ≤ n) (hm : n ≤ 100000) :
 Calls Tryz.prog 119 #[.slice a n c, .int .i64 i, .slice (some ⟨gv, 0, none⟩) 1 1] w (GInsRet (feet (gA a n c gv xs V)) n i xs V w) := by
 by_cases hin : i = n
 · subst hin
   exact ginsert_end a gv i c xs V w h h1v hV hm
 · obtain ⟨g, c', e, hc, -⟩ := h.rowat 0 rfl (by omega)
   cases e
   by_cases hcn : n + 1 ≤ c
   · exact ginsert_room g gv n c i xs V w h h1x h1v hV (by omega) hcn hm
   · obtain rfl : c = n := by omega
     exact ginsert_grow g gv c i xs V w h h1x h1v hV (by omega) hm
theorem gdelete_any (g k c i : Nat) (xs : List Value) (w : World) (h : St w (feet [Ch.row 82 2 (.slice (some ⟨g, 0, none⟩) (k + 1) c) (k + 1) xs]) [Ch.row 82 2 (.slice (some ⟨g, 0, none⟩) (k + 1) c) (k + 1) xs] w) (h1x : ∀ u ∈ xs, u.oneCell' = true) (hi : i ≤ k) (hm : k ≤ 100000) :
 Calls Tryz.prog 121 #[.slice (some ⟨g, 0, none⟩) (k + 1) c, .int .i64 i, .int .i64 ((i : Int) + 1)] w fun e w' => e = .returned (.slice (some ⟨g, 0, none⟩) k c) ∧ St w (feet [Ch.row 82 2 (.slice (some ⟨g, 0, none⟩) (k + 1) c) (k + 1) xs]) [Ch.row 82 2 (.slice (some ⟨g, 0, none⟩) k c) k (xs.take (i * 2) ++ xs.drop ((i + 1) * 2))] w' := by
 generalize feet [Ch.row 82 2 (.slice (some ⟨g, 0, none⟩) (k + 1) c) (k + 1) xs] = F at h ⊢
 obtain ⟨cur, h1, h2, h3, h4, hS⟩ := h.rowblk
 clear h
 have h4' : c ≤ 9223372036854775807 := by unfold maxLen at h4; omega
 have hcl : cur.toList.length = c * 2 := by simpa using h1
 have e1 : (i + 1) * 2 = i * 2 + 2 := by omega
 have e2 : (k - i) * 2 = k * 2 - i * 2 := by omega
 have e3 : (k + 1) * 2 = k * 2 + 2 := by omega
 have hfin := fun (R : List Value) => delete_cells cur.toList xs (k * 2) (i * 2) 2 (by rw [← e3]; exact h2) (by omega) R (by omega)
 rw [← e1, ← e2] at hfin
 have hone1 : ∀ u ∈ (cur.toList.drop ((i + 1) * 2)).take ((k - i) * 2), u.oneCell' = true := by
  have := drop_take_of cur.toList xs ((k + 1) * 2) ((i + 1) * 2) h2
  rw [show (k + 1) * 2 - (i + 1) * 2 = (k - i) * 2 by omega] at this
  rw [this]
  exact fun u hu => h1x u (List.mem_of_mem_drop hu)
 have hlen1 : ((cur.toList.drop ((i + 1) * 2)).take ((k - i) * 2)).length = (k - i) * 2 := by rw [List.length_take, List.length_drop]; omega
 have hroom : i + (k - i) ≤ c := by omega
 have hck : ¬ (c = k) := by omega
 have hci : ¬ (c = i) := by omega
 have hsum : i + (k - i) = k := by omega
 have hz1 : ∀ u ∈ (Value.agg #[.int .i64 0, .slice none 0 0]).cells, u.oneCell' = true := by
  intro u hu
  simp only [Value.cells, List.mem_toArray, List.mem_cons, List.not_mem_nil, or_false] at hu
  rcases hu with rfl | rfl <;> rfl
 clear e1 e2 e3
 replace hz1 := Lib.hid hz1
 replace hsum := Lib.hid hsum
 replace hfin := Lib.hid hfin
 replace hone1 := Lib.hid hone1
 replace hlen1 := Lib.hid hlen1
 replace h1 := Lib.hid h1
 replace h2 := Lib.hid h2
 replace hcl := Lib.hid hcl
 by_cases hci1 : c = i + 1
 · obtain rfl : k = i := by omega
   subst hci1
   clear hroom hone1 hlen1 hsum
   go_enter Tryz.func121, Tryz.ntmps121
   go_wp2_with fail
   have s1 : (0 : Int) ≤ (k : Int) + 1 := by omega
   have s2 : ((k : Int) + 1).toNat = k + 1 := by omega
   have s6 : (k : Int) ≤ (k : Int) + 1 := by omega
   refine mixs_beginE (by kernel_rfl) hS ?_
   clear hS
   intro w2 hS hC
   refine tk 0 ?_
   refine tk 1 ?_
   refine tk 2 ?_
   refine tk 3 ?_
   refine tk 4 ?_
   refine tk 5 ?_
   refine mixs_one 6 (by kernel_rfl) rfl (fun K hK => ?_)
   ( refine op_appblk_st (by kernel_rfl) 0 hS rfl rfl Tryz.underlying29 Tryz.underlying29 elem_g rfl rfl (Sl.nil _ _) (by simp) nil_one (by omega) h1.out ?_; clear hS; intro w3 hS )
   try clear hC
   refine cl hK (fun hC => ?_)
   clear hK K
   refine tk 7 ?_
   refine wpAnyH_done (by kernel_rfl) ?_ _
   clear s1 s2 s6
   go_wp2_with ((with_reducible refine wpList_clearblk_st 0 (off := k * 2) (n := 1) hS rfl rfl rfl Tryz.underlying29 elem_g hz1.out rfl (by have := h1.out; have := hcl.out; simp only [List.size_toArray, List.length_append, List.length_take, List.length_drop, Array.length_toList, List.length_nil]; omega) (by omega) ?_); intro w3 cs2 q1 q2 hS1; clear hS; have hS := hS1; clear hS1)
   go_ret
   simp only [List.set_cons_zero] at hS
   have hcl2 := hcl.out
   have h12 := h1.out
   simp only [List.size_toArray, List.length_append, List.length_take, List.length_drop, Array.length_toList, List.length_nil] at q1
   have hr := hS.blkrow2 2 (n := k) (c := (k + 1)) (xs := xs.take (k * 2) ++ xs.drop ((k + 1) * 2)) (by rw [q1]; omega) (by omega) h4 (by
    rw [q2]
    have := hfin.out (cur.toList.drop (k * 2 + 0 * 2))
    simpa using this)
   exact ⟨rfl, hr⟩
 · go_enter Tryz.func121, Tryz.ntmps121
   go_wp2_with fail
   have s1 : (0 : Int) ≤ (i : Int) + 1 := by omega
   have s2 : ((i : Int) + 1).toNat = i + 1 := by omega
   have s3 : (i : Int) + 1 ≤ (k : Int) + 1 := by omega
   have s6 : (i : Int) ≤ (k : Int) + 1 := by omega
   have s7 : i ≤ c := by omega
   refine mixs_beginE (by kernel_rfl) hS ?_
   clear hS
   intro w2 hS hC
   refine tk 0 ?_
   refine tk 1 ?_
   refine tk 2 ?_
   refine tk 3 ?_
   refine tk 4 ?_
   refine tk 5 ?_
   refine mixs_one 6 (by kernel_rfl) rfl (fun K hK => ?_)
   ( refine op_appblk_st (by kernel_rfl) 0 hS rfl rfl Tryz.underlying29 Tryz.underlying29 elem_g rfl rfl (hS.blkpart 0 rfl ((i + 1) * 2) ((k - i) * 2)) hlen1.out hone1.out hroom h1.out ?_; clear hS; intro w3 hS )
   try clear hC
   refine cl hK (fun hC => ?_)
   clear hK K
   refine tk 7 ?_
   refine wpAnyH_done (by kernel_rfl) ?_ _
   clear s1 s2 s3 s6 s7
   simp only [hsum.out]
   go_wp2_with ((with_reducible refine wpList_clearblk_st 0 (off := k * 2) (n := 1) hS rfl rfl rfl Tryz.underlying29 elem_g hz1.out rfl (by have := h1.out; have := hcl.out; simp only [List.size_toArray, List.length_append, List.length_take, List.length_drop, Array.length_toList, List.length_nil]; omega) (by omega) ?_); intro w3 cs2 q1 q2 hS1; clear hS; have hS := hS1; clear hS1)
   go_ret
   simp only [List.set_cons_zero] at hS
   have hcl2 := hcl.out
   have h12 := h1.out
   simp only [List.size_toArray, List.length_append, List.length_take, List.length_drop, Array.length_toList, List.length_nil] at q1
   have hr := hS.blkrow2 2 (n := k) (c := c) (xs := xs.take (i * 2) ++ xs.drop ((i + 1) * 2)) (by rw [q1]; omega) (by omega) h4 (by
    rw [q2]
    have := hfin.out (cur.toList.drop (i * 2 + (k - i) * 2))
    simpa using this)
   exact ⟨rfl, hr⟩
end Go.Proofs.YtneolmnpebiifaaGreatDoor
end
section
namespace Go.Ofp
open Go.RowKit
theorem St.mem {w w0 : World} {F : List Nat} {L : List Ch} (hS : St w0 F L w) {c : Ch} (hc : c ∈ L) : c.holds w := by
 obtain ⟨i, hi, rfl⟩ := List.getElem_of_mem hc
 exact hS.get i (List.getElem?_eq_getElem hi)
theorem grows_set (A B : List Gr) (g : Gr) (a : Option Addr) (c : Nat) : (grows (A ++ g :: B)).set (A.length * 2 + 1) (.slice a g.mem.length c) = grows (A ++ ⟨g.no, a, c, g.mem⟩ :: B) := by
 rw [grows_append, grows_append, List.set_append_right _ _ (by rw [grows_len]; omega), grows_len]
 congr 1
 rw [show A.length * 2 + 1 - A.length * 2 = 1 by omega]
 simp [grows, Gr.row]
theorem grows_set_mem (A B : List Gr) (g : Gr) (a : Option Addr) (c : Nat) (mem : List Int) : (grows (A ++ g :: B)).set (A.length * 2 + 1) (.slice a mem.length c) = grows (A ++ ⟨g.no, a, c, mem⟩ :: B) := by
 rw [grows_append, grows_append, List.set_append_right _ _ (by rw [grows_len]; omega), grows_len]
 congr 1
 rw [show A.length * 2 + 1 - A.length * 2 = 1 by omega]
 simp [grows, Gr.row]
theorem grows_get1 (A B : List Gr) (g : Gr) : (grows (A ++ g :: B))[A.length * 2 + 1]? = some (.slice g.a g.mem.length g.c) := by
 rw [grows_append, List.getElem?_append_right (by rw [grows_len]; omega), grows_len, show A.length * 2 + 1 - A.length * 2 = 1 by omega]
 simp [grows, Gr.row]
end Go.Ofp
namespace Go.Proofs.YtneolmnpebiifaaGreatDoor
open Go.RowKit Go.Ofp
set_option maxHeartbeats 4000000
def GRowRet (xs : List Value) (n : Nat) (w : World) (e : Ending) (w' : World) : Prop := ∃ a c, e = .returned (.slice a n c) ∧ St w [] [Ch.row 82 2 (.slice a n c) n xs] w'
theorem gclone_some (ad : Addr) (xs : List Value) (n cap : Nat) (w : World) (hs : Sl w (some ad) xs) (hn : xs.length = n * 2) (h1 : ∀ u ∈ xs, u.oneCell' = true) (hm : n ≤ 100000) :
 Calls Tryz.prog 116 #[.slice (some ad) n cap] w (GRowRet xs n w) := by
 have hS := St.start w
 have he := fun (W : World) (a : Option Addr) (n c : Nat) => Lib.run_eql_slice_nil (P := Tryz.prog) W 29 82 a n c 0 0 Tryz.underlying29
 replace hn := Lib.hid hn
 replace hs := Lib.hid hs
 go_enter Tryz.func116, Tryz.ntmps116
 go_wp2_with (first | ((with_reducible refine wpList_build0_st hS rfl rfl Tryz.underlying29 elem_g ?_); clear hS; intro g1 w3 hS) | (at_builtin; ((with_reducible refine wpList_app_st 0 hS rfl rfl rfl Tryz.underlying29 elem_g rfl (Src.slice Tryz.underlying29 (hS.sl hs.out) hn.out) rfl h1 (by omega) (by unfold maxLen; omega) ?_); intro v5 w3 hS1; clear hS; simp only [List.set_cons_zero, Nat.zero_add, List.nil_append] at hS1; have hS := hS1; clear hS1; obtain ⟨a5, c5, rfl, -⟩ := hS.row 0 rfl)))
 go_ret
 exact ⟨_, _, rfl, hS⟩
theorem gclone_none (w : World) : Calls Tryz.prog 116 #[.slice none 0 0] w (GRowRet [] 0 w) := by
 have hS := St.start w
 have he := fun (W : World) (a : Option Addr) (n c : Nat) => Lib.run_eql_slice_nil (P := Tryz.prog) W 29 82 a n c 0 0 Tryz.underlying29
 go_enter Tryz.func116, Tryz.ntmps116
 go_wp2_with fail
 go_ret
 exact ⟨_, _, rfl, hS.nilrow 82 2⟩
theorem gclone_any (a : Option Addr) (gs : List Gr) (n cap : Nat) (w : World) (hD : Deep w a n cap gs) (hm : n ≤ 100000) :
 Calls Tryz.prog 116 #[.slice a n cap] w (GRowRet (grows gs) n w) := by
 cases a with
 | some ad => exact gclone_some ad (grows gs) n cap w hD.sl (by rw [grows_len, hD.len]) (grows_one gs) hm
 | none =>
  have hl : gs = [] := by
   by_cases h : gs = []
   · exact h
   · obtain ⟨b, off, e⟩ := hD.sl.cells (by intro e; have := congrArg List.length e; rw [grows_len] at this; have := List.length_pos_iff.2 h; simp at *; omega)
     cases e
  have hc := hD.nz rfl
  have hn := hD.len
  subst hl
  subst hn
  subst hc
  exact gclone_none w
def gp (g : Gr) : Ch := irow g.a g.c g.mem
theorem mem_of_gp {w : World} {g : Gr} (h : (gp g).holds w) : Mem w g := by
 obtain ⟨no, ga, gc, mem⟩ := g
 replace h : w.ownsRow 0 3 1 (.slice ga mem.length gc) mem.length (mem.map vi) := h
 obtain ⟨a, cap, e, hs, hl, h1, h2⟩ := owns_sl h
 cases e
 refine ⟨hs, h1, h2, fun ha => ?_⟩
 rcases h.2 with ⟨e, _⟩ | ⟨g', cap, cur, e, _⟩
 · simp only [Value.slice.injEq] at e
   exact e.2.2
 · simp only [Value.slice.injEq] at e
   have := e.1
   replace ha : ga = Option.none := ha
   rw [ha] at this
   cases this
def CopRet (gs : List Gr) (w : World) (e : Ending) (w' : World) : Prop := ∃ a c gs', keys gs' = keys gs ∧ e = .returned (.slice a gs.length c) ∧ St w [] (Ch.row 82 2 (.slice a gs.length c) gs.length (grows gs') :: gs'.reverse.map gp) w'
theorem copied_any (a : Option Addr) (gs : List Gr) (n cap : Nat) (w : World) (hD : Deep w a n cap gs) (hm : n ≤ 1000) (hmm : ∀ g ∈ gs, g.mem.length ≤ 10000) :
 Calls Tryz.prog 120 #[.slice a n cap] w (CopRet gs w) := by
 have cC := gclone_any a gs n cap w hD (by omega)
 have hS := St.start w
 by_cases hz : n = 0
 · have hgs : gs = [] := List.length_eq_zero_iff.1 (hD.len.trans hz)
   subst hgs
   subst hz
   replace cC := Lib.hid cC
   clear hD
   go_enter Tryz.func120, Tryz.ntmps120
   go_wp2_with (go_at_call 116; (with_reducible refine cC.out.mono ?_); rintro _ w3 ⟨a3, c3, rfl, hb3⟩)
   go_loopg [9] 0 (fun gk vx wr => vx = .int .i64 0 ∧ wr = w3)
   case atStart => exact ⟨rfl, rfl⟩
   case round =>
    obtain ⟨rfl, rfl⟩ := hrel
    go_wp2_with fail
    go_ret
    exact ⟨a3, c3, [], rfl, rfl, hb3⟩
 · have hlen := Lib.hid hD.len
   have hD' := Lib.hid hD
   replace cC := Lib.hid cC
   clear hD
   go_enter Tryz.func120, Tryz.ntmps120
   go_wp2_with (go_at_call 116; (with_reducible refine cC.out.mono ?_); rintro _ w3 ⟨a3, c3, rfl, hb3⟩; have hS1 := hS.made hb3; clear hS hb3; have hS := hS1; clear hS1; obtain ⟨g3, c4, e3, -⟩ := hS.rowat 0 rfl (by omega); cases e3)
   obtain ⟨cur, q1, q2, q3, q4, hS2⟩ := hS.rowblk
   clear hS
   have hc63 : c3 ≤ 9223372036854775807 := by unfold maxLen at q4; omega
   go_loopg [9] n (fun gk vx wr => ∃ (j : Nat) (cur : Array Value) (new : List Gr), j + gk = n ∧ vx = .int .i64 j ∧ Hid (new.length = j ∧ cur.size = c3 * 2 ∧ cur.toList.take (n * 2) = grows (new ++ gs.drop j) ∧ keys new = keys (gs.take j)) ∧ St w [] (Ch.blk g3 82 cur :: new.reverse.map gp) wr)
   case atStart => exact ⟨0, cur, [], Nat.zero_add _, rfl, Lib.hid ⟨rfl, q1, by simpa using q2, by simp [keys]⟩, hS2⟩
   case round =>
    clear hS2 q1 q2
    obtain ⟨j, cur, new, hj, rfl, hr, hS⟩ := hrel
    by_cases hlt : j < n
    · obtain ⟨r1, r2, r3, r4⟩ := hr.out
      have hjl : j < gs.length := by rw [hlen.out]; exact hlt
      have hd := List.drop_eq_getElem_cons (l := gs) (i := j) hjl
      have hM := hD'.out.mem gs[j] (List.getElem_mem hjl)
      have hml := hmm gs[j] (List.getElem_mem hjl)
      have htk : gs.take (j + 1) = gs.take j ++ [gs[j]] := by rw [List.take_succ_eq_append_getElem hjl]
      rw [hd] at r3
      generalize gs[j] = gj at hd hM hml htk r3
      have hcur1 : cur[j * 2 + 1]? = some (.slice gj.a gj.mem.length gj.c) := by
       have h1 : (cur.toList.take (n * 2))[j * 2 + 1]? = some (.slice gj.a gj.mem.length gj.c) := by rw [r3, ← r1]; exact grows_get1 new _ gj
       rw [List.getElem?_take] at h1
       rw [if_pos (by omega)] at h1
       simpa using h1
      have hcell := (hS.cell 0 rfl (j * 2 + 1)).trans hcur1
      have cI := Lib.hid (clone_any gj.a gj.mem _ gj.c wr (hS.sl hM.sl) rfl (by omega) hM.nz)
      have hble : Nat.ble (j * 2 + 1 + 1) cur.size = true := by rw [Nat.ble_eq, r2]; omega
      have hnew : ∀ (a5 : Option Addr) (c5 : Nat), (new ++ [(⟨gj.no, a5, c5, gj.mem⟩ : Gr)]).length = j + 1 ∧ (cur.setIfInBounds (j * 2 + 1) (.slice a5 gj.mem.length c5)).size = c3 * 2 ∧ (cur.setIfInBounds (j * 2 + 1) (.slice a5 gj.mem.length c5)).toList.take (n * 2) = grows (new ++ [(⟨gj.no, a5, c5, gj.mem⟩ : Gr)] ++ gs.drop (j + 1)) ∧ keys (new ++ [(⟨gj.no, a5, c5, gj.mem⟩ : Gr)]) = keys (gs.take (j + 1)) := by
       intro a5 c5
       refine ⟨by simp [r1], by simp [r2], ?_, ?_⟩
       · rw [Array.toList_setIfInBounds, List.take_set, r3, ← r1, grows_set]
         simp
       · rw [htk]
         unfold keys at r4 ⊢
         rw [List.map_append, List.map_append, r4]
         rfl
      replace hnew := Lib.hid hnew
      clear hcur1 r1 r2 r3 r4 hd htk hM hml hr
      go_wp2_with (first | (go_at_call 37; (with_reducible refine cI.out.mono ?_); rintro _ w5 ⟨a5, c5, rfl, h51, h52, hb5⟩; have hS1 := hS.made hb5; clear hS hb5; have hS := hS1; clear hS1) | ((with_reducible refine wpList_store_st 1 hS rfl rfl rfl rfl (by kernel_rfl) rfl hble ?_); clear hS; intro w6 hS))
      go_roundg (n - (j + 1))
      case measure => omega
      case rel =>
       refine ⟨j + 1, _, _, by omega, by go_num, Lib.hid (hnew.out a5 c5), ?_⟩
       rw [List.reverse_append]
       exact St.swap hS
    · obtain rfl : j = n := by omega
      go_wp2_with fail
      go_ret
      obtain ⟨r1, r2, r3, r4⟩ := hr.out
      rw [List.drop_of_length_le (by rw [hlen.out]; exact Nat.le_refl _), List.append_nil] at r3
      rw [List.take_of_length_le (by rw [hlen.out]; exact Nat.le_refl _)] at r4
      have hr2 := hS.blkrow2 2 (n := j) (c := c3) r2 q3 q4 r3
      have e1 := hlen.out
      subst e1
      exact ⟨_, c3, new, r4, rfl, hr2⟩
end Go.Proofs.YtneolmnpebiifaaGreatDoor
end
