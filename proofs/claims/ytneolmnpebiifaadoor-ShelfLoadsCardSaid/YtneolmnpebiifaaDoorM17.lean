/- Texts laid together: RowsT LaidOpen ShelfLoads. -/
import Derived.Test.YtneolmnpebiifaaDoorM14
import Derived.Test.YtneolmnpebiifaaDoorM16
import Derived.Test.YtneolmnpebiifaaDoorM2
import Derived.Test.YtneolmnpebiifaaDoorM5
import Derived.Test.YtneolmnpebiifaaDoorM6
import Derived.Test.YtneolmnpebiifaaDoorM7
section
/- A slice within a struct that came in, opened. -/
set_option linter.unusedSimpArgs false
set_option linter.unusedVariables false
namespace Go.Ofp
open Go.RowKit
section
variable {H : Type} {enc : TypeId × Value → H} {P : Program} {w : World} {base : Nat} {spare : Nat → Bool} {held : Bool} {t e : TypeId}
theorem rows_trod2 {cs0 : List Value} {fuel : Nat} {x0 : DataW H × List MemPlace} (ht : P.underlying t = some (.slice e)) (hf : DataW.trod enc P w base spare held fuel t cs0 = some x0) (hp : 0 < P.cellsOf e) :
    ∃ a n cap, cs0 = [.slice a n cap] ∧ n ≤ cap ∧ cap ≤ maxLen ∧ ∃ rows, rows.length = n ∧ Rw w a (P.cellsOf e) rows ∧ ∀ cs ∈ rows, ∃ fuel x, DataW.trod enc P w base spare held fuel e cs = some x := by
  rcases DataW.trod_slice ht hf with ⟨hc, _⟩ | ⟨ad, n, cap, elems, rest, m, _, hc, _, _, hlc, hcm, hle, hel, _, _⟩
  · subst hc
    exact ⟨none, 0, 0, rfl, Nat.le_refl _, Nat.zero_le _, [], rfl, ⟨Sl.nil _ _, by simp⟩, by simp⟩
  · subst hc
    have key : ∀ i, i < n → ∃ cs x, w.cells? base (ad.add (i * P.cellsOf e)) (P.cellsOf e) = some cs ∧ DataW.trod enc P w base spare held m e cs = some x := by
      intro i hi
      have h1 := hel i hi
      rw [List.getElem?_eq_getElem (by omega)] at h1
      obtain ⟨cs, h2, h3⟩ := Option.bind_eq_some_iff.1 h1
      exact ⟨cs, _, h2, h3⟩
    have cell : ∀ i (hi : i < n) cs, w.cells? base (ad.add (i * P.cellsOf e)) (P.cellsOf e) = some cs → cs.length = P.cellsOf e ∧ ∀ t, t < P.cellsOf e → w.cell? ((ad.add (i * P.cellsOf e)).add t) = cs[t]? := by
      intro i hi cs h1
      unfold World.cells? at h1
      split at h1
      · exact ⟨by simpa using mapM_some_length h1, fun t ht => mapM_some_get h1 t t (by simp [ht])⟩
      · cases h1
    refine ⟨some ad, n, cap, rfl, hlc, hcm, (List.range n).map fun i => (w.cells? base (ad.add (i * P.cellsOf e)) (P.cellsOf e)).getD [], by simp, ?_, ?_⟩
    · have heach : ∀ r ∈ (List.range n).map (fun i => (w.cells? base (ad.add (i * P.cellsOf e)) (P.cellsOf e)).getD []), r.length = P.cellsOf e := by
        intro r hr
        obtain ⟨i, hi, rfl⟩ := List.mem_map.1 hr
        rw [List.mem_range] at hi
        obtain ⟨cs, x, h1, _⟩ := key i hi
        rw [h1]
        exact (cell i hi cs h1).1
      refine ⟨?_, heach⟩
      by_cases hn : n = 0
      · subst hn
        exact Sl.nil _ _
      · obtain ⟨b, off, spot⟩ := ad
        have hs : spot = none := by
          obtain ⟨cs, x, h1, _⟩ := key 0 (by omega)
          obtain ⟨hl, hc⟩ := cell 0 (by omega) cs h1
          have := hc 0 hp
          rw [List.getElem?_eq_getElem (by omega)] at this
          simp only [Nat.zero_mul, Addr.add, if_true] at this
          exact World.cell?_spot this
        subst hs
        intro q hq
        have hfl : ∀ (rs : List (List Value)), (∀ r ∈ rs, r.length = P.cellsOf e) → rs.flatten.length = rs.length * P.cellsOf e := by
          intro rs
          induction rs with
          | nil => intro _; simp
          | cons r rs ih => intro h; rw [List.flatten_cons, List.length_append, ih (fun x hx => h x (by simp [hx])), h r (by simp), List.length_cons, Nat.add_mul]; omega
        have hq2 := hq
        rw [hfl _ heach, List.length_map, List.length_range] at hq2
        have hj : q / P.cellsOf e < n := Nat.div_lt_of_lt_mul (by rw [Nat.mul_comm]; exact hq2)
        have ht : q % P.cellsOf e < P.cellsOf e := Nat.mod_lt _ hp
        have hqe : q / P.cellsOf e * P.cellsOf e + q % P.cellsOf e = q := by rw [Nat.mul_comm]; exact Nat.div_add_mod q _
        obtain ⟨cs, x, h1, _⟩ := key _ hj
        obtain ⟨hl, hc⟩ := cell _ hj cs h1
        have hc' := hc _ ht
        have hget := flatten_get (P.cellsOf e) _ heach (q / P.cellsOf e) (q % P.cellsOf e) (by simpa using hj) ht
        rw [hqe] at hget
        simp only [List.getElem_map, List.getElem_range, h1, Option.getD_some] at hget
        refine ⟨b, off, rfl, ?_⟩
        rw [← List.getElem?_eq_getElem hq, hget, ← hc', Addr.add_lit, Addr.add_lit]
        congr 2
        omega
    · intro cs hcs
      obtain ⟨i, hi, rfl⟩ := List.mem_map.1 hcs
      rw [List.mem_range] at hi
      obtain ⟨cs, x, h1, h2⟩ := key i hi
      rw [h1]
      exact ⟨m, x, h2⟩
end
end Go.Ofp
end

section
/- Cards and deleted cards that came in, opened. -/
set_option linter.unusedSimpArgs false
set_option linter.unusedVariables false
namespace Go.Proofs.YtneolmnpebiifaaDoor
open Go.RowKit Go.Ofp Go.WideShapes
set_option linter.unusedVariables false
set_option maxRecDepth 100000
set_option maxHeartbeats 1000000
section
variable {H : Type} {enc : TypeId × Value → H}
theorem open_laid {r : Reach} {b0 : Nat} {v : Value} {d : DataW H} {ms : List MemPlace} {w : World} (ho : Value.okWide Tryd.prog w r b0 57 v) (ht : DataW.Trod enc Tryd.prog w 0 (fun _ => true) true 57 v d ms) :
    ∃ (a : Option Addr) (n c : Nat) (M : List Cd) (b : Option Addr) (m k : Nat) (D : List Dd), v = .agg #[.slice a n c, .slice b m k] ∧ Lst cdRow (fun x => x.f.length = 8) w a n c M ∧ Lst ddRow (fun _ => True) w b m k D := by
  unfold Value.okWide at ho
  rw [Tryd.underlying57] at ho
  obtain ⟨cs, rfl, _, _⟩ := ho
  obtain ⟨fuel, hf⟩ := ht
  obtain ⟨hl, hf⟩ := field_read Tryd.underlying57 hf
  have hc : Tryd.prog.cellsOf 57 = 2 := by kernel_rfl
  have hcC : Tryd.prog.cellsOf 38 = 27 := by kernel_rfl
  have hcD : Tryd.prog.cellsOf 74 = 3 := by kernel_rfl
  have hsC : Tryd.prog.cellsOf 35 = 1 := by kernel_rfl
  have hsD : Tryd.prog.cellsOf 48 = 1 := by kernel_rfl
  rw [hc] at hl
  obtain ⟨n0, y0, h0⟩ := hf 0 _ rfl
  obtain ⟨n1, y1, h1⟩ := hf 1 _ rfl
  have h0' : DataW.trod enc Tryd.prog w 0 (fun _ => true) true n0 35 (((Value.agg cs).cells.toList.drop 0).take (Tryd.prog.cellsOf 35)) = some y0 := h0
  have h1' : DataW.trod enc Tryd.prog w 0 (fun _ => true) true n1 48 (((Value.agg cs).cells.toList.drop 1).take (Tryd.prog.cellsOf 48)) = some y1 := h1
  rw [hsC] at h0'
  rw [hsD] at h1'
  obtain ⟨a, n, c, e1, hn, hm, rows, hrl, hrw, hrd⟩ := rows_trod2 Tryd.underlying35 h0' (by rw [hcC]; decide)
  obtain ⟨b, m, k, e2, hn2, hm2, rows2, hrl2, hrw2, hrd2⟩ := rows_trod2 Tryd.underlying48 h1' (by rw [hcD]; decide)
  obtain ⟨M, rfl, hM⟩ := lst_of (In := fun x : Cd => x.f.length = 8) fun cs h => by
    obtain ⟨x, hx, hi⟩ := read_cd (hrd cs h)
    exact ⟨x, hx, hi.len⟩
  obtain ⟨D, rfl, hD⟩ := lst_of (In := fun _ : Dd => True) fun cs h => by
    obtain ⟨x, hx, hi⟩ := read_dd (hrd2 cs h)
    exact ⟨x, hx, trivial⟩
  rw [List.length_map] at hrl hrl2
  refine ⟨a, n, c, M, b, m, k, D, ?_, ⟨hrw.sl, hrl, hn, hm, hM⟩, ⟨hrw2.sl, hrl2, hn2, hm2, hD⟩⟩
  congr 1
  apply Array.ext'
  have hl' : cs.toList.length = 2 := by simpa [Value.cells] using hl
  have e1' : (cs.toList.drop 0).take 1 = [.slice a n c] := by simpa [Value.cells] using e1
  have e2' : (cs.toList.drop 1).take 1 = [.slice b m k] := by simpa [Value.cells] using e2
  match hh : cs.toList, hl' with
  | [c0, c1], _ =>
    rw [hh] at e1' e2'
    simp at e1' e2'
    simp [e1', e2']
end
end Go.Proofs.YtneolmnpebiifaaDoor
end

section
/- The law ShelfLoads. -/
set_option linter.unusedSimpArgs false
set_option linter.unusedVariables false
namespace Go.Proofs.YtneolmnpebiifaaDoor
open Go.RowKit Go.Ofp
set_option linter.unusedVariables false
set_option maxRecDepth 100000
set_option maxHeartbeats 8000000
theorem build_rs3 (x : Int) (a b : Option Addr) (n c m d : Nat) (w : World) : (Instr.build 50 #[(0, .int .i64 x), (1, .slice a n c), (2, .slice b m d)]).run Tryd.prog w = .ok (.agg #[.int .i64 x, .slice a n c, .slice b m d]) w := by kernel_rfl
theorem loads18_any (nx : Int) (ca : Option Addr) (n cc : Nat) (M : List Cd) (da : Option Addr) (m dc : Nat) (D : List Dd) (kd id sq : Int) (p : Pt) (w : World) (hl : Lst cdRow (fun x => x.f.length = 8) w ca n cc M) (hd : Lst ddRow (fun _ => True) w da m dc D) (hid : I64 id) (hsq : I64 sq) (hp : PtIn p) (ht : Tab w) :
    Calls Tryd.prog 5 #[.int .i64 nx, .agg #[.slice ca n cc, .slice da m dc], .agg (saRow ⟨kd, id, sq, p⟩).toArray] w fun e w' => e = .returned (.bool true) ∧ Below w.heap.size w w' := by
  have hS := St.start w
  have cA := Lib.hid fun W h => awake18_any W h
  have cL := Lib.hid fun f hf W => large6_any f hf W
  have cL1 := fun W => large6_any p.f hp.len W
  have hB := build_rs3
  have hLC : LC w ⟨nx, M, D⟩ ca cc := by
    show Lst cdRow (fun x => x.f.length = 8) w ca M.length cc M
    rw [hl.len]; exact hl
  have hLD : LD w ⟨nx, M, D⟩ da dc := by
    show Lst ddRow (fun _ => True) w da D.length dc D
    rw [hd.len]; exact hd
  have cRt := fun W (h : Below w.heap.size w W) => rsright_any nx M D ca cc da dc W (hLC.below h) (hLD.below h)
  have cLd := fun W (h : Below w.heap.size w W) => sload_any nx ca n cc M da m dc D W (hl.below h) (hd.below h)
  have e0 : rsRow ⟨nx, M, D⟩ ca cc da dc = [.int .i64 nx, .slice ca M.length cc, .slice da D.length dc] := rfl
  rw [e0, hl.len, hd.len] at cRt
  have hlen := Lib.hid hl.len
  have hdn := Lib.hid hd.len
  have hfl := Lib.hid hl.mem
  have hlens := Lib.hid (show ∀ y ∈ M, (cdRow y).length = 27 from fun y hy => cdRow_lenT y (hl.mem y hy))
  have hbase := Lib.hid (hl.base (by decide) hlens.out)
  have hle := hl.le
  have hcm := hl.cm
  have hFl : (flRow p.f).length = 24 := by rw [flRow_length, hp.len]
  have hfo := flRow_one p.f
  have cD := fun g gm g2 da1 dc1 W hA hok hT h1 h2 => does18_any g gm g2 ⟨nx, M, D⟩ da1 dc1 ca cc da dc kd id sq p hid hsq hp W hA hok hT h1 h2
  obtain ⟨FR, hFR⟩ : ∃ FR, flRow p.f = FR := ⟨_, rfl⟩
  have hSR : saRow ⟨kd, id, sq, p⟩ = .int .i64 kd :: .int .i64 id :: .int .i64 sq :: .int .u32 p.mask :: .int .u32 p.lab :: FR := by rw [← hFR]; rfl
  rw [hFR] at hFl hfo cL1
  rw [hSR] at cD ⊢
  have hsl : (Value.int .i64 kd :: .int .i64 id :: .int .i64 sq :: .int .u32 p.mask :: .int .u32 p.lab :: FR).length = 29 := by simp [hFl]
  have hrF : ((Value.int .i64 kd :: .int .i64 id :: .int .i64 sq :: .int .u32 p.mask :: .int .u32 p.lab :: FR).toArray.toList.drop 5).take 24 = FR := by simp [← hFl]
  have hrA : ((Value.int .i64 kd :: .int .i64 id :: .int .i64 sq :: .int .u32 p.mask :: .int .u32 p.lab :: FR).toArray.toList.drop 0).take 29 = Value.int .i64 kd :: .int .i64 id :: .int .i64 sq :: .int .u32 p.mask :: .int .u32 p.lab :: FR := by simp [← hFl]
  replace cL1 := Lib.hid cL1
  replace cD := Lib.hid cD
  replace cRt := Lib.hid cRt
  replace cLd := Lib.hid cLd
  replace hl := Lib.hid hl
  replace hd := Lib.hid hd
  replace hLC := Lib.hid hLC
  replace hLD := Lib.hid hLD
  replace ht := Lib.hid ht
  replace hp := Lib.hid hp
  clear e0 hSR
  by_cases h60 : 60 < n
  · have d1 : decide ((60 : Int) < (n : Int)) = true := decide_eq_true (by omega)
    have d1b : decide (60 < n) = true := decide_eq_true h60
    clear h60
    go_enter Tryd.func5, Tryd.ntmps5
    go_wp2_with (first
      | (go_at_call 8; (with_reducible refine (cA.out _ (ht.out.fr hS.fr (by simp))).mono ?_); rintro _ w3 ⟨rfl, hk9⟩; have hS1 := hS.keepB hk9; clear hk9 hS; have hS := hS1; clear hS1)
      | (with_reducible refine wpList_box_st (L := []) hS rfl rfl rfl ?_; intro gL w1 hS1; clear hS; have hS := hS1; clear hS1) | (with_reducible refine wpList_box_st (L := [_]) hS rfl rfl rfl ?_; intro gA w1 hS1; clear hS; have hS := hS1; clear hS1; have yL : World.cell? _ ⟨gL, 1, none⟩ = some (.slice da m dc) := hS.cell 1 rfl 1)
      | (go_at_call 7; (with_reducible refine (cL1.out _).mono ?_); rintro _ w3 ⟨rfl, hk9⟩; have hS1 := hS.keepB hk9; clear hk9 hS; have hS := hS1; clear hS1) | ((with_reducible refine wpList_gloadrow_st (n := 24) (j := 5) (vs := FR) 0 hS rfl (by with_unfolding_all rfl) rfl rfl ?_ (by kernel_rfl) hrF hFl ?_); focus (simp [rowB, go_sem]; done))
      | ((with_reducible refine wpList_load_st 1 hS rfl rfl rfl rfl ?_ rfl ?_); focus (simp [scalarB, go_sem]; done)))
    go_ret
    exact ⟨rfl, hS.below⟩
  have d1 : decide ((60 : Int) < (n : Int)) = false := decide_eq_false (by omega)
  have d1b : decide (60 < n) = false := decide_eq_false h60
  by_cases h61 : 60 < m
  · have d2 : decide ((60 : Int) < (m : Int)) = true := decide_eq_true (by omega)
    have d2b : decide (60 < m) = true := decide_eq_true h61
    clear h60 h61
    go_enter Tryd.func5, Tryd.ntmps5
    go_wp2_with (first
      | (go_at_call 8; (with_reducible refine (cA.out _ (ht.out.fr hS.fr (by simp))).mono ?_); rintro _ w3 ⟨rfl, hk9⟩; have hS1 := hS.keepB hk9; clear hk9 hS; have hS := hS1; clear hS1)
      | (with_reducible refine wpList_box_st (L := []) hS rfl rfl rfl ?_; intro gL w1 hS1; clear hS; have hS := hS1; clear hS1) | (with_reducible refine wpList_box_st (L := [_]) hS rfl rfl rfl ?_; intro gA w1 hS1; clear hS; have hS := hS1; clear hS1; have yL : World.cell? _ ⟨gL, 1, none⟩ = some (.slice da m dc) := hS.cell 1 rfl 1)
      | (go_at_call 7; (with_reducible refine (cL1.out _).mono ?_); rintro _ w3 ⟨rfl, hk9⟩; have hS1 := hS.keepB hk9; clear hk9 hS; have hS := hS1; clear hS1) | ((with_reducible refine wpList_gloadrow_st (n := 24) (j := 5) (vs := FR) 0 hS rfl (by with_unfolding_all rfl) rfl rfl ?_ (by kernel_rfl) hrF hFl ?_); focus (simp [rowB, go_sem]; done))
      | ((with_reducible refine wpList_load_st 1 hS rfl rfl rfl rfl ?_ rfl ?_); focus (simp [scalarB, go_sem]; done)))
    go_ret
    exact ⟨rfl, hS.below⟩
  have d2 : decide ((60 : Int) < (m : Int)) = false := decide_eq_false (by omega)
  have d2b : decide (60 < m) = false := decide_eq_false h61
  generalize hlg : largeF p.f = lg at *
  clear h61
  cases lg
  case true =>
    clear hlg
    go_enter Tryd.func5, Tryd.ntmps5
    go_wp2_with (first
      | (go_at_call 8; (with_reducible refine (cA.out _ (ht.out.fr hS.fr (by simp))).mono ?_); rintro _ w3 ⟨rfl, hk9⟩; have hS1 := hS.keepB hk9; clear hk9 hS; have hS := hS1; clear hS1)
      | (with_reducible refine wpList_box_st (L := []) hS rfl rfl rfl ?_; intro gL w1 hS1; clear hS; have hS := hS1; clear hS1) | (with_reducible refine wpList_box_st (L := [_]) hS rfl rfl rfl ?_; intro gA w1 hS1; clear hS; have hS := hS1; clear hS1; have yL : World.cell? _ ⟨gL, 1, none⟩ = some (.slice da m dc) := hS.cell 1 rfl 1)
      | (go_at_call 7; (with_reducible refine (cL1.out _).mono ?_); rintro _ w3 ⟨rfl, hk9⟩; have hS1 := hS.keepB hk9; clear hk9 hS; have hS := hS1; clear hS1) | ((with_reducible refine wpList_gloadrow_st (n := 24) (j := 5) (vs := FR) 0 hS rfl (by with_unfolding_all rfl) rfl rfl ?_ (by kernel_rfl) hrF hFl ?_); focus (simp [rowB, go_sem]; done))
      | ((with_reducible refine wpList_load_st 1 hS rfl rfl rfl rfl ?_ rfl ?_); focus (simp [scalarB, go_sem]; done)))
    go_ret
    exact ⟨rfl, hS.below⟩
  clear hlg
  go_enter Tryd.func5, Tryd.ntmps5
  go_wp2_with (first
    | (with_reducible refine wpList_box_st (L := []) hS rfl rfl rfl ?_; intro gL w1 hS1; clear hS; have hS := hS1; clear hS1) | (with_reducible refine wpList_box_st (L := [_]) hS rfl rfl rfl ?_; intro gA w1 hS1; clear hS; have hS := hS1; clear hS1; have yL : World.cell? _ ⟨gL, 1, none⟩ = some (.slice da m dc) := hS.cell 1 rfl 1)
    | (go_at_call 7; (with_reducible refine (cL1.out _).mono ?_); rintro _ w3 ⟨rfl, hk9⟩; have hS1 := hS.keepB hk9; clear hk9 hS; have hS := hS1; clear hS1) | ((with_reducible refine wpList_gloadrow_st (n := 24) (j := 5) (vs := FR) 0 hS rfl (by with_unfolding_all rfl) rfl rfl ?_ (by kernel_rfl) hrF hFl ?_); focus (simp [rowB, go_sem]; done))
    | (with_reducible refine wpList_box_st hS rfl rfl rfl ?_; intro g1 w1 hS1; clear hS; replace hS := hS1; clear hS1) | (with_reducible refine wpList_box1_st hS rfl rfl rfl ?_; intro g1 w1 hS1; clear hS; replace hS := hS1; clear hS1) | (with_reducible refine wpList_alloc_st hS rfl rfl (by assumption) ?_; intro g1 w1 hS1; clear hS; replace hS := hS1; clear hS1) | (with_reducible refine wpList_alloc1_st hS rfl rfl (by assumption) rfl ?_; intro g1 w1 hS1; clear hS; replace hS := hS1; clear hS1) | ((with_reducible refine wpList_load_st 0 hS rfl rfl rfl rfl ?_ rfl ?_); focus (simp [scalarB, go_sem]; done)) | ((with_reducible refine wpList_loadall_st 0 hS rfl rfl rfl rfl ?_ (by kernel_rfl) ?_); focus (simp [rowB, go_sem]; done)) | ((with_reducible refine wpList_store_st 0 hS rfl rfl rfl rfl (by kernel_rfl) rfl rfl ?_); intro w1 hS1; clear hS; replace hS := hS1; clear hS1; try simp only [List.set_cons_zero, List.set_cons_succ, List.setIfInBounds_toArray, List.take_succ_cons, List.take_zero, List.drop_succ_cons, List.drop_zero, List.nil_append, List.cons_append, List.append_nil, List.drop_nil, List.take_nil, List.length_cons, List.length_nil, Nat.zero_add, Nat.add_zero, Nat.reduceAdd] at hS) | ((with_reducible refine wpList_storerow_st 0 hS rfl rfl rfl rfl (by kernel_rfl) rfl rfl rfl rfl ?_); intro w1 hS1; clear hS; replace hS := hS1; clear hS1; try simp only [List.set_cons_zero, List.set_cons_succ, List.setIfInBounds_toArray, List.take_succ_cons, List.take_zero, List.drop_succ_cons, List.drop_zero, List.nil_append, List.cons_append, List.append_nil, List.drop_nil, List.take_nil, List.length_cons, List.length_nil, Nat.zero_add, Nat.add_zero, Nat.reduceAdd] at hS) | ((with_reducible refine wpList_load_st 1 hS rfl rfl rfl rfl ?_ rfl ?_); focus (simp [scalarB, go_sem]; done)) | ((with_reducible refine wpList_loadall_st 1 hS rfl rfl rfl rfl ?_ (by kernel_rfl) ?_); focus (simp [rowB, go_sem]; done)) | ((with_reducible refine wpList_store_st 1 hS rfl rfl rfl rfl (by kernel_rfl) rfl rfl ?_); intro w1 hS1; clear hS; replace hS := hS1; clear hS1; try simp only [List.set_cons_zero, List.set_cons_succ, List.setIfInBounds_toArray, List.take_succ_cons, List.take_zero, List.drop_succ_cons, List.drop_zero, List.nil_append, List.cons_append, List.append_nil, List.drop_nil, List.take_nil, List.length_cons, List.length_nil, Nat.zero_add, Nat.add_zero, Nat.reduceAdd] at hS) | ((with_reducible refine wpList_storerow_st 1 hS rfl rfl rfl rfl (by kernel_rfl) rfl rfl rfl rfl ?_); intro w1 hS1; clear hS; replace hS := hS1; clear hS1; try simp only [List.set_cons_zero, List.set_cons_succ, List.setIfInBounds_toArray, List.take_succ_cons, List.take_zero, List.drop_succ_cons, List.drop_zero, List.nil_append, List.cons_append, List.append_nil, List.drop_nil, List.take_nil, List.length_cons, List.length_nil, Nat.zero_add, Nat.add_zero, Nat.reduceAdd] at hS))
  clear d1 d1b d2 d2b yL
  go_loopg [7] n (fun gk vx wr => ∃ (j : Nat), j + gk = n ∧ vx = .int .i64 j ∧ St w [] [Ch.blk gA 32 (Value.int .i64 kd :: .int .i64 id :: .int .i64 sq :: .int .u32 p.mask :: .int .u32 p.lab :: FR).toArray, Ch.blk gL 57 #[.slice ca n cc, .slice da m dc]] wr)
  case atStart => exact ⟨0, Nat.zero_add _, rfl, hS⟩
  case round =>
    clear hS
    obtain ⟨j, hj, rfl, hS⟩ := hrel
    by_cases hlt : j < n
    case pos =>
      have hjl : j < M.length := by rw [hlen.out]; exact hlt
      obtain ⟨b, off, rfl⟩ := hbase.out (by omega)
      have hrow := hl.out.rowb hlens.out j hjl
      have hf8 := hfl.out _ (List.getElem_mem hjl)
      have cL2 := Lib.hid fun W => cL.out M[j].f hf8 W
      have hFl2 : (flRow M[j].f).length = 24 := by rw [flRow_length, hf8]
      have zF : w.rangeAt b (off + j * 27 + 3) (flRow M[j].f) := fun k v hk => by
        have := hrow (3 + k) v (by rw [Nat.add_comm]; exact hk)
        rw [← Nat.add_assoc] at this
        exact this
      clear hrow
      generalize flRow M[j].f = FM at *
      generalize largeF M[j].f = lm at *
      cases lm
      case true =>
        go_wp2_with (first
          | (go_at_call 8; (with_reducible refine (cA.out _ (ht.out.fr hS.fr (by simp))).mono ?_); rintro _ w3 ⟨rfl, hk9⟩; have hS1 := hS.keepB hk9; clear hk9 hS; have hS := hS1; clear hS1)
          | (go_at_call 7; (with_reducible refine (cL2.out _).mono ?_); rintro _ w3 ⟨rfl, hk9⟩; have hS1 := hS.keepB hk9; clear hk9 hS; have hS := hS1; clear hS1)
          | (with_reducible refine wpList_rangerow (t := 28) (n := 24) (range_old hS zF) rfl rfl rfl (by kernel_rfl) (by kernel_rfl) hFl2 ?_)
          | ((with_reducible refine wpList_load_st 1 hS rfl rfl rfl rfl ?_ rfl ?_); focus (simp [scalarB, go_sem]; done)))
        go_ret
        exact ⟨rfl, hS.below⟩
      go_wp2_with (first
        | (go_at_call 7; (with_reducible refine (cL2.out _).mono ?_); rintro _ w3 ⟨rfl, hk9⟩; have hS1 := hS.keepB hk9; clear hk9 hS; have hS := hS1; clear hS1)
        | (with_reducible refine wpList_rangerow (t := 28) (n := 24) (range_old hS zF) rfl rfl rfl (by kernel_rfl) (by kernel_rfl) hFl2 ?_)
        | ((with_reducible refine wpList_load_st 1 hS rfl rfl rfl rfl ?_ rfl ?_); focus (simp [scalarB, go_sem]; done)))
      go_roundg (n - (j + 1))
      case measure => omega
      case rel => exact ⟨j + 1, by omega, by go_num, hS⟩
    clear cL hlens hbase hfl
    cases hr : (ShS.mk nx M D).right with
    | false =>
      have cLf : ∀ W (h : Below w.heap.size w W), Calls Tryd.prog 20 #[.int .i64 nx, .slice ca n cc, .slice da m dc] W fun e w' => e = .returned (.tuple #[.pointer none, .bool false]) ∧ Below W.heap.size W w' := fun W h => (cLd.out W h).mono (by
        rintro e w' (⟨h1, -⟩ | ⟨-, h2, h3⟩)
        · rw [hr] at h1; cases h1
        · exact ⟨h2, h3⟩)
      rw [hr] at cRt
      clear hr cLd
      replace cLf := Lib.hid cLf
      go_wp2_with (first
        | (with_reducible refine wpList_box_st (L := [_, _]) hS rfl rfl rfl ?_; intro g2 w1 hS1; clear hS; have hS := hS1; clear hS1) | (go_at_call 21; (with_reducible refine (cRt.out _ hS.below).mono ?_); rintro _ w3 ⟨rfl, hk9⟩; have hS1 := hS.keepB hk9; clear hk9 hS; have hS := hS1; clear hS1)
        | (go_at_call 20; (with_reducible refine (cLf.out _ hS.below).mono ?_); rintro _ w3 ⟨rfl, hk9⟩; have hS1 := hS.keepB hk9; clear hk9 hS; have hS := hS1; clear hS1)
        | (with_reducible refine wpList_box_st hS rfl rfl rfl ?_; intro g1 w1 hS1; clear hS; replace hS := hS1; clear hS1) | (with_reducible refine wpList_box1_st hS rfl rfl rfl ?_; intro g1 w1 hS1; clear hS; replace hS := hS1; clear hS1) | (with_reducible refine wpList_alloc_st hS rfl rfl (by assumption) ?_; intro g1 w1 hS1; clear hS; replace hS := hS1; clear hS1) | (with_reducible refine wpList_alloc1_st hS rfl rfl (by assumption) rfl ?_; intro g1 w1 hS1; clear hS; replace hS := hS1; clear hS1) | ((with_reducible refine wpList_load_st 0 hS rfl rfl rfl rfl ?_ rfl ?_); focus (simp [scalarB, go_sem]; done)) | ((with_reducible refine wpList_loadall_st 0 hS rfl rfl rfl rfl ?_ (by kernel_rfl) ?_); focus (simp [rowB, go_sem]; done)) | ((with_reducible refine wpList_store_st 0 hS rfl rfl rfl rfl (by kernel_rfl) rfl rfl ?_); intro w1 hS1; clear hS; replace hS := hS1; clear hS1; try simp only [List.set_cons_zero, List.set_cons_succ, List.setIfInBounds_toArray, List.take_succ_cons, List.take_zero, List.drop_succ_cons, List.drop_zero, List.nil_append, List.cons_append, List.append_nil, List.drop_nil, List.take_nil, List.length_cons, List.length_nil, Nat.zero_add, Nat.add_zero, Nat.reduceAdd] at hS) | ((with_reducible refine wpList_storerow_st 0 hS rfl rfl rfl rfl (by kernel_rfl) rfl rfl rfl rfl ?_); intro w1 hS1; clear hS; replace hS := hS1; clear hS1; try simp only [List.set_cons_zero, List.set_cons_succ, List.setIfInBounds_toArray, List.take_succ_cons, List.take_zero, List.drop_succ_cons, List.drop_zero, List.nil_append, List.cons_append, List.append_nil, List.drop_nil, List.take_nil, List.length_cons, List.length_nil, Nat.zero_add, Nat.add_zero, Nat.reduceAdd] at hS) | ((with_reducible refine wpList_load_st 1 hS rfl rfl rfl rfl ?_ rfl ?_); focus (simp [scalarB, go_sem]; done)) | ((with_reducible refine wpList_loadall_st 1 hS rfl rfl rfl rfl ?_ (by kernel_rfl) ?_); focus (simp [rowB, go_sem]; done)) | ((with_reducible refine wpList_store_st 1 hS rfl rfl rfl rfl (by kernel_rfl) rfl rfl ?_); intro w1 hS1; clear hS; replace hS := hS1; clear hS1; try simp only [List.set_cons_zero, List.set_cons_succ, List.setIfInBounds_toArray, List.take_succ_cons, List.take_zero, List.drop_succ_cons, List.drop_zero, List.nil_append, List.cons_append, List.append_nil, List.drop_nil, List.take_nil, List.length_cons, List.length_nil, Nat.zero_add, Nat.add_zero, Nat.reduceAdd] at hS) | ((with_reducible refine wpList_storerow_st 1 hS rfl rfl rfl rfl (by kernel_rfl) rfl rfl rfl rfl ?_); intro w1 hS1; clear hS; replace hS := hS1; clear hS1; try simp only [List.set_cons_zero, List.set_cons_succ, List.setIfInBounds_toArray, List.take_succ_cons, List.take_zero, List.drop_succ_cons, List.drop_zero, List.nil_append, List.cons_append, List.append_nil, List.drop_nil, List.take_nil, List.length_cons, List.length_nil, Nat.zero_add, Nat.add_zero, Nat.reduceAdd] at hS) | ((with_reducible refine wpList_load_st 2 hS rfl rfl rfl rfl ?_ rfl ?_); focus (simp [scalarB, go_sem]; done)) | ((with_reducible refine wpList_loadall_st 2 hS rfl rfl rfl rfl ?_ (by kernel_rfl) ?_); focus (simp [rowB, go_sem]; done)) | ((with_reducible refine wpList_store_st 2 hS rfl rfl rfl rfl (by kernel_rfl) rfl rfl ?_); intro w1 hS1; clear hS; replace hS := hS1; clear hS1; try simp only [List.set_cons_zero, List.set_cons_succ, List.setIfInBounds_toArray, List.take_succ_cons, List.take_zero, List.drop_succ_cons, List.drop_zero, List.nil_append, List.cons_append, List.append_nil, List.drop_nil, List.take_nil, List.length_cons, List.length_nil, Nat.zero_add, Nat.add_zero, Nat.reduceAdd] at hS) | ((with_reducible refine wpList_storerow_st 2 hS rfl rfl rfl rfl (by kernel_rfl) rfl rfl rfl rfl ?_); intro w1 hS1; clear hS; replace hS := hS1; clear hS1; try simp only [List.set_cons_zero, List.set_cons_succ, List.setIfInBounds_toArray, List.take_succ_cons, List.take_zero, List.drop_succ_cons, List.drop_zero, List.nil_append, List.cons_append, List.append_nil, List.drop_nil, List.take_nil, List.length_cons, List.length_nil, Nat.zero_add, Nat.add_zero, Nat.reduceAdd] at hS))
      refine mixs_begin (by kernel_rfl) hS ?_
      clear hS
      intro w2 hS
      refine mixs_take 0 (v := ?_) rfl (by kernel_rfl) (fun _ _ _ h => h) (by kernel_rfl) (by assumption) (fun s => ?hy) ?_; case hy => (go_simp <;> with_reducible rfl)
      try simp only [List.getElem_toArray, List.getElem_cons_succ, List.getElem_cons_zero, Act.put, List.setIfInBounds_toArray, List.set_cons_zero, List.set_cons_succ]
      refine mixs_take 1 (v := ?_) rfl (by kernel_rfl) (fun _ _ _ h => h) (by kernel_rfl) (by assumption) (fun s => ?hy) ?_; case hy => (go_simp <;> with_reducible rfl)
      try simp only [List.getElem_toArray, List.getElem_cons_succ, List.getElem_cons_zero, Act.put, List.setIfInBounds_toArray, List.set_cons_zero, List.set_cons_succ]
      refine mixs_take 2 (v := ?_) rfl (by kernel_rfl) (fun _ _ _ h => h) (by kernel_rfl) (by assumption) (fun s => ?hy) ?_; case hy => (go_simp <;> with_reducible rfl)
      try simp only [List.getElem_toArray, List.getElem_cons_succ, List.getElem_cons_zero, Act.put, List.setIfInBounds_toArray, List.set_cons_zero, List.set_cons_succ]
      refine mixs_skip 3 rfl (by kernel_rfl) (fun _ _ _ h => h) (by kernel_rfl) (by assumption) ?_
      try simp only [List.getElem_toArray, List.getElem_cons_succ, List.getElem_cons_zero, Act.put, List.setIfInBounds_toArray, List.set_cons_zero, List.set_cons_succ]
      refine mixs_skip 4 rfl (by kernel_rfl) (fun _ _ _ h => h) (by kernel_rfl) (by assumption) ?_
      try simp only [List.getElem_toArray, List.getElem_cons_succ, List.getElem_cons_zero, Act.put, List.setIfInBounds_toArray, List.set_cons_zero, List.set_cons_succ]
      refine mixs_skip 5 rfl (by kernel_rfl) (fun _ _ _ h => h) (by kernel_rfl) (by assumption) ?_
      try simp only [List.getElem_toArray, List.getElem_cons_succ, List.getElem_cons_zero, Act.put, List.setIfInBounds_toArray, List.set_cons_zero, List.set_cons_succ]
      refine mixs_skip 6 rfl (by kernel_rfl) (fun _ _ _ h => h) (by kernel_rfl) (by assumption) ?_
      try simp only [List.getElem_toArray, List.getElem_cons_succ, List.getElem_cons_zero, Act.put, List.setIfInBounds_toArray, List.set_cons_zero, List.set_cons_succ]
      refine mixs_skip 7 rfl (by kernel_rfl) (fun _ _ _ h => h) (by kernel_rfl) (by assumption) ?_
      try simp only [List.getElem_toArray, List.getElem_cons_succ, List.getElem_cons_zero, Act.put, List.setIfInBounds_toArray, List.set_cons_zero, List.set_cons_succ]
      refine mixs_skip 8 rfl (by kernel_rfl) (fun _ _ _ h => h) (by kernel_rfl) (by assumption) ?_
      try simp only [List.getElem_toArray, List.getElem_cons_succ, List.getElem_cons_zero, Act.put, List.setIfInBounds_toArray, List.set_cons_zero, List.set_cons_succ]
      refine mixs_skip 9 rfl (by kernel_rfl) (fun _ _ _ h => h) (by kernel_rfl) (by assumption) ?_
      try simp only [List.getElem_toArray, List.getElem_cons_succ, List.getElem_cons_zero, Act.put, List.setIfInBounds_toArray, List.set_cons_zero, List.set_cons_succ]
      refine mixs_skip 10 rfl (by kernel_rfl) (fun _ _ _ h => h) (by kernel_rfl) (by assumption) ?_
      try simp only [List.getElem_toArray, List.getElem_cons_succ, List.getElem_cons_zero, Act.put, List.setIfInBounds_toArray, List.set_cons_zero, List.set_cons_succ]
      refine mixs_skip 11 rfl (by kernel_rfl) (fun _ _ _ h => h) (by kernel_rfl) (by assumption) ?_
      try simp only [List.getElem_toArray, List.getElem_cons_succ, List.getElem_cons_zero, Act.put, List.setIfInBounds_toArray, List.set_cons_zero, List.set_cons_succ]
      refine mixs_skip 12 rfl (by kernel_rfl) (fun _ _ _ h => h) (by kernel_rfl) (by assumption) ?_
      try simp only [List.getElem_toArray, List.getElem_cons_succ, List.getElem_cons_zero, Act.put, List.setIfInBounds_toArray, List.set_cons_zero, List.set_cons_succ]
      refine mixs_skip 13 rfl (by kernel_rfl) (fun _ _ _ h => h) (by kernel_rfl) (by assumption) ?_
      try simp only [List.getElem_toArray, List.getElem_cons_succ, List.getElem_cons_zero, Act.put, List.setIfInBounds_toArray, List.set_cons_zero, List.set_cons_succ]
      refine mixs_skip 14 rfl (by kernel_rfl) (fun _ _ _ h => h) (by kernel_rfl) (by assumption) ?_
      try simp only [List.getElem_toArray, List.getElem_cons_succ, List.getElem_cons_zero, Act.put, List.setIfInBounds_toArray, List.set_cons_zero, List.set_cons_succ]
      refine mixs_skip 15 rfl (by kernel_rfl) (fun _ _ _ h => h) (by kernel_rfl) (by assumption) ?_
      try simp only [List.getElem_toArray, List.getElem_cons_succ, List.getElem_cons_zero, Act.put, List.setIfInBounds_toArray, List.set_cons_zero, List.set_cons_succ]
      refine mixs_skip 16 rfl (by kernel_rfl) (fun _ _ _ h => h) (by kernel_rfl) (by assumption) ?_
      try simp only [List.getElem_toArray, List.getElem_cons_succ, List.getElem_cons_zero, Act.put, List.setIfInBounds_toArray, List.set_cons_zero, List.set_cons_succ]
      refine mixs_skip 17 rfl (by kernel_rfl) (fun _ _ _ h => h) (by kernel_rfl) (by assumption) ?_
      try simp only [List.getElem_toArray, List.getElem_cons_succ, List.getElem_cons_zero, Act.put, List.setIfInBounds_toArray, List.set_cons_zero, List.set_cons_succ]
      refine mixs_skip 18 rfl (by kernel_rfl) (fun _ _ _ h => h) (by kernel_rfl) (by assumption) ?_
      try simp only [List.getElem_toArray, List.getElem_cons_succ, List.getElem_cons_zero, Act.put, List.setIfInBounds_toArray, List.set_cons_zero, List.set_cons_succ]
      refine mixs_skip 19 rfl (by kernel_rfl) (fun _ _ _ h => h) (by kernel_rfl) (by assumption) ?_
      try simp only [List.getElem_toArray, List.getElem_cons_succ, List.getElem_cons_zero, Act.put, List.setIfInBounds_toArray, List.set_cons_zero, List.set_cons_succ]
      refine mixs_skip 20 rfl (by kernel_rfl) (fun _ _ _ h => h) (by kernel_rfl) (by assumption) ?_
      try simp only [List.getElem_toArray, List.getElem_cons_succ, List.getElem_cons_zero, Act.put, List.setIfInBounds_toArray, List.set_cons_zero, List.set_cons_succ]
      refine mixs_skip 21 rfl (by kernel_rfl) (fun _ _ _ h => h) (by kernel_rfl) (by assumption) ?_
      try simp only [List.getElem_toArray, List.getElem_cons_succ, List.getElem_cons_zero, Act.put, List.setIfInBounds_toArray, List.set_cons_zero, List.set_cons_succ]
      refine mixs_skip 22 rfl (by kernel_rfl) (fun _ _ _ h => h) (by kernel_rfl) (by assumption) ?_
      try simp only [List.getElem_toArray, List.getElem_cons_succ, List.getElem_cons_zero, Act.put, List.setIfInBounds_toArray, List.set_cons_zero, List.set_cons_succ]
      refine mixs_skip 23 rfl (by kernel_rfl) (fun _ _ _ h => h) (by kernel_rfl) (by assumption) ?_
      try simp only [List.getElem_toArray, List.getElem_cons_succ, List.getElem_cons_zero, Act.put, List.setIfInBounds_toArray, List.set_cons_zero, List.set_cons_succ]
      refine mixs_skip 24 rfl (by kernel_rfl) (fun _ _ _ h => h) (by kernel_rfl) (by assumption) ?_
      try simp only [List.getElem_toArray, List.getElem_cons_succ, List.getElem_cons_zero, Act.put, List.setIfInBounds_toArray, List.set_cons_zero, List.set_cons_succ]
      refine mixs_take 25 (v := ?_) rfl (by kernel_rfl) (fun _ _ _ h => h) (by kernel_rfl) (by assumption) (fun s => ?hy) ?_; case hy => (go_simp <;> with_reducible rfl)
      try simp only [List.getElem_toArray, List.getElem_cons_succ, List.getElem_cons_zero, Act.put, List.setIfInBounds_toArray, List.set_cons_zero, List.set_cons_succ]
      refine mixs_take 26 (v := ?_) rfl (by kernel_rfl) (fun _ _ _ h => h) (by kernel_rfl) (by assumption) (fun s => ?hy) ?_; case hy => (go_simp <;> with_reducible rfl)
      try simp only [List.getElem_toArray, List.getElem_cons_succ, List.getElem_cons_zero, Act.put, List.setIfInBounds_toArray, List.set_cons_zero, List.set_cons_succ]
      refine mixs_one 27 (by kernel_rfl) rfl (fun K hK => ?_)
      go_simp
      ( go_at_call 8; (with_reducible refine (cA.out _ (ht.out.fr hS.fr (by simp))).mono ?_); rintro _ w3 ⟨rfl, hk9⟩; have hS1 := hS.keepB hk9; clear hk9 hS; have hS := hS1; clear hS1 )
      try clear hC
      refine hK.out _ _ _ (fun _ h => h) (by first | exact hS | exact hS.drop | exact hS.drop.drop | exact hS.drop.drop.drop | exact hS.drop.drop.drop.drop | exact hS.empty | exact hS.one 0 rfl | exact hS.one 1 rfl | exact hS.one 2 rfl | exact hS.one 3 rfl | exact hS.one 4 rfl | exact hS.one 5 rfl | exact hS.one 6 rfl | exact hS.one 7 rfl | exact hS.one 8 rfl | exact hS.one 9 rfl | exact hS.one 10 rfl | exact hS.one 11 rfl) (fun hC => ?_)
      clear hK K
      try simp only [List.getElem_toArray, List.getElem_cons_succ, List.getElem_cons_zero, Act.put, List.setIfInBounds_toArray, List.set_cons_zero, List.set_cons_succ]
      refine mixs_take 28 (v := ?_) rfl (by kernel_rfl) (fun _ _ _ h => h) (by kernel_rfl) (by assumption) (fun s => ?hy) ?_; case hy => (go_simp <;> with_reducible rfl)
      try simp only [List.getElem_toArray, List.getElem_cons_succ, List.getElem_cons_zero, Act.put, List.setIfInBounds_toArray, List.set_cons_zero, List.set_cons_succ]
      refine mixs_take 29 (v := ?_) rfl (by kernel_rfl) (fun _ _ _ h => h) (by kernel_rfl) (by assumption) (fun s => ?hy) ?_; case hy => (go_simp <;> with_reducible rfl)
      try simp only [List.getElem_toArray, List.getElem_cons_succ, List.getElem_cons_zero, Act.put, List.setIfInBounds_toArray, List.set_cons_zero, List.set_cons_succ]
      refine wpAnyH_done (by kernel_rfl) ?_ _
      go_wp2_with fail
      go_ret
      exact ⟨rfl, hS.below⟩
    | true =>
      have hok := Lib.hid (right_ok hr hl.out.mem)
      have cLf : ∀ W (h : Below w.heap.size w W), Calls Tryd.prog 20 #[.int .i64 nx, .slice ca n cc, .slice da m dc] W fun e w' => ∃ g gm da dc, e = .returned (.tuple #[.pointer (some ⟨g, 0, none⟩), .bool true]) ∧ St W [] (shA g gm ⟨nx, M, D⟩ da dc) w' := fun W h => (cLd.out W h).mono (by
        rintro e w' (⟨-, h2⟩ | ⟨h1, -⟩)
        · exact h2
        · rw [hr] at h1; cases h1)
      rw [hr] at cRt
      clear hr cLd
      replace cLf := Lib.hid cLf
      have hok1 := Lib.hid (hok.out.act kd id sq p hp.out.lab)
      have cS0 := Lib.hid fun g gm da1 dc1 W h1 h2 h3 h4 => same18_any g gm ⟨nx, M, D⟩ da1 dc1 ca cc da dc id hid W h1 h2 h3 h4 hok.out
      have cS1 := fun g gm da1 dc1 ca1 cc1 ra1 rc1 W h1 h2 h3 h4 => same18_any g gm ((ShS.mk nx M D).act kd id sq p) da1 dc1 ca1 cc1 ra1 rc1 id hid W h1 h2 h3 h4 hok1.out
      replace cS1 := Lib.hid cS1
      go_wp2_with (first
        | (with_reducible refine wpList_box_st (L := [_, _]) hS rfl rfl rfl ?_; intro g2 w1 hS1; clear hS; have hS := hS1; clear hS1) | (go_at_call 21; (with_reducible refine (cRt.out _ hS.below).mono ?_); rintro _ w3 ⟨rfl, hk9⟩; have hS1 := hS.keepB hk9; clear hk9 hS; have hS := hS1; clear hS1)
        | (go_at_call 20; (with_reducible refine (cLf.out _ hS.below).mono ?_); rintro _ w3 ⟨g, gm, da1, dc1, rfl, hk9⟩; have hS1 := hS.made hk9; clear hS hk9; have hS := hS1; clear hS1)
        | (with_reducible refine wpList_box_st hS rfl rfl rfl ?_; intro g1 w1 hS1; clear hS; replace hS := hS1; clear hS1) | (with_reducible refine wpList_box1_st hS rfl rfl rfl ?_; intro g1 w1 hS1; clear hS; replace hS := hS1; clear hS1) | (with_reducible refine wpList_alloc_st hS rfl rfl (by assumption) ?_; intro g1 w1 hS1; clear hS; replace hS := hS1; clear hS1) | (with_reducible refine wpList_alloc1_st hS rfl rfl (by assumption) rfl ?_; intro g1 w1 hS1; clear hS; replace hS := hS1; clear hS1) | ((with_reducible refine wpList_load_st 0 hS rfl rfl rfl rfl ?_ rfl ?_); focus (simp [scalarB, go_sem]; done)) | ((with_reducible refine wpList_loadall_st 0 hS rfl rfl rfl rfl ?_ (by kernel_rfl) ?_); focus (simp [rowB, go_sem]; done)) | ((with_reducible refine wpList_store_st 0 hS rfl rfl rfl rfl (by kernel_rfl) rfl rfl ?_); intro w1 hS1; clear hS; replace hS := hS1; clear hS1; try simp only [List.set_cons_zero, List.set_cons_succ, List.setIfInBounds_toArray, List.take_succ_cons, List.take_zero, List.drop_succ_cons, List.drop_zero, List.nil_append, List.cons_append, List.append_nil, List.drop_nil, List.take_nil, List.length_cons, List.length_nil, Nat.zero_add, Nat.add_zero, Nat.reduceAdd] at hS) | ((with_reducible refine wpList_storerow_st 0 hS rfl rfl rfl rfl (by kernel_rfl) rfl rfl rfl rfl ?_); intro w1 hS1; clear hS; replace hS := hS1; clear hS1; try simp only [List.set_cons_zero, List.set_cons_succ, List.setIfInBounds_toArray, List.take_succ_cons, List.take_zero, List.drop_succ_cons, List.drop_zero, List.nil_append, List.cons_append, List.append_nil, List.drop_nil, List.take_nil, List.length_cons, List.length_nil, Nat.zero_add, Nat.add_zero, Nat.reduceAdd] at hS) | ((with_reducible refine wpList_load_st 1 hS rfl rfl rfl rfl ?_ rfl ?_); focus (simp [scalarB, go_sem]; done)) | ((with_reducible refine wpList_loadall_st 1 hS rfl rfl rfl rfl ?_ (by kernel_rfl) ?_); focus (simp [rowB, go_sem]; done)) | ((with_reducible refine wpList_store_st 1 hS rfl rfl rfl rfl (by kernel_rfl) rfl rfl ?_); intro w1 hS1; clear hS; replace hS := hS1; clear hS1; try simp only [List.set_cons_zero, List.set_cons_succ, List.setIfInBounds_toArray, List.take_succ_cons, List.take_zero, List.drop_succ_cons, List.drop_zero, List.nil_append, List.cons_append, List.append_nil, List.drop_nil, List.take_nil, List.length_cons, List.length_nil, Nat.zero_add, Nat.add_zero, Nat.reduceAdd] at hS) | ((with_reducible refine wpList_storerow_st 1 hS rfl rfl rfl rfl (by kernel_rfl) rfl rfl rfl rfl ?_); intro w1 hS1; clear hS; replace hS := hS1; clear hS1; try simp only [List.set_cons_zero, List.set_cons_succ, List.setIfInBounds_toArray, List.take_succ_cons, List.take_zero, List.drop_succ_cons, List.drop_zero, List.nil_append, List.cons_append, List.append_nil, List.drop_nil, List.take_nil, List.length_cons, List.length_nil, Nat.zero_add, Nat.add_zero, Nat.reduceAdd] at hS) | ((with_reducible refine wpList_load_st 2 hS rfl rfl rfl rfl ?_ rfl ?_); focus (simp [scalarB, go_sem]; done)) | ((with_reducible refine wpList_loadall_st 2 hS rfl rfl rfl rfl ?_ (by kernel_rfl) ?_); focus (simp [rowB, go_sem]; done)) | ((with_reducible refine wpList_store_st 2 hS rfl rfl rfl rfl (by kernel_rfl) rfl rfl ?_); intro w1 hS1; clear hS; replace hS := hS1; clear hS1; try simp only [List.set_cons_zero, List.set_cons_succ, List.setIfInBounds_toArray, List.take_succ_cons, List.take_zero, List.drop_succ_cons, List.drop_zero, List.nil_append, List.cons_append, List.append_nil, List.drop_nil, List.take_nil, List.length_cons, List.length_nil, Nat.zero_add, Nat.add_zero, Nat.reduceAdd] at hS) | ((with_reducible refine wpList_storerow_st 2 hS rfl rfl rfl rfl (by kernel_rfl) rfl rfl rfl rfl ?_); intro w1 hS1; clear hS; replace hS := hS1; clear hS1; try simp only [List.set_cons_zero, List.set_cons_succ, List.setIfInBounds_toArray, List.take_succ_cons, List.take_zero, List.drop_succ_cons, List.drop_zero, List.nil_append, List.cons_append, List.append_nil, List.drop_nil, List.take_nil, List.length_cons, List.length_nil, Nat.zero_add, Nat.add_zero, Nat.reduceAdd] at hS) | ((with_reducible refine wpList_load_st 3 hS rfl rfl rfl rfl ?_ rfl ?_); focus (simp [scalarB, go_sem]; done)) | ((with_reducible refine wpList_loadall_st 3 hS rfl rfl rfl rfl ?_ (by kernel_rfl) ?_); focus (simp [rowB, go_sem]; done)) | ((with_reducible refine wpList_store_st 3 hS rfl rfl rfl rfl (by kernel_rfl) rfl rfl ?_); intro w1 hS1; clear hS; replace hS := hS1; clear hS1; try simp only [List.set_cons_zero, List.set_cons_succ, List.setIfInBounds_toArray, List.take_succ_cons, List.take_zero, List.drop_succ_cons, List.drop_zero, List.nil_append, List.cons_append, List.append_nil, List.drop_nil, List.take_nil, List.length_cons, List.length_nil, Nat.zero_add, Nat.add_zero, Nat.reduceAdd] at hS) | ((with_reducible refine wpList_storerow_st 3 hS rfl rfl rfl rfl (by kernel_rfl) rfl rfl rfl rfl ?_); intro w1 hS1; clear hS; replace hS := hS1; clear hS1; try simp only [List.set_cons_zero, List.set_cons_succ, List.setIfInBounds_toArray, List.take_succ_cons, List.take_zero, List.drop_succ_cons, List.drop_zero, List.nil_append, List.cons_append, List.append_nil, List.drop_nil, List.take_nil, List.length_cons, List.length_nil, Nat.zero_add, Nat.add_zero, Nat.reduceAdd] at hS))
      have e1 : (#[.int .i64 nx, .slice ca n cc, .slice da m dc] : Array Value) = (rsRow ⟨nx, M, D⟩ ca cc da dc).toArray := by
        unfold rsRow
        dsimp only
        rw [hlen.out, hdn.out]
      have hS1 := St.rot (A := shA g gm ⟨nx, M, D⟩ da1 dc1 ++ [Ch.blk g2 50 #[.int .i64 nx, .slice ca n cc, .slice da m dc]]) (B := [_, _]) hS
      rw [e1] at hS1
      clear hS e1
      have hS : St w [] (Ch.blk gA 32 (Value.int .i64 kd :: .int .i64 id :: .int .i64 sq :: .int .u32 p.mask :: .int .u32 p.lab :: FR).toArray :: Ch.blk gL 57 #[.slice ca n cc, .slice da m dc] :: (shA g gm ⟨nx, M, D⟩ da1 dc1 ++ [rsB g2 ⟨nx, M, D⟩ ca cc da dc])) _ := hS1
      clear hS1
      have htf := Lib.hid fun (W : World) (h : St w [] (Ch.blk gA 32 (Value.int .i64 kd :: .int .i64 id :: .int .i64 sq :: .int .u32 p.mask :: .int .u32 p.lab :: FR).toArray :: Ch.blk gL 57 #[.slice ca n cc, .slice da m dc] :: (shA g gm ⟨nx, M, D⟩ da1 dc1 ++ [rsB g2 ⟨nx, M, D⟩ ca cc da dc])) W) => tab_feet (A := [_, _]) (B := shA g gm ⟨nx, M, D⟩ da1 dc1 ++ [rsB g2 ⟨nx, M, D⟩ ca cc da dc]) (R := []) h ht.out
      refine mixs_beginC 0 (by kernel_rfl) hS rfl ?_
      clear hS
      intro w2 hS hC
      have kC := hC.kblk 0 rfl
      have kr := hC.krow (P := Tryd.prog) (j := 0) 0 rfl (t := 32) (by kernel_rfl) (n := 29) (by kernel_rfl) hrA hsl
      refine mixs_take 0 (v := ?_) rfl (by kernel_rfl) (fun _ _ _ h => h) (by kernel_rfl) (by assumption) (fun s => ?hy) ?_; case hy => (go_simp <;> with_reducible rfl)
      try simp only [List.getElem_toArray, List.getElem_cons_succ, List.getElem_cons_zero, Act.put, List.setIfInBounds_toArray, List.set_cons_zero, List.set_cons_succ]
      refine mixs_take 1 (v := ?_) rfl (by kernel_rfl) (fun _ _ _ h => h) (by kernel_rfl) (by assumption) (fun s => ?hy) ?_; case hy => (go_simp <;> with_reducible rfl)
      try simp only [List.getElem_toArray, List.getElem_cons_succ, List.getElem_cons_zero, Act.put, List.setIfInBounds_toArray, List.set_cons_zero, List.set_cons_succ]
      refine mixs_take 2 (v := ?_) rfl (by kernel_rfl) (fun _ _ _ h => h) (by kernel_rfl) (by assumption) (fun s => ?hy) ?_; case hy => (go_simp <;> with_reducible rfl)
      try simp only [List.getElem_toArray, List.getElem_cons_succ, List.getElem_cons_zero, Act.put, List.setIfInBounds_toArray, List.set_cons_zero, List.set_cons_succ]
      refine mixs_take 3 (v := ?_) rfl (by kernel_rfl) (fun _ _ _ h => h) (by kernel_rfl) (by assumption) (fun s => ?hy) ?_; case hy => (go_simp <;> with_reducible rfl)
      try simp only [List.getElem_toArray, List.getElem_cons_succ, List.getElem_cons_zero, Act.put, List.setIfInBounds_toArray, List.set_cons_zero, List.set_cons_succ]
      refine mixs_take 4 (v := ?_) rfl (by kernel_rfl) (fun _ _ _ h => h) (by kernel_rfl) (by assumption) (fun s => ?hy) ?_; case hy => (go_simp <;> with_reducible rfl)
      try simp only [List.getElem_toArray, List.getElem_cons_succ, List.getElem_cons_zero, Act.put, List.setIfInBounds_toArray, List.set_cons_zero, List.set_cons_succ]
      refine mixs_take 5 (v := ?_) rfl (by kernel_rfl) (fun _ _ _ h => h) (by kernel_rfl) (by assumption) (fun s => ?hy) ?_; case hy => (go_simp <;> with_reducible rfl)
      try simp only [List.getElem_toArray, List.getElem_cons_succ, List.getElem_cons_zero, Act.put, List.setIfInBounds_toArray, List.set_cons_zero, List.set_cons_succ]
      refine mixs_take 7 (v := ?_) rfl (by kernel_rfl) (fun _ _ _ h => h) (by kernel_rfl) (by assumption) (fun s => ?hy) ?_; case hy => (go_simp <;> with_reducible rfl)
      try simp only [List.getElem_toArray, List.getElem_cons_succ, List.getElem_cons_zero, Act.put, List.setIfInBounds_toArray, List.set_cons_zero, List.set_cons_succ]
      refine mixs_take 8 (v := ?_) rfl (by kernel_rfl) (fun _ _ _ h => h) (by kernel_rfl) (by assumption) (fun s => ?hy) ?_; case hy => (go_simp <;> with_reducible rfl)
      try simp only [List.getElem_toArray, List.getElem_cons_succ, List.getElem_cons_zero, Act.put, List.setIfInBounds_toArray, List.set_cons_zero, List.set_cons_succ]
      refine mixs_one 6 (by kernel_rfl) rfl (fun K hK => ?_)
      ( first | (go_at_call 16; have q2 := shAt_st (s := ⟨nx, M, D⟩) hS 2 3 4 rfl rfl rfl; have q3 : World.cell? _ ⟨g, 0, none⟩ = some (.int .i64 nx) := hS.cell 2 rfl 0; (with_reducible refine (cS0.out g gm _ _ _ q2 q3 (hLC.out.below hS.below) (hLD.out.below hS.below)).mono ?_); clear q2 q3; rintro _ w3 ⟨rfl, hk9⟩; have hS1 := hS.keepB hk9; clear hk9 hS; have hS := hS1; clear hS1) | (go_at_call 15; have q1 := hS.preM (A := [_, _]) (B := shA g gm ⟨nx, M, D⟩ da1 dc1 ++ [rsB g2 ⟨nx, M, D⟩ ca cc da dc]) (R := []); have q2 : ∀ W, Fr (feet (shA g gm ⟨nx, M, D⟩ da1 dc1 ++ [rsB g2 ⟨nx, M, D⟩ ca cc da dc])) _ W → LC W ⟨nx, M, D⟩ ca cc ∧ LD W ⟨nx, M, D⟩ da dc := fun W k => ⟨hLC.out.below (hS.offM (A := [_, _]) (B := shA g gm ⟨nx, M, D⟩ da1 dc1 ++ [rsB g2 ⟨nx, M, D⟩ ca cc da dc]) (R := []) k).below, hLD.out.below (hS.offM (A := [_, _]) (B := shA g gm ⟨nx, M, D⟩ da1 dc1 ++ [rsB g2 ⟨nx, M, D⟩ ca cc da dc]) (R := []) k).below⟩; (with_reducible refine (cD.out g gm g2 da1 dc1 _ q1 hok.out (ht.out.fr hS.fr (by simp)) (htf.out _ hS) q2).mono ?_); clear q1 q2; rintro _ w3 ⟨rfl, da2, dc2, ca2, cc2, ra2, rc2, L1, hk9, hKL⟩; have hRL1 := (RsL.old hLC.out hLD.out).step hKL; rw [List.append_nil] at hRL1; replace hRL1 := Lib.hid hRL1; clear hKL; have hS1 := hS.callM (A := [_, _]) (B := shA g gm ⟨nx, M, D⟩ da1 dc1 ++ [rsB g2 ⟨nx, M, D⟩ ca cc da dc]) (R := []) hk9; rw [List.append_nil] at hS1; clear hS hk9; have hS := hS1; clear hS1) | (go_at_call 16; have q1 := hRL1.out.at (A := [_, _] ++ (shA g gm ((ShS.mk nx M D).act kd id sq p) da2 dc2 ++ [rsB g2 ((ShS.mk nx M D).act kd id sq p) ca2 cc2 ra2 rc2])) hS; have q2 := shAt_st (s := (ShS.mk nx M D).act kd id sq p) hS 2 3 4 rfl rfl rfl; have q3 : World.cell? _ ⟨g, 0, none⟩ = some (.int .i64 ((ShS.mk nx M D).act kd id sq p).next) := hS.cell 2 rfl 0; (with_reducible refine (cS1.out g gm _ _ _ _ _ _ _ q2 q3 q1.1 q1.2).mono ?_); clear q1 q2 q3; rintro _ w3 ⟨rfl, hk9⟩; have hS1 := hS.keepB hk9; clear hk9 hS; have hS := hS1; clear hS1) | (refine op_loadall_st (by kernel_rfl) 5 hS rfl rfl rfl (by simp [rowB, go_sem]) (by kernel_rfl) ?_) | (go_at_call 8; (with_reducible refine (cA.out _ (ht.out.fr hS.fr (by simp))).mono ?_); rintro _ w3 ⟨rfl, hk9⟩; have hS1 := hS.keepB hk9; clear hk9 hS; have hS := hS1; clear hS1) )
      try clear hC
      refine hK.out _ _ _ (fun _ h => h) (by first | exact hS | exact hS.drop | exact hS.drop.drop | exact hS.drop.drop.drop | exact hS.drop.drop.drop.drop | exact hS.empty | exact hS.one 0 rfl | exact hS.one 1 rfl | exact hS.one 2 rfl | exact hS.one 3 rfl | exact hS.one 4 rfl | exact hS.one 5 rfl | exact hS.one 6 rfl | exact hS.one 7 rfl | exact hS.one 8 rfl | exact hS.one 9 rfl | exact hS.one 10 rfl | exact hS.one 11 rfl) (fun hC => ?_)
      clear hK K
      try simp only [List.getElem_toArray, List.getElem_cons_succ, List.getElem_cons_zero, Act.put, List.setIfInBounds_toArray, List.set_cons_zero, List.set_cons_succ]
      refine mixs_one 9 (by kernel_rfl) rfl (fun K hK => ?_)
      go_simp
      ( first | (go_at_call 16; have q2 := shAt_st (s := ⟨nx, M, D⟩) hS 2 3 4 rfl rfl rfl; have q3 : World.cell? _ ⟨g, 0, none⟩ = some (.int .i64 nx) := hS.cell 2 rfl 0; (with_reducible refine (cS0.out g gm _ _ _ q2 q3 (hLC.out.below hS.below) (hLD.out.below hS.below)).mono ?_); clear q2 q3; rintro _ w3 ⟨rfl, hk9⟩; have hS1 := hS.keepB hk9; clear hk9 hS; have hS := hS1; clear hS1) | (go_at_call 15; have q1 := hS.preM (A := [_, _]) (B := shA g gm ⟨nx, M, D⟩ da1 dc1 ++ [rsB g2 ⟨nx, M, D⟩ ca cc da dc]) (R := []); have q2 : ∀ W, Fr (feet (shA g gm ⟨nx, M, D⟩ da1 dc1 ++ [rsB g2 ⟨nx, M, D⟩ ca cc da dc])) _ W → LC W ⟨nx, M, D⟩ ca cc ∧ LD W ⟨nx, M, D⟩ da dc := fun W k => ⟨hLC.out.below (hS.offM (A := [_, _]) (B := shA g gm ⟨nx, M, D⟩ da1 dc1 ++ [rsB g2 ⟨nx, M, D⟩ ca cc da dc]) (R := []) k).below, hLD.out.below (hS.offM (A := [_, _]) (B := shA g gm ⟨nx, M, D⟩ da1 dc1 ++ [rsB g2 ⟨nx, M, D⟩ ca cc da dc]) (R := []) k).below⟩; (with_reducible refine (cD.out g gm g2 da1 dc1 _ q1 hok.out (ht.out.fr hS.fr (by simp)) (htf.out _ hS) q2).mono ?_); clear q1 q2; rintro _ w3 ⟨rfl, da2, dc2, ca2, cc2, ra2, rc2, L1, hk9, hKL⟩; have hRL1 := (RsL.old hLC.out hLD.out).step hKL; rw [List.append_nil] at hRL1; replace hRL1 := Lib.hid hRL1; clear hKL; have hS1 := hS.callM (A := [_, _]) (B := shA g gm ⟨nx, M, D⟩ da1 dc1 ++ [rsB g2 ⟨nx, M, D⟩ ca cc da dc]) (R := []) hk9; rw [List.append_nil] at hS1; clear hS hk9; have hS := hS1; clear hS1) | (go_at_call 16; have q1 := hRL1.out.at (A := [_, _] ++ (shA g gm ((ShS.mk nx M D).act kd id sq p) da2 dc2 ++ [rsB g2 ((ShS.mk nx M D).act kd id sq p) ca2 cc2 ra2 rc2])) hS; have q2 := shAt_st (s := (ShS.mk nx M D).act kd id sq p) hS 2 3 4 rfl rfl rfl; have q3 : World.cell? _ ⟨g, 0, none⟩ = some (.int .i64 ((ShS.mk nx M D).act kd id sq p).next) := hS.cell 2 rfl 0; (with_reducible refine (cS1.out g gm _ _ _ _ _ _ _ q2 q3 q1.1 q1.2).mono ?_); clear q1 q2 q3; rintro _ w3 ⟨rfl, hk9⟩; have hS1 := hS.keepB hk9; clear hk9 hS; have hS := hS1; clear hS1) | (refine op_loadall_st (by kernel_rfl) 5 hS rfl rfl rfl (by simp [rowB, go_sem]) (by kernel_rfl) ?_) | (go_at_call 8; (with_reducible refine (cA.out _ (ht.out.fr hS.fr (by simp))).mono ?_); rintro _ w3 ⟨rfl, hk9⟩; have hS1 := hS.keepB hk9; clear hk9 hS; have hS := hS1; clear hS1) )
      try clear hC
      refine hK.out _ _ _ (fun _ h => h) (by first | exact hS | exact hS.drop | exact hS.drop.drop | exact hS.drop.drop.drop | exact hS.drop.drop.drop.drop | exact hS.empty | exact hS.one 0 rfl | exact hS.one 1 rfl | exact hS.one 2 rfl | exact hS.one 3 rfl | exact hS.one 4 rfl | exact hS.one 5 rfl | exact hS.one 6 rfl | exact hS.one 7 rfl | exact hS.one 8 rfl | exact hS.one 9 rfl | exact hS.one 10 rfl | exact hS.one 11 rfl) (fun hC => ?_)
      clear hK K
      try simp only [List.getElem_toArray, List.getElem_cons_succ, List.getElem_cons_zero, Act.put, List.setIfInBounds_toArray, List.set_cons_zero, List.set_cons_succ]
      refine mixs_take 10 (v := ?_) rfl (by kernel_rfl) (fun _ _ _ h => h) (by kernel_rfl) (by assumption) (fun s => ?hy) ?_; case hy => (go_simp <;> with_reducible rfl)
      try simp only [List.getElem_toArray, List.getElem_cons_succ, List.getElem_cons_zero, Act.put, List.setIfInBounds_toArray, List.set_cons_zero, List.set_cons_succ]
      refine mixs_take 11 (v := ?_) rfl (by kernel_rfl) (fun _ _ _ h => h) (by kernel_rfl) (by assumption) (fun s => ?hy) ?_; case hy => (go_simp <;> with_reducible rfl)
      try simp only [List.getElem_toArray, List.getElem_cons_succ, List.getElem_cons_zero, Act.put, List.setIfInBounds_toArray, List.set_cons_zero, List.set_cons_succ]
      refine mixs_take 12 (v := ?_) rfl (by kernel_rfl) (fun _ _ _ h => h) (by kernel_rfl) (by assumption) (fun s => ?hy) ?_; case hy => (go_simp <;> with_reducible rfl)
      try simp only [List.getElem_toArray, List.getElem_cons_succ, List.getElem_cons_zero, Act.put, List.setIfInBounds_toArray, List.set_cons_zero, List.set_cons_succ]
      refine mixs_take 13 (v := ?_) rfl (by kernel_rfl) (fun _ _ _ h => h) (by kernel_rfl) (by assumption) (fun s => ?hy) ?_; case hy => (refine Eq.trans (take_loadrow s rfl rfl kr) ?_; with_reducible rfl)
      try simp only [List.getElem_toArray, List.getElem_cons_succ, List.getElem_cons_zero, Act.put, List.setIfInBounds_toArray, List.set_cons_zero, List.set_cons_succ]
      refine mixs_one 14 (by kernel_rfl) rfl (fun K hK => ?_)
      go_simp
      ( first | (go_at_call 16; have q2 := shAt_st (s := ⟨nx, M, D⟩) hS 2 3 4 rfl rfl rfl; have q3 : World.cell? _ ⟨g, 0, none⟩ = some (.int .i64 nx) := hS.cell 2 rfl 0; (with_reducible refine (cS0.out g gm _ _ _ q2 q3 (hLC.out.below hS.below) (hLD.out.below hS.below)).mono ?_); clear q2 q3; rintro _ w3 ⟨rfl, hk9⟩; have hS1 := hS.keepB hk9; clear hk9 hS; have hS := hS1; clear hS1) | (go_at_call 15; have q1 := hS.preM (A := [_, _]) (B := shA g gm ⟨nx, M, D⟩ da1 dc1 ++ [rsB g2 ⟨nx, M, D⟩ ca cc da dc]) (R := []); have q2 : ∀ W, Fr (feet (shA g gm ⟨nx, M, D⟩ da1 dc1 ++ [rsB g2 ⟨nx, M, D⟩ ca cc da dc])) _ W → LC W ⟨nx, M, D⟩ ca cc ∧ LD W ⟨nx, M, D⟩ da dc := fun W k => ⟨hLC.out.below (hS.offM (A := [_, _]) (B := shA g gm ⟨nx, M, D⟩ da1 dc1 ++ [rsB g2 ⟨nx, M, D⟩ ca cc da dc]) (R := []) k).below, hLD.out.below (hS.offM (A := [_, _]) (B := shA g gm ⟨nx, M, D⟩ da1 dc1 ++ [rsB g2 ⟨nx, M, D⟩ ca cc da dc]) (R := []) k).below⟩; (with_reducible refine (cD.out g gm g2 da1 dc1 _ q1 hok.out (ht.out.fr hS.fr (by simp)) (htf.out _ hS) q2).mono ?_); clear q1 q2; rintro _ w3 ⟨rfl, da2, dc2, ca2, cc2, ra2, rc2, L1, hk9, hKL⟩; have hRL1 := (RsL.old hLC.out hLD.out).step hKL; rw [List.append_nil] at hRL1; replace hRL1 := Lib.hid hRL1; clear hKL; have hS1 := hS.callM (A := [_, _]) (B := shA g gm ⟨nx, M, D⟩ da1 dc1 ++ [rsB g2 ⟨nx, M, D⟩ ca cc da dc]) (R := []) hk9; rw [List.append_nil] at hS1; clear hS hk9; have hS := hS1; clear hS1) | (go_at_call 16; have q1 := hRL1.out.at (A := [_, _] ++ (shA g gm ((ShS.mk nx M D).act kd id sq p) da2 dc2 ++ [rsB g2 ((ShS.mk nx M D).act kd id sq p) ca2 cc2 ra2 rc2])) hS; have q2 := shAt_st (s := (ShS.mk nx M D).act kd id sq p) hS 2 3 4 rfl rfl rfl; have q3 : World.cell? _ ⟨g, 0, none⟩ = some (.int .i64 ((ShS.mk nx M D).act kd id sq p).next) := hS.cell 2 rfl 0; (with_reducible refine (cS1.out g gm _ _ _ _ _ _ _ q2 q3 q1.1 q1.2).mono ?_); clear q1 q2 q3; rintro _ w3 ⟨rfl, hk9⟩; have hS1 := hS.keepB hk9; clear hk9 hS; have hS := hS1; clear hS1) | (refine op_loadall_st (by kernel_rfl) 5 hS rfl rfl rfl (by simp [rowB, go_sem]) (by kernel_rfl) ?_) | (go_at_call 8; (with_reducible refine (cA.out _ (ht.out.fr hS.fr (by simp))).mono ?_); rintro _ w3 ⟨rfl, hk9⟩; have hS1 := hS.keepB hk9; clear hk9 hS; have hS := hS1; clear hS1) )
      try clear hC
      refine hK.out _ _ _ (fun _ h => h) (by first | exact hS | exact hS.drop | exact hS.drop.drop | exact hS.drop.drop.drop | exact hS.drop.drop.drop.drop | exact hS.empty | exact hS.one 0 rfl | exact hS.one 1 rfl | exact hS.one 2 rfl | exact hS.one 3 rfl | exact hS.one 4 rfl | exact hS.one 5 rfl | exact hS.one 6 rfl | exact hS.one 7 rfl | exact hS.one 8 rfl | exact hS.one 9 rfl | exact hS.one 10 rfl | exact hS.one 11 rfl) (fun hC => ?_)
      clear hK K
      try simp only [List.getElem_toArray, List.getElem_cons_succ, List.getElem_cons_zero, Act.put, List.setIfInBounds_toArray, List.set_cons_zero, List.set_cons_succ]
      refine mixs_take 15 (v := ?_) rfl (by kernel_rfl) (fun _ _ _ h => h) (by kernel_rfl) (by assumption) (fun s => ?hy) ?_; case hy => (go_simp <;> with_reducible rfl)
      try simp only [List.getElem_toArray, List.getElem_cons_succ, List.getElem_cons_zero, Act.put, List.setIfInBounds_toArray, List.set_cons_zero, List.set_cons_succ]
      refine mixs_take 16 (v := ?_) rfl (by kernel_rfl) (fun _ _ _ h => h) (by kernel_rfl) (by assumption) (fun s => ?hy) ?_; case hy => (go_simp <;> with_reducible rfl)
      try simp only [List.getElem_toArray, List.getElem_cons_succ, List.getElem_cons_zero, Act.put, List.setIfInBounds_toArray, List.set_cons_zero, List.set_cons_succ]
      refine mixs_take 17 (v := ?_) rfl (by kernel_rfl) (fun _ _ _ h => h) (by kernel_rfl) (by assumption) (fun s => ?hy) ?_; case hy => (go_simp <;> with_reducible rfl)
      try simp only [List.getElem_toArray, List.getElem_cons_succ, List.getElem_cons_zero, Act.put, List.setIfInBounds_toArray, List.set_cons_zero, List.set_cons_succ]
      refine mixs_take 18 (v := ?_) rfl (by kernel_rfl) (fun _ _ _ h => h) (by kernel_rfl) (by assumption) (fun s => ?hy) ?_; case hy => (go_simp <;> with_reducible rfl)
      try simp only [List.getElem_toArray, List.getElem_cons_succ, List.getElem_cons_zero, Act.put, List.setIfInBounds_toArray, List.set_cons_zero, List.set_cons_succ]
      refine mixs_take 19 (v := ?_) rfl (by kernel_rfl) (fun _ _ _ h => h) (by kernel_rfl) (by assumption) (fun s => ?hy) ?_; case hy => (go_simp <;> with_reducible rfl)
      try simp only [List.getElem_toArray, List.getElem_cons_succ, List.getElem_cons_zero, Act.put, List.setIfInBounds_toArray, List.set_cons_zero, List.set_cons_succ]
      refine mixs_take 21 (v := ?_) rfl (by kernel_rfl) (fun _ _ _ h => h) (by kernel_rfl) (by assumption) (fun s => ?hy) ?_; case hy => (go_simp <;> with_reducible rfl)
      try simp only [List.getElem_toArray, List.getElem_cons_succ, List.getElem_cons_zero, Act.put, List.setIfInBounds_toArray, List.set_cons_zero, List.set_cons_succ]
      refine mixs_take 22 (v := ?_) rfl (by kernel_rfl) (fun _ _ _ h => h) (by kernel_rfl) (by assumption) (fun s => ?hy) ?_; case hy => (go_simp <;> with_reducible rfl)
      try simp only [List.getElem_toArray, List.getElem_cons_succ, List.getElem_cons_zero, Act.put, List.setIfInBounds_toArray, List.set_cons_zero, List.set_cons_succ]
      refine mixs_one 20 (by kernel_rfl) rfl (fun K hK => ?_)
      ( first | (go_at_call 16; have q2 := shAt_st (s := ⟨nx, M, D⟩) hS 2 3 4 rfl rfl rfl; have q3 : World.cell? _ ⟨g, 0, none⟩ = some (.int .i64 nx) := hS.cell 2 rfl 0; (with_reducible refine (cS0.out g gm _ _ _ q2 q3 (hLC.out.below hS.below) (hLD.out.below hS.below)).mono ?_); clear q2 q3; rintro _ w3 ⟨rfl, hk9⟩; have hS1 := hS.keepB hk9; clear hk9 hS; have hS := hS1; clear hS1) | (go_at_call 15; have q1 := hS.preM (A := [_, _]) (B := shA g gm ⟨nx, M, D⟩ da1 dc1 ++ [rsB g2 ⟨nx, M, D⟩ ca cc da dc]) (R := []); have q2 : ∀ W, Fr (feet (shA g gm ⟨nx, M, D⟩ da1 dc1 ++ [rsB g2 ⟨nx, M, D⟩ ca cc da dc])) _ W → LC W ⟨nx, M, D⟩ ca cc ∧ LD W ⟨nx, M, D⟩ da dc := fun W k => ⟨hLC.out.below (hS.offM (A := [_, _]) (B := shA g gm ⟨nx, M, D⟩ da1 dc1 ++ [rsB g2 ⟨nx, M, D⟩ ca cc da dc]) (R := []) k).below, hLD.out.below (hS.offM (A := [_, _]) (B := shA g gm ⟨nx, M, D⟩ da1 dc1 ++ [rsB g2 ⟨nx, M, D⟩ ca cc da dc]) (R := []) k).below⟩; (with_reducible refine (cD.out g gm g2 da1 dc1 _ q1 hok.out (ht.out.fr hS.fr (by simp)) (htf.out _ hS) q2).mono ?_); clear q1 q2; rintro _ w3 ⟨rfl, da2, dc2, ca2, cc2, ra2, rc2, L1, hk9, hKL⟩; have hRL1 := (RsL.old hLC.out hLD.out).step hKL; rw [List.append_nil] at hRL1; replace hRL1 := Lib.hid hRL1; clear hKL; have hS1 := hS.callM (A := [_, _]) (B := shA g gm ⟨nx, M, D⟩ da1 dc1 ++ [rsB g2 ⟨nx, M, D⟩ ca cc da dc]) (R := []) hk9; rw [List.append_nil] at hS1; clear hS hk9; have hS := hS1; clear hS1) | (go_at_call 16; have q1 := hRL1.out.at (A := [_, _] ++ (shA g gm ((ShS.mk nx M D).act kd id sq p) da2 dc2 ++ [rsB g2 ((ShS.mk nx M D).act kd id sq p) ca2 cc2 ra2 rc2])) hS; have q2 := shAt_st (s := (ShS.mk nx M D).act kd id sq p) hS 2 3 4 rfl rfl rfl; have q3 : World.cell? _ ⟨g, 0, none⟩ = some (.int .i64 ((ShS.mk nx M D).act kd id sq p).next) := hS.cell 2 rfl 0; (with_reducible refine (cS1.out g gm _ _ _ _ _ _ _ q2 q3 q1.1 q1.2).mono ?_); clear q1 q2 q3; rintro _ w3 ⟨rfl, hk9⟩; have hS1 := hS.keepB hk9; clear hk9 hS; have hS := hS1; clear hS1) | (refine op_loadall_st (by kernel_rfl) 5 hS rfl rfl rfl (by simp [rowB, go_sem]) (by kernel_rfl) ?_) | (go_at_call 8; (with_reducible refine (cA.out _ (ht.out.fr hS.fr (by simp))).mono ?_); rintro _ w3 ⟨rfl, hk9⟩; have hS1 := hS.keepB hk9; clear hk9 hS; have hS := hS1; clear hS1) )
      try clear hC
      refine hK.out _ _ _ (fun _ h => h) (by first | exact hS | exact hS.drop | exact hS.drop.drop | exact hS.drop.drop.drop | exact hS.drop.drop.drop.drop | exact hS.empty | exact hS.one 0 rfl | exact hS.one 1 rfl | exact hS.one 2 rfl | exact hS.one 3 rfl | exact hS.one 4 rfl | exact hS.one 5 rfl | exact hS.one 6 rfl | exact hS.one 7 rfl | exact hS.one 8 rfl | exact hS.one 9 rfl | exact hS.one 10 rfl | exact hS.one 11 rfl) (fun hC => ?_)
      clear hK K
      try simp only [List.getElem_toArray, List.getElem_cons_succ, List.getElem_cons_zero, Act.put, List.setIfInBounds_toArray, List.set_cons_zero, List.set_cons_succ]
      refine mixs_one 23 (by kernel_rfl) rfl (fun K hK => ?_)
      go_simp
      ( first | (go_at_call 16; have q2 := shAt_st (s := ⟨nx, M, D⟩) hS 2 3 4 rfl rfl rfl; have q3 : World.cell? _ ⟨g, 0, none⟩ = some (.int .i64 nx) := hS.cell 2 rfl 0; (with_reducible refine (cS0.out g gm _ _ _ q2 q3 (hLC.out.below hS.below) (hLD.out.below hS.below)).mono ?_); clear q2 q3; rintro _ w3 ⟨rfl, hk9⟩; have hS1 := hS.keepB hk9; clear hk9 hS; have hS := hS1; clear hS1) | (go_at_call 15; have q1 := hS.preM (A := [_, _]) (B := shA g gm ⟨nx, M, D⟩ da1 dc1 ++ [rsB g2 ⟨nx, M, D⟩ ca cc da dc]) (R := []); have q2 : ∀ W, Fr (feet (shA g gm ⟨nx, M, D⟩ da1 dc1 ++ [rsB g2 ⟨nx, M, D⟩ ca cc da dc])) _ W → LC W ⟨nx, M, D⟩ ca cc ∧ LD W ⟨nx, M, D⟩ da dc := fun W k => ⟨hLC.out.below (hS.offM (A := [_, _]) (B := shA g gm ⟨nx, M, D⟩ da1 dc1 ++ [rsB g2 ⟨nx, M, D⟩ ca cc da dc]) (R := []) k).below, hLD.out.below (hS.offM (A := [_, _]) (B := shA g gm ⟨nx, M, D⟩ da1 dc1 ++ [rsB g2 ⟨nx, M, D⟩ ca cc da dc]) (R := []) k).below⟩; (with_reducible refine (cD.out g gm g2 da1 dc1 _ q1 hok.out (ht.out.fr hS.fr (by simp)) (htf.out _ hS) q2).mono ?_); clear q1 q2; rintro _ w3 ⟨rfl, da2, dc2, ca2, cc2, ra2, rc2, L1, hk9, hKL⟩; have hRL1 := (RsL.old hLC.out hLD.out).step hKL; rw [List.append_nil] at hRL1; replace hRL1 := Lib.hid hRL1; clear hKL; have hS1 := hS.callM (A := [_, _]) (B := shA g gm ⟨nx, M, D⟩ da1 dc1 ++ [rsB g2 ⟨nx, M, D⟩ ca cc da dc]) (R := []) hk9; rw [List.append_nil] at hS1; clear hS hk9; have hS := hS1; clear hS1) | (go_at_call 16; have q1 := hRL1.out.at (A := [_, _] ++ (shA g gm ((ShS.mk nx M D).act kd id sq p) da2 dc2 ++ [rsB g2 ((ShS.mk nx M D).act kd id sq p) ca2 cc2 ra2 rc2])) hS; have q2 := shAt_st (s := (ShS.mk nx M D).act kd id sq p) hS 2 3 4 rfl rfl rfl; have q3 : World.cell? _ ⟨g, 0, none⟩ = some (.int .i64 ((ShS.mk nx M D).act kd id sq p).next) := hS.cell 2 rfl 0; (with_reducible refine (cS1.out g gm _ _ _ _ _ _ _ q2 q3 q1.1 q1.2).mono ?_); clear q1 q2 q3; rintro _ w3 ⟨rfl, hk9⟩; have hS1 := hS.keepB hk9; clear hk9 hS; have hS := hS1; clear hS1) | (refine op_loadall_st (by kernel_rfl) 5 hS rfl rfl rfl (by simp [rowB, go_sem]) (by kernel_rfl) ?_) | (go_at_call 8; (with_reducible refine (cA.out _ (ht.out.fr hS.fr (by simp))).mono ?_); rintro _ w3 ⟨rfl, hk9⟩; have hS1 := hS.keepB hk9; clear hk9 hS; have hS := hS1; clear hS1) )
      try clear hC
      refine hK.out _ _ _ (fun _ h => h) (by first | exact hS | exact hS.drop | exact hS.drop.drop | exact hS.drop.drop.drop | exact hS.drop.drop.drop.drop | exact hS.empty | exact hS.one 0 rfl | exact hS.one 1 rfl | exact hS.one 2 rfl | exact hS.one 3 rfl | exact hS.one 4 rfl | exact hS.one 5 rfl | exact hS.one 6 rfl | exact hS.one 7 rfl | exact hS.one 8 rfl | exact hS.one 9 rfl | exact hS.one 10 rfl | exact hS.one 11 rfl) (fun hC => ?_)
      clear hK K
      try simp only [List.getElem_toArray, List.getElem_cons_succ, List.getElem_cons_zero, Act.put, List.setIfInBounds_toArray, List.set_cons_zero, List.set_cons_succ]
      refine mixs_take 24 (v := ?_) rfl (by kernel_rfl) (fun _ _ _ h => h) (by kernel_rfl) (by assumption) (fun s => ?hy) ?_; case hy => (go_simp <;> with_reducible rfl)
      try simp only [List.getElem_toArray, List.getElem_cons_succ, List.getElem_cons_zero, Act.put, List.setIfInBounds_toArray, List.set_cons_zero, List.set_cons_succ]
      refine mixs_take 25 (v := ?_) rfl (by kernel_rfl) (fun _ _ _ h => h) (by kernel_rfl) (by assumption) (fun s => ?hy) ?_; case hy => (go_simp <;> with_reducible rfl)
      try simp only [List.getElem_toArray, List.getElem_cons_succ, List.getElem_cons_zero, Act.put, List.setIfInBounds_toArray, List.set_cons_zero, List.set_cons_succ]
      refine mixs_take 26 (v := ?_) rfl (by kernel_rfl) (fun _ _ _ h => h) (by kernel_rfl) (by assumption) (fun s => ?hy) ?_; case hy => (go_simp <;> with_reducible rfl)
      try simp only [List.getElem_toArray, List.getElem_cons_succ, List.getElem_cons_zero, Act.put, List.setIfInBounds_toArray, List.set_cons_zero, List.set_cons_succ]
      refine mixs_one 27 (by kernel_rfl) rfl (fun K hK => ?_)
      go_simp
      ( first | (go_at_call 16; have q2 := shAt_st (s := ⟨nx, M, D⟩) hS 2 3 4 rfl rfl rfl; have q3 : World.cell? _ ⟨g, 0, none⟩ = some (.int .i64 nx) := hS.cell 2 rfl 0; (with_reducible refine (cS0.out g gm _ _ _ q2 q3 (hLC.out.below hS.below) (hLD.out.below hS.below)).mono ?_); clear q2 q3; rintro _ w3 ⟨rfl, hk9⟩; have hS1 := hS.keepB hk9; clear hk9 hS; have hS := hS1; clear hS1) | (go_at_call 15; have q1 := hS.preM (A := [_, _]) (B := shA g gm ⟨nx, M, D⟩ da1 dc1 ++ [rsB g2 ⟨nx, M, D⟩ ca cc da dc]) (R := []); have q2 : ∀ W, Fr (feet (shA g gm ⟨nx, M, D⟩ da1 dc1 ++ [rsB g2 ⟨nx, M, D⟩ ca cc da dc])) _ W → LC W ⟨nx, M, D⟩ ca cc ∧ LD W ⟨nx, M, D⟩ da dc := fun W k => ⟨hLC.out.below (hS.offM (A := [_, _]) (B := shA g gm ⟨nx, M, D⟩ da1 dc1 ++ [rsB g2 ⟨nx, M, D⟩ ca cc da dc]) (R := []) k).below, hLD.out.below (hS.offM (A := [_, _]) (B := shA g gm ⟨nx, M, D⟩ da1 dc1 ++ [rsB g2 ⟨nx, M, D⟩ ca cc da dc]) (R := []) k).below⟩; (with_reducible refine (cD.out g gm g2 da1 dc1 _ q1 hok.out (ht.out.fr hS.fr (by simp)) (htf.out _ hS) q2).mono ?_); clear q1 q2; rintro _ w3 ⟨rfl, da2, dc2, ca2, cc2, ra2, rc2, L1, hk9, hKL⟩; have hRL1 := (RsL.old hLC.out hLD.out).step hKL; rw [List.append_nil] at hRL1; replace hRL1 := Lib.hid hRL1; clear hKL; have hS1 := hS.callM (A := [_, _]) (B := shA g gm ⟨nx, M, D⟩ da1 dc1 ++ [rsB g2 ⟨nx, M, D⟩ ca cc da dc]) (R := []) hk9; rw [List.append_nil] at hS1; clear hS hk9; have hS := hS1; clear hS1) | (go_at_call 16; have q1 := hRL1.out.at (A := [_, _] ++ (shA g gm ((ShS.mk nx M D).act kd id sq p) da2 dc2 ++ [rsB g2 ((ShS.mk nx M D).act kd id sq p) ca2 cc2 ra2 rc2])) hS; have q2 := shAt_st (s := (ShS.mk nx M D).act kd id sq p) hS 2 3 4 rfl rfl rfl; have q3 : World.cell? _ ⟨g, 0, none⟩ = some (.int .i64 ((ShS.mk nx M D).act kd id sq p).next) := hS.cell 2 rfl 0; (with_reducible refine (cS1.out g gm _ _ _ _ _ _ _ q2 q3 q1.1 q1.2).mono ?_); clear q1 q2 q3; rintro _ w3 ⟨rfl, hk9⟩; have hS1 := hS.keepB hk9; clear hk9 hS; have hS := hS1; clear hS1) | (refine op_loadall_st (by kernel_rfl) 5 hS rfl rfl rfl (by simp [rowB, go_sem]) (by kernel_rfl) ?_) | (go_at_call 8; (with_reducible refine (cA.out _ (ht.out.fr hS.fr (by simp))).mono ?_); rintro _ w3 ⟨rfl, hk9⟩; have hS1 := hS.keepB hk9; clear hk9 hS; have hS := hS1; clear hS1) )
      try clear hC
      refine hK.out _ _ _ (fun _ h => h) (by first | exact hS | exact hS.drop | exact hS.drop.drop | exact hS.drop.drop.drop | exact hS.drop.drop.drop.drop | exact hS.empty | exact hS.one 0 rfl | exact hS.one 1 rfl | exact hS.one 2 rfl | exact hS.one 3 rfl | exact hS.one 4 rfl | exact hS.one 5 rfl | exact hS.one 6 rfl | exact hS.one 7 rfl | exact hS.one 8 rfl | exact hS.one 9 rfl | exact hS.one 10 rfl | exact hS.one 11 rfl) (fun hC => ?_)
      clear hK K
      try simp only [List.getElem_toArray, List.getElem_cons_succ, List.getElem_cons_zero, Act.put, List.setIfInBounds_toArray, List.set_cons_zero, List.set_cons_succ]
      refine mixs_take 28 (v := ?_) rfl (by kernel_rfl) (fun _ _ _ h => h) (by kernel_rfl) (by assumption) (fun s => ?hy) ?_; case hy => (go_simp <;> with_reducible rfl)
      try simp only [List.getElem_toArray, List.getElem_cons_succ, List.getElem_cons_zero, Act.put, List.setIfInBounds_toArray, List.set_cons_zero, List.set_cons_succ]
      refine mixs_take 29 (v := ?_) rfl (by kernel_rfl) (fun _ _ _ h => h) (by kernel_rfl) (by assumption) (fun s => ?hy) ?_; case hy => (go_simp <;> with_reducible rfl)
      try simp only [List.getElem_toArray, List.getElem_cons_succ, List.getElem_cons_zero, Act.put, List.setIfInBounds_toArray, List.set_cons_zero, List.set_cons_succ]
      refine wpAnyH_done (by kernel_rfl) ?_ _
      clear kC kr
      go_wp2_with fail
      go_ret
      exact ⟨rfl, hS.below⟩
end Go.Proofs.YtneolmnpebiifaaDoor
end
