/- Texts laid together: QueueColl QueueDone1 QueueIdx QueueDel QueueDone QueueRDone QueueTo Open Open2 Open3 CardOpen CardLaw1 CardShows QueueOpen QueueSkip QueueAwake QueueLaw QueueChain. -/
import Derived.ProofKit
import Derived.OpenShut
import Derived.ShutString
import Derived.ChangeSlices
import Derived.Test.YtplgpbbghhlbjaaM1
import Derived.Test.YtplgpbbghhlbjaaM2
import Derived.Test.YtplgpbbghhlbjaaM3
import Derived.Test.YtplgpbbghhlbjaaM4
section
/- slices.AppendSeq, slices.Collect of writes. -/
set_option linter.unusedSimpArgs false
set_option linter.unusedVariables false
namespace Go.Proofs.Ytplgpbbghhlbjaa
open Go.RowKit Go.Ofp
set_option linter.unusedVariables false
set_option maxRecDepth 100000
set_option maxHeartbeats 4000000

attribute [local go_sem] Oper.semAt_some in
theorem apseqw_any (gf : Nat) (lb : Array Value) (eg : ∀ args w, (callFunc gf args).run Try.prog w = .ok (.enter gf args) w) (l : List Wr) (hl : ∀ q ∈ l, q.p.f.length = 8) (hl1 : l.length ≤ 1000) (Bn n0 : Nat) (Zs : List Nat) (w : World) (hn0 : n0 ≤ w.heap.size) (hBn : Bn < w.heap.size) (hZs : ∀ z ∈ Zs, z < w.heap.size)
    (hs : GivesZ Fence.wide 9 Try.prog gf lb (l.map fun q => .agg (wrRow q).toArray) n0 Bn Zs w) :
    Calls Try.prog 90 #[.slice none 0 0, .func (.func gf) #[] lb] w fun e w' => ∃ a c, e = .returned (.slice a l.length c) ∧ l.length ≤ c ∧ c ≤ maxLen ∧ St w [Bn] [Ch.row 46 28 (.slice a l.length c) l.length (qRow l)] w' := by
  have ew := elem_wr
  have hS : St w [Bn] [] w := ⟨Fr.refl _ _, by simp, by simp⟩
  refine (callsIn_wide (n := 10)).1 ?_
  refine callsIn_of_wp_marks Try.func90 rfl trivial ?_ rfl
  simp only [Try.ntmps90, List.size_toArray, List.length_cons, List.length_nil, Nat.reduceAdd, Nat.reduceSub, Array.replicate_succ, Array.replicate_zero, List.push_toArray, List.append_toArray, List.nil_append, List.cons_append]
  gi_wp2
  obtain ⟨b2, hb2⟩ : ∃ b2, w.heap.size = b2 := ⟨_, rfl⟩
  obtain ⟨w2, hw2⟩ : ∃ w2, w.alloc (.cells #[.slice none 0 0] 29) = w2 := ⟨_, rfl⟩
  have hS2 := hS.alloc #[.slice none 0 0] 29
  rw [hw2, hb2] at hS2
  rw [hw2, hb2]
  have hS3 := hS2.nilrow 46 28
  have hsz2 : w2.heap.size = b2 + 1 := by rw [← hw2, ← hb2]; simp
  have hs2 : GivesZ Fence.wide 9 Try.prog gf lb (l.map fun q => .agg (wrRow q).toArray) n0 Bn Zs w2 := by
    rw [← hw2]
    exact hs.later ((Below.refl _ w).alloc hn0 _) (fun z hz => Below.heap_alloc _ _ _ (hZs z hz))
  have hcc : ∀ (v : Value) (k : Nat), ∀ c ∈ ([Ch.row 46 28 v k (qRow (l.take k)), Ch.blk b2 29 #[v]] : List Ch), c.cellsy := fun v k => List.forall_mem_cons.2 ⟨Ch.row_cellsy _ _ _ _ _, List.forall_mem_cons.2 ⟨Ch.blk_cellsy _ _ _, fun _ h => absurd h (by simp)⟩⟩
  replace hl := Lib.hid hl
  clear hs hS hS2
  refine wpIn_givesM1 (n := 10) rfl (by decide) (gf := gf) (lb := lb) rfl trivial eg (xs := l.map fun q => .agg (wrRow q).toArray) (n0 := n0) (Bn := Bn) (Zs := Zs) hs2 (by omega) (by omega) (fun z hz => by have := hZs z hz; omega)
    (fun k W => ∃ v, St w [Bn] [Ch.row 46 28 v k (qRow (l.take k)), Ch.blk b2 29 #[v]] W ∧ Bn ∉ feet ([Ch.row 46 28 v k (qRow (l.take k)), Ch.blk b2 29 #[v]] : List Ch) ∧ (∀ z ∈ Zs, z ∉ feet ([Ch.row 46 28 v k (qRow (l.take k)), Ch.blk b2 29 #[v]] : List Ch)) ∧ w2.heap.size ≤ W.heap.size) ?hI ⟨_, hS3, ?nb, ?nz, Nat.le_refl _⟩
    (fun k a1 W => ∃ v g q, l[k]? = some q ∧ a1 = { tmps := #[.slice none 0 0, .func (.func gf) #[] lb, .pointer (some ⟨b2, 0, none⟩), undef, .slice none 0 0, .pointer (some ⟨g, 0, none⟩), .func (.func gf) #[] lb, .agg (wrRow q).toArray, undef, undef, undef, undef, undef], defers := [] } ∧ St w [Bn] (Ch.blk g 46 (wrRow q).toArray :: [Ch.row 46 28 v k (qRow (l.take k)), Ch.blk b2 29 #[v]]) W ∧ Bn ∉ feet (Ch.blk g 46 (wrRow q).toArray :: [Ch.row 46 28 v k (qRow (l.take k)), Ch.blk b2 29 #[v]] : List Ch) ∧ (∀ z ∈ Zs, z ∉ feet (Ch.blk g 46 (wrRow q).toArray :: [Ch.row 46 28 v k (qRow (l.take k)), Ch.blk b2 29 #[v]] : List Ch)) ∧ w2.heap.size ≤ W.heap.size) ?hMid ?assign ?body ?done
  case nb => simp [feet, Ch.row, Ch.blk, Value.ownBlock]; omega
  case nz => intro z hz; have := hZs z hz; simp [feet, Ch.row, Ch.blk, Value.ownBlock]; omega
  case hI =>
    rintro k A C row ⟨v, h1, h2, h3, h4⟩ hg hr
    exact ⟨v, abide_st3 (L := fun _ => [Ch.row 46 28 v k (qRow (l.take k)), Ch.blk b2 29 #[v]]) (by simp) (by omega) (fun _ c hc => ⟨fun hb => h2 (List.mem_flatMap.2 ⟨c, hc, hb⟩), hcc v k c hc⟩) k A C row h1 hg hr, h2, h3, Nat.le_trans h4 hg.size⟩
  case hMid =>
    rintro k a1 k' A C row ⟨v, g, q, e1, e2, h1, h2, h3, h4⟩ hg hr
    exact ⟨v, g, q, e1, e2, abide_st3 (L := fun _ => Ch.blk g 46 (wrRow q).toArray :: [Ch.row 46 28 v k (qRow (l.take k)), Ch.blk b2 29 #[v]]) (by simp) (by omega) (fun _ c hc => ⟨fun hb => h2 (List.mem_flatMap.2 ⟨c, hc, hb⟩), List.forall_mem_cons.2 ⟨Ch.blk_cellsy _ _ _, hcc v k⟩ c hc⟩) k A C row h1 hg hr, h2, h3, Nat.le_trans h4 hg.size⟩
  case assign =>
    rintro yl k x W K ⟨v, h1, h2, h3, h4⟩ hx hK
    rw [List.getElem?_map] at hx
    obtain ⟨q, hq, rfl⟩ := Option.map_eq_some_iff.1 hx
    have ql := wrRow_len q (hl.out q (List.mem_of_getElem? hq))
    have qo := wrRow_one q
    have hown : ∀ g ∈ feet ([Ch.row 46 28 v k (qRow (l.take k)), Ch.blk b2 29 #[v]] : List Ch), w.heap.size ≤ g := by
      intro g hg
      obtain ⟨i, c, hi, hc⟩ := mem_feet.1 hg
      refine ((h1.own i c hi).2 g hc).resolve_left fun h => ?_
      simp at h
      subst h
      exact h2 hg
    have hT := h1.pre [Ch.row 46 28 v k (qRow (l.take k)), Ch.blk b2 29 #[v]] [] rfl
    gi_wp2_with (first
      | (with_reducible refine wpListIn_alloc_st hT rfl rfl ew ?_; intro g w1 hg1 hS1; clear hT; have hT := hS1; clear hS1)
      | ((with_reducible refine wpListIn_storerow_st (m := 28) (vs := wrRow q) 0 hT rfl rfl rfl rfl (by kernel_rfl) rfl ql qo (by kernel_rfl) ?_); intro w1 hS1; clear hT; have hT := hS1; clear hS1; simp only [List.set_cons_zero, List.take_zero, List.nil_append, List.drop_succ_cons, List.drop_zero, List.drop_nil, List.append_nil] at hT))
    obtain ⟨q1, q2, q3, q4⟩ := keeps_of3 (B := w2.heap.size) (Zs := Zs) h1 hown hT (hcc v k) (fun g hg hz => h3 g hz hg) (fun z hz => by have := hZs z hz; omega)
    refine hK _ _ q1 (q2.mono hn0) q3 ⟨v, g, q, hq, rfl, q4, ?_, ?_, Nat.le_trans h4 hT.fr.size⟩
    · intro hb
      have : Bn = g ∨ Bn ∈ feet ([Ch.row 46 28 v k (qRow (l.take k)), Ch.blk b2 29 #[v]] : List Ch) := by simpa [feet, Ch.blk] using hb
      rcases this with e | e
      · omega
      · exact h2 e
    · intro z hz hb
      have := hZs z hz
      have : z = g ∨ z ∈ feet ([Ch.row 46 28 v k (qRow (l.take k)), Ch.blk b2 29 #[v]] : List Ch) := by simpa [feet, Ch.blk] using hb
      rcases this with e | e
      · omega
      · exact h3 z hz e
  case body =>
    rintro yl k x a1 W ⟨v, g, q, e1, rfl, h1, h2, h3, h4⟩ hx
    obtain ⟨av, cv, rfl, -⟩ := h1.row 1 rfl
    have hq8 := hl.out q (List.mem_of_getElem? e1)
    have ql := wrRow_len q hq8
    have hk2 : k < l.length := (List.getElem?_eq_some_iff.1 e1).1
    have hqk : qRow (l.take (k + 1)) = qRow (l.take k) ++ wrRow q := by rw [List.take_succ_eq_append_getElem hk2, qRow_snoc, (List.getElem?_eq_some_iff.1 e1).2]
    have hwo : ∀ u ∈ wrRow q, u.oneCell' = true := fun u hu => List.all_eq_true.1 (wrRow_one q) u hu
    have hcs : sizeB Try.prog 46 (wrRow q).toArray.size = true := by rw [List.size_toArray, ql]; kernel_rfl
    have hb1 := fun W : World => run_build1 (P := Try.prog) W 29 _ Try.underlying29 ew (v := .agg (wrRow q).toArray) (by simp [Value.cells, ql]) (by decide)
    have hrl : (wrRow q).length = 1 * 28 := ql
    have hown : ∀ z ∈ feet (Ch.blk g 46 (wrRow q).toArray :: [Ch.row 46 28 (.slice av k cv) k (qRow (l.take k)), Ch.blk b2 29 #[.slice av k cv]] : List Ch), w.heap.size ≤ z := by
      intro z hz
      obtain ⟨i, c, hi, hc⟩ := mem_feet.1 hz
      refine ((h1.own i c hi).2 z hc).resolve_left fun h => ?_
      simp at h
      subst h
      exact h2 hz
    have hT := h1.pre (Ch.blk g 46 (wrRow q).toArray :: [Ch.row 46 28 (.slice av k cv) k (qRow (l.take k)), Ch.blk b2 29 #[.slice av k cv]]) [] (List.append_nil _).symm
    have hfin : ∀ (v' : Value) (W' : World), St W (feet (Ch.blk g 46 (wrRow q).toArray :: [Ch.row 46 28 (.slice av k cv) k (qRow (l.take k)), Ch.blk b2 29 #[.slice av k cv]])) [Ch.row 46 28 v' (k + 1) (qRow (l.take (k + 1))), Ch.blk b2 29 #[v']] W' → goOnZ n0 w2.heap.size Zs (fun k W => ∃ v, St w [Bn] [Ch.row 46 28 v k (qRow (l.take k)), Ch.blk b2 29 #[v]] W ∧ Bn ∉ feet ([Ch.row 46 28 v k (qRow (l.take k)), Ch.blk b2 29 #[v]] : List Ch) ∧ (∀ z ∈ Zs, z ∉ feet ([Ch.row 46 28 v k (qRow (l.take k)), Ch.blk b2 29 #[v]] : List Ch)) ∧ w2.heap.size ≤ W.heap.size) k W .normal { tmps := #[], defers := [] } W' := by
      intro v' W' hT'
      obtain ⟨q1, q2, q3, q4⟩ := keeps_of3 (B := w2.heap.size) (Zs := Zs) h1 hown hT' (List.forall_mem_cons.2 ⟨Ch.blk_cellsy _ _ _, hcc (.slice av k cv) k⟩) (fun g hg hz => h3 g hz hg) (fun z hz => by have := hZs z hz; omega)
      have hnew : ∀ z, z < W.heap.size → z ∉ feet (Ch.blk g 46 (wrRow q).toArray :: [Ch.row 46 28 (.slice av k cv) k (qRow (l.take k)), Ch.blk b2 29 #[.slice av k cv]] : List Ch) → z ∉ feet ([Ch.row 46 28 v' (k + 1) (qRow (l.take (k + 1))), Ch.blk b2 29 #[v']] : List Ch) := by
        intro z hz hn hb
        obtain ⟨i, c, hi, hc⟩ := mem_feet.1 hb
        rcases (hT'.own i c hi).2 z hc with h | h
        · exact hn h
        · omega
      exact ⟨q1, q2.mono hn0, q3, v', q4, hnew Bn (by omega) h2, fun z hz => hnew z (by have := hZs z hz; omega) (h3 z hz), Nat.le_trans h4 hT'.fr.size⟩
    rw [hqk] at hfin
    replace hfin := Lib.hid hfin
    replace hb1 := Lib.hid hb1
    replace hwo := Lib.hid hwo
    clear hqk hown h1 h2 h3 e1 hx
    generalize wrRow q = RW at *
    gi_wp2_with (first
      | ((with_reducible refine wpListIn_load_st 2 hT rfl rfl rfl rfl ?_ rfl ?_); focus (simp [scalarB, go_sem]; done))
      | ((with_reducible refine wpListIn_loadall_st 0 hT rfl rfl rfl rfl ?_ hcs ?_); focus (simp [rowB, go_sem]; done))
      | (with_reducible refine wpListIn_buildr_st hT rfl hb1.out rfl rfl ?_; intro gs w1 _ hS1; clear hT; have hT := hS1; clear hS1)
      | (gi_at_builtin; refine wpListIn_of_op (fun c h => by cases h) rfl fun K hK => ?_; (refine op_app_st (by kernel_rfl) 2 hT rfl rfl Try.underlying29 ew rfl (Src.slice Try.underlying29 (hT.blksl2 0 rfl) hrl) rfl hwo.out (by omega) (by unfold maxLen; omega) ?_); intro v5 w3 hS1; clear hT; have hT := hS1; clear hS1; simp only [List.set_cons_zero, List.set_cons_succ] at hT; refine hK _ _ ?_; clear hK; obtain ⟨a5, c5, rfl, -⟩ := hT.row 2 rfl)
      | ((with_reducible refine wpListIn_store_st 3 hT rfl rfl rfl rfl (by kernel_rfl) rfl rfl ?_); intro w1 hS1; clear hT; have hT := hS1; clear hS1; simp only [List.set_cons_zero, List.set_cons_succ, List.setIfInBounds_toArray] at hT))
    exact hfin.out _ _ hT.drop.drop
  case done =>
    rintro D W hD ⟨v, h1, h2, h3, h4⟩ hK
    rw [List.length_map, List.take_length] at h1
    obtain ⟨av, cv, rfl, -, -, h5, h6⟩ := h1.row 0 rfl
    gi_wp2_with (first
      | ((with_reducible refine wpListIn_load_st 1 h1 rfl rfl rfl rfl ?_ rfl ?_); focus (simp [scalarB, go_sem]; done)))
    have hR := h1.one 0 rfl
    refine ⟨by simp, .inl ⟨_, _, rfl, run_takeDeferred hK, ?_⟩⟩
    refine ⟨_, results_tmp rfl _ _ _, av, cv, rfl, h5, h6, ?_⟩
    rw [List.length_map] at h2
    exact (abide_st3 (B := w.heap.size) (Bn := Bn) (F := [Bn]) (L := fun _ => [Ch.row 46 28 (.slice av l.length cv) l.length (qRow l)]) (by simp) (Nat.le_refl _) (fun _ c hc => ⟨fun hb => h2 (by simp at hc; subst hc; simp [feet]; exact .inl (by simpa [Ch.row] using hb)), by simp at hc; subst hc; exact Ch.row_cellsy _ _ _ _ _⟩)).put (k := 0) _ hR (by omega) hK rfl

theorem collw_any (gf : Nat) (lb : Array Value) (eg : ∀ args w, (callFunc gf args).run Try.prog w = .ok (.enter gf args) w) (l : List Wr) (hl : ∀ q ∈ l, q.p.f.length = 8) (hl1 : l.length ≤ 1000) (Bn n0 : Nat) (Zs : List Nat) (w : World) (hn0 : n0 ≤ w.heap.size) (hBn : Bn < w.heap.size) (hZs : ∀ z ∈ Zs, z < w.heap.size)
    (hs : GivesZ Fence.wide 9 Try.prog gf lb (l.map fun q => .agg (wrRow q).toArray) n0 Bn Zs w) :
    Calls Try.prog 63 #[.func (.func gf) #[] lb] w fun e w' => ∃ a c, e = .returned (.slice a l.length c) ∧ l.length ≤ c ∧ c ≤ maxLen ∧ St w [Bn] [Ch.row 46 28 (.slice a l.length c) l.length (qRow l)] w' := by
  have cA := Lib.hid (apseqw_any gf lb eg l hl hl1 Bn n0 Zs w hn0 hBn hZs hs)
  clear hs eg
  go_enter Try.func63, Try.ntmps63
  go_wp2_with (go_at_call 90; (with_reducible refine cA.out.mono ?_); rintro _ w3 ⟨a, c, rfl, h1, h2, h3⟩)
  go_ret
  exact ⟨a, c, rfl, h1, h2, h3⟩
end Go.Proofs.Ytplgpbbghhlbjaa
end

section
/- Done's test. -/
set_option linter.unusedSimpArgs false
set_option linter.unusedVariables false
namespace Go.Proofs.Ytplgpbbghhlbjaa
open Go.RowKit Go.Ofp
set_option linter.unusedVariables false
set_option maxRecDepth 100000
set_option maxHeartbeats 4000000

theorem done1_any (q : Wr) (B : Nat) (id : Int) (w : World) (hb : Boxed w B 3 (.int .i64 id)) :
    Calls Try.prog 62 #[.agg (wrRow q).toArray, .pointer (some ⟨B, 0, none⟩)] w fun e w' => e = .returned (.bool (q.id == id)) ∧ Below w.heap.size w w' := by
  have hS := St.start w
  have hc := hb.cell
  obtain ⟨qi, qb, qp⟩ := q
  simp only [wrRow]
  generalize ptRow qp = RP
  go_enter Try.func62, Try.ntmps62
  go_wp2_with (first
    | (with_reducible refine wpList_box_st (L := []) hS rfl rfl rfl ?_; intro g w1 hS1; clear hS; have hS := hS1; clear hS1; have hc2 := hS.old hc (by simp); clear hc)
    | ((with_reducible refine wpList_load_st 0 hS rfl rfl rfl rfl ?_ rfl ?_); focus (simp [scalarB, go_sem]; done)))
  go_ret
  exact ⟨rfl, hS.below⟩
end Go.Proofs.Ytplgpbbghhlbjaa
end

section
/- IndexFunc of writes with Done's test. -/
set_option linter.unusedSimpArgs false
set_option linter.unusedVariables false
namespace Go.Proofs.Ytplgpbbghhlbjaa
open Go.RowKit Go.Ofp
set_option linter.unusedVariables false
set_option maxRecDepth 100000
set_option maxHeartbeats 4000000

theorem idxw_any (l : List Wr) (hl : ∀ q ∈ l, q.p.f.length = 8) (a : Option Addr) (n cap : Nat) (id : Int) (B : Nat) (hn : l.length = n) (hn1 : n ≤ 1000) (w : World) (hs : Sl w a (qRow l)) (hb : Boxed w B 3 (.int .i64 id)) :
    Calls Try.prog 89 #[.slice a n cap, .func (.func 62) #[] #[.pointer (some ⟨B, 0, none⟩)]] w fun e w' => (∃ r : Int, e = .returned (.int .i64 r) ∧ ((r = -1 ∧ ∀ q ∈ l, q.id ≠ id) ∨ (∃ k, ∃ h : k < l.length, r = k ∧ l[k].id = id ∧ ∀ q ∈ l.take k, q.id ≠ id))) ∧ Below w.heap.size w w' := by
  have hS := St.start w
  have cD := Lib.hid (fun (q : Wr) (W : World) (h : Boxed W B 3 (.int .i64 id)) => done1_any q B id W h)
  have lt := (Array.getElem?_eq_some_iff.1 hb).1
  replace hb := Lib.hid hb
  replace hs := Lib.hid hs
  replace hl := Lib.hid hl
  replace hn := Lib.hid hn
  go_enter Try.func89, Try.ntmps89
  go_wp2_with fail
  go_loopg [8] n (fun gk vx wr => ∃ k : Nat, k + gk = n ∧ vx = .int .i64 k ∧ Hid (∀ q ∈ l.take k, q.id ≠ id) ∧ St w [] [] wr)
  case atStart => exact ⟨0, Nat.zero_add _, rfl, Lib.hid (by simp), hS⟩
  case round =>
    clear hS
    obtain ⟨k, hkn, rfl, hr, hS⟩ := hrel
    by_cases hlt : k < n
    · have hkl : k < l.length := by rw [hn.out]; exact hlt
      have q1 := qRow_at l hl.out k hkl
      have q8 := wrRow_len _ (hl.out _ (List.getElem_mem hkl))
      obtain ⟨g2, o2, ha⟩ := Sl.cells hs.out (by intro e; have := congrArg List.length e; rw [qRow_len l hl.out] at this; simp at this; omega)
      subst ha
      have hrg := sl_range (hS.sl hs.out) q1
      have hbr : Boxed wr B 3 (.int .i64 id) := (hS.below.block B lt).trans hb.out
      have cX := Lib.hid (cD.out l[k] wr hbr)
      by_cases he : l[k].id = id
      · have hib : (l[k].id == id) = true := by rw [beq_iff_eq]; exact he
        rw [hib] at cX
        generalize wrRow l[k] = RW at *
        go_wp2_with (first
          | (go_at_call 62; (with_reducible refine cX.out.mono ?_); rintro _ w9 ⟨rfl, hk9⟩; have hS1 := hS.keepB hk9; clear hk9 hS; have hS := hS1; clear hS1)
          | ((with_reducible refine wpList_rangerow (n := 28) hrg rfl rfl rfl (by kernel_rfl) (by kernel_rfl) q8 ?_)))
        go_ret
        exact ⟨⟨k, rfl, .inr ⟨k, hkl, rfl, he, hr.out⟩⟩, hS.below⟩
      · have hib : (l[k].id == id) = false := by rw [beq_eq_false_iff_ne]; exact he
        rw [hib] at cX
        have hnx : ∀ q ∈ l.take (k + 1), q.id ≠ id := by
          intro q hq
          rw [List.take_succ_eq_append_getElem hkl, List.mem_append] at hq
          rcases hq with hq | hq
          · exact hr.out q hq
          · simp at hq; subst hq; exact he
        replace hnx := Lib.hid hnx
        generalize wrRow l[k] = RW at *
        clear he
        go_wp2_with (first
          | (go_at_call 62; (with_reducible refine cX.out.mono ?_); rintro _ w9 ⟨rfl, hk9⟩; have hS1 := hS.keepB hk9; clear hk9 hS; have hS := hS1; clear hS1)
          | ((with_reducible refine wpList_rangerow (n := 28) hrg rfl rfl rfl (by kernel_rfl) (by kernel_rfl) q8 ?_)))
        go_roundg (n - (k + 1))
        case measure => omega
        case rel => exact ⟨k + 1, by omega, by go_num, hnx, hS⟩
    · obtain rfl : k = n := by omega
      have hr2 := hr.out
      rw [List.take_of_length_le (by rw [hn.out]; exact Nat.le_refl _)] at hr2
      replace hr2 := Lib.hid hr2
      go_wp2_with fail
      go_ret
      exact ⟨⟨-1, rfl, .inl ⟨rfl, hr2.out⟩⟩, hS.below⟩
end Go.Proofs.Ytplgpbbghhlbjaa
end

section
/- slices.DeleteFunc of writes, with Done's test, where the first is deleted. -/
set_option linter.unusedSimpArgs false
set_option linter.unusedVariables false
namespace Go.Ofp
theorem notId_next (l : List Wr) (id : Int) (k : Nat) (hk : k < l.length) : notId (l.take (k + 1)) id = notId (l.take k) id ++ if l[k].id = id then [] else [l[k]] := by
  rw [List.take_succ_eq_append_getElem hk, notId_snoc]
theorem ofId_next (l : List Wr) (id : Int) (k : Nat) (hk : k < l.length) : ofId (l.take (k + 1)) id = ofId (l.take k) id ++ if l[k].id = id then [l[k]] else [] := by
  rw [List.take_succ_eq_append_getElem hk, ofId_snoc]
theorem notId_len (l : List Wr) (id : Int) : (notId l id).length ≤ l.length := List.length_filter_le _ _
theorem ofId_len (l : List Wr) (id : Int) : (ofId l id).length ≤ l.length := List.length_filter_le _ _
/-- What stands there while the test goes on: the first i are kept, from k on nothing was touched. -/
structure Kept (l xs : List Wr) (id : Int) (i k : Nat) : Prop where
  len : xs.length = l.length
  le : i < k
  cnt : i = (notId (l.take k) id).length
  fst : xs.take i = notId (l.take k) id
  rest : xs.drop k = l.drop k
theorem Kept.at {l xs : List Wr} {id : Int} {i k : Nat} (h : Kept l xs id i k) (hk : k < l.length) : ∃ hx : k < xs.length, xs[k] = l[k] := by
  have hx : k < xs.length := by rw [h.len]; exact hk
  refine ⟨hx, ?_⟩
  have := congrArg (fun q => q[0]?) h.rest
  simpa [List.getElem?_eq_getElem hx, List.getElem?_eq_getElem hk] using this
theorem Kept.skip {l xs : List Wr} {id : Int} {i k : Nat} (h : Kept l xs id i k) (hk : k < l.length) (he : l[k].id = id) : Kept l xs id i (k + 1) := by
  have := notId_next l id k hk
  rw [if_pos he, List.append_nil] at this
  refine ⟨h.len, by have := h.le; omega, by rw [this]; exact h.cnt, by rw [this]; exact h.fst, ?_⟩
  rw [← List.drop_drop, ← List.drop_drop, h.rest]
theorem Kept.take {l xs : List Wr} {id : Int} {i k : Nat} (h : Kept l xs id i k) (hk : k < l.length) (he : l[k].id ≠ id) : Kept l (xs.take i ++ l[k] :: xs.drop (i + 1)) id (i + 1) (k + 1) := by
  have h1 := notId_next l id k hk
  rw [if_neg he] at h1
  have hlen := h.len
  have hle := h.le
  have hti : (xs.take i).length = i := by rw [List.length_take]; omega
  refine ⟨by simp; omega, by omega, by rw [h1, List.length_append, ← h.cnt]; rfl, ?_, ?_⟩
  · rw [h1, ← h.fst, List.take_append, hti, Nat.add_sub_cancel_left, List.take_of_length_le (by rw [hti]; omega)]
    rfl
  · have hr : xs.drop (k + 1) = l.drop (k + 1) := by rw [← List.drop_drop, ← List.drop_drop, h.rest]
    rw [← hr, List.drop_append, hti, List.drop_eq_nil_of_le (by rw [hti]; omega), List.nil_append]
    rw [show k + 1 - i = (k - i) + 1 by omega, List.drop_succ_cons, List.drop_drop]
    congr 1
    omega
end Go.Ofp
namespace Go.Proofs.Ytplgpbbghhlbjaa
open Go.RowKit Go.Ofp
set_option linter.unusedVariables false
set_option maxRecDepth 100000
set_option maxHeartbeats 4000000

theorem qRow_take (l : List Wr) (h : ∀ q ∈ l, q.p.f.length = 8) (k : Nat) (hk : k ≤ l.length) : (qRow l).take (k * 28) = qRow (l.take k) := by
  have h1 : qRow l = qRow (l.take k) ++ qRow (l.drop k) := by rw [qRow, qRow, qRow, ← List.flatten_append, ← List.map_append, List.take_append_drop]
  have h2 : (qRow (l.take k)).length = k * 28 := by rw [qRow_len _ (fun q hq => h q (List.mem_of_mem_take hq)), List.length_take, Nat.min_eq_left hk]
  rw [h1, List.take_append_of_le_length (by rw [h2]; exact Nat.le_refl _), List.take_of_length_le (by rw [h2]; exact Nat.le_refl _)]
theorem qRow_drop (l : List Wr) (h : ∀ q ∈ l, q.p.f.length = 8) (k : Nat) (hk : k ≤ l.length) : (qRow l).drop (k * 28) = qRow (l.drop k) := by
  have h1 : qRow l = qRow (l.take k) ++ qRow (l.drop k) := by rw [qRow, qRow, qRow, ← List.flatten_append, ← List.map_append, List.take_append_drop]
  have h2 : (qRow (l.take k)).length = k * 28 := by rw [qRow_len _ (fun q hq => h q (List.mem_of_mem_take hq)), List.length_take, Nat.min_eq_left hk]
  rw [h1, List.drop_append_of_le_length (by rw [h2]; exact Nat.le_refl _), List.drop_eq_nil_of_le (by rw [h2]; exact Nat.le_refl _), List.nil_append]
theorem qRow_put (l : List Wr) (h : ∀ q ∈ l, q.p.f.length = 8) (k : Nat) (hk : k < l.length) (x : Wr) : (qRow l).take (k * 28) ++ wrRow x ++ (qRow l).drop (k * 28 + 28) = qRow (l.take k ++ x :: l.drop (k + 1)) := by
  rw [qRow_take l h k (by omega), show k * 28 + 28 = (k + 1) * 28 by omega, qRow_drop l h (k + 1) (by omega)]
  simp [qRow]

theorem del_any (l : List Wr) (hl : ∀ q ∈ l, q.p.f.length = 8) (g n c : Nat) (id : Int) (B : Nat) (hn : l.length = n) (hn1 : n ≤ 1000) (w : World) (hb : Boxed w B 3 (.int .i64 id)) (hBg : B ≠ g) (h : St w [g] [Ch.row 46 28 (.slice (some ⟨g, 0, none⟩) n c) n (qRow l)] w) (hn0 : 0 < l.length) (h0 : l[0].id = id) :
    Calls Try.prog 61 #[.slice (some ⟨g, 0, none⟩) n c, .func (.func 62) #[] #[.pointer (some ⟨B, 0, none⟩)]] w fun e w' => e = .returned (.slice (some ⟨g, 0, none⟩) (notId l id).length c) ∧ St w [g] [Ch.row 46 28 (.slice (some ⟨g, 0, none⟩) (notId l id).length c) (notId l id).length (qRow (notId l id))] w' := by
  have hS := h
  have lt := (Array.getElem?_eq_some_iff.1 hb).1
  have ew := elem_wr
  have cD := Lib.hid (fun (q : Wr) (W : World) (h : Boxed W B 3 (.int .i64 id)) => done1_any q B id W h)
  have cI : Calls Try.prog 89 #[.slice (some ⟨g, 0, none⟩) n c, .func (.func 62) #[] #[.pointer (some ⟨B, 0, none⟩)]] w (fun e w' => e = .returned (.int .i64 0) ∧ Below w.heap.size w w') := by
    refine (idxw_any l hl (some ⟨g, 0, none⟩) n c id B hn hn1 w (hS.rowsl 0 rfl) hb).mono ?_
    rintro e w' ⟨⟨r, rfl, hr⟩, hbel⟩
    refine ⟨?_, hbel⟩
    rcases hr with ⟨-, hr⟩ | ⟨k, hk, rfl, -, hr⟩
    · exact absurd h0 (hr _ (List.getElem_mem hn0))
    · rcases Nat.eq_zero_or_pos k with rfl | hk0
      · rfl
      · exact absurd h0 (hr l[0] (by rw [List.mem_take_iff_getElem]; exact ⟨0, by omega, rfl⟩))
  replace cI := Lib.hid cI
  have hK0 : Kept l l id 0 1 := by
    have h1 := notId_next l id 0 hn0
    rw [if_pos h0] at h1
    have h2 : notId (l.take 1) id = [] := h1.trans (by simp [notId])
    exact ⟨rfl, by omega, by rw [h2]; rfl, by rw [h2]; rfl, rfl⟩
  replace hK0 := Lib.hid hK0
  obtain ⟨_, _, e9, -, -, hnc, hcm⟩ := hS.row 0 rfl
  cases e9
  have hn0' : 0 < n := by omega
  replace hb := Lib.hid hb
  replace hl := Lib.hid hl
  replace hn := Lib.hid hn
  clear h h0 hn0
  go_enter Try.func61, Try.ntmps61
  go_wp2_with (go_at_call 89; (with_reducible refine cI.out.mono ?_); rintro _ w9 ⟨rfl, hk9⟩; have hS1 := hS.keepB hk9; clear hk9 hS; have hS := hS1; clear hS1)
  go_loopg [5, 6] (n - 1) (fun gk vi vk wr => ∃ (i k : Nat) (xs : List Wr), k + gk = n ∧ vi = .int .i64 i ∧ vk = .int .i64 k ∧ Hid (Kept l xs id i k) ∧ Hid (∀ q ∈ xs, q.p.f.length = 8) ∧ k ≤ n ∧ St w [g] [Ch.row 46 28 (.slice (some ⟨g, 0, none⟩) n c) n (qRow xs)] wr)
  case atStart => exact ⟨0, 1, l, by omega, rfl, rfl, hK0, hl, by omega, hS⟩
  case round =>
    clear hS cI
    obtain ⟨i, k, xs, hkn, rfl, rfl, hK, hx8, hkn2, hS⟩ := hrel
    have hik := hK.out.le
    have hxl : xs.length = n := hK.out.len.trans hn.out
    replace hxl := Lib.hid hxl
    by_cases hlt : k < n
    · have hkl : k < l.length := by rw [hn.out]; exact hlt
      obtain ⟨hkx, hxk⟩ := hK.out.at hkl
      have q1 := qRow_at xs hx8.out k hkx
      rw [hxk] at q1
      have hq8 := hl.out _ (List.getElem_mem hkl)
      have q8 := wrRow_len _ hq8
      have q9 := wrRow_one l[k]
      have hput := qRow_put xs hx8.out i (by rw [hxl.out]; omega) l[k]
      have cX := fun (W : World) (h : W.heap[B]? = w.heap[B]?) => cD.out l[k] W (h.trans hb.out)
      have hps : sizeB Try.prog 46 (wrRow l[k]).toArray.size = true := by rw [List.size_toArray, q8]; kernel_rfl
      have hFB : B ∉ [g] := by simpa using hBg
      by_cases he : l[k].id = id
      · have hib : (l[k].id == id) = true := by rw [beq_iff_eq]; exact he
        rw [hib] at cX
        have hK2 := Lib.hid (hK.out.skip hkl he)
        replace cX := Lib.hid cX
        generalize wrRow l[k] = RW at *
        clear hput he hK
        go_wp2_with (first | (go_at_call 62; (with_reducible refine (cX.out _ (hS.fr.block B lt hFB)).mono ?_); rintro _ w9 ⟨rfl, hk9⟩; have hS1 := hS.keepB hk9; clear hk9 hS; have hS := hS1; clear hS1) | ((with_reducible refine wpList_loadelem_st 0 k hS rfl rfl rfl rfl rfl (by kernel_rfl) (by kernel_rfl) q1 q8 ?_)) | (with_reducible refine wpList_alloc_st (L := [_]) hS rfl rfl ew ?_; intro gp w1 hS1; clear hS; have hS := hS1; clear hS1) | ((with_reducible refine wpList_storerow_st (n := 28) (vs := RW) 0 hS rfl rfl rfl rfl (by kernel_rfl) rfl q8 q9 (by kernel_rfl) ?_); intro w1 hS1; clear hS; have hS := hS1; clear hS1; simp only [List.set_cons_zero, List.take_zero, List.nil_append, List.drop_succ_cons, List.drop_zero, List.drop_nil, List.append_nil] at hS) | ((with_reducible refine wpList_loadall_st 0 hS rfl rfl rfl rfl ?_ hps ?_); focus (simp [rowB, go_sem]; done)))
        go_roundg (n - (k + 1))
        case measure => omega
        case rel => exact ⟨i, k + 1, xs, by omega, rfl, by go_num, hK2, hx8, by omega, hS.drop⟩
      · have hib : (l[k].id == id) = false := by rw [beq_eq_false_iff_ne]; exact he
        rw [hib] at cX
        have hK2 := Lib.hid (hK.out.take hkl he)
        have hx2 : Hid (∀ q ∈ xs.take i ++ l[k] :: xs.drop (i + 1), q.p.f.length = 8) := Lib.hid (by
          intro q hq
          rcases List.mem_append.1 hq with hq | hq
          · exact hx8.out q (List.mem_of_mem_take hq)
          · rcases List.mem_cons.1 hq with rfl | hq
            · exact hq8
            · exact hx8.out q (List.mem_of_mem_drop hq))
        replace cX := Lib.hid cX
        generalize l[k] = lk at *
        replace hput := Lib.hid hput
        generalize wrRow lk = RW at *
        clear he hK hib
        go_wp2_with (first
          | (go_at_call 62; (with_reducible refine (cX.out _ (hS.fr.block B lt hFB)).mono ?_); rintro _ w9 ⟨rfl, hk9⟩; have hS1 := hS.keepB hk9; clear hk9 hS; have hS := hS1; clear hS1) | ((with_reducible refine wpList_loadelem_st 0 k hS rfl rfl rfl rfl rfl (by kernel_rfl) (by kernel_rfl) q1 q8 ?_)) | (with_reducible refine wpList_alloc_st (L := [_]) hS rfl rfl ew ?_; intro gp w1 hS1; clear hS; have hS := hS1; clear hS1) | ((with_reducible refine wpList_storerow_st (n := 28) (vs := RW) 0 hS rfl rfl rfl rfl (by kernel_rfl) rfl q8 q9 (by kernel_rfl) ?_); intro w1 hS1; clear hS; have hS := hS1; clear hS1; simp only [List.set_cons_zero, List.take_zero, List.nil_append, List.drop_succ_cons, List.drop_zero, List.drop_nil, List.append_nil] at hS) | ((with_reducible refine wpList_loadall_st 0 hS rfl rfl rfl rfl ?_ hps ?_); focus (simp [rowB, go_sem]; done))
          | ((with_reducible refine wpList_storeelem_st 1 i hS rfl rfl rfl rfl rfl (by kernel_rfl) rfl q8 q9 (by omega) ?_); intro w1 hS1; clear hS; have hS := hS1; clear hS1; simp only [List.set_cons_zero, List.set_cons_succ] at hS))
        go_roundg (n - (k + 1))
        case measure => omega
        case rel => exact ⟨i + 1, k + 1, _, by omega, by go_num, by go_num, hK2, hx2, by omega, by rw [hput.out] at hS; exact hS.drop⟩
    · obtain rfl : k = n := by omega
      have hcnt := hK.out.cnt
      have hfst := hK.out.fst
      have htk : l.take k = l := List.take_of_length_le (by rw [hn.out]; exact Nat.le_refl _)
      rw [htk] at hcnt hfst
      clear htk hK
      obtain ⟨cur, z1, z2, -, -, hS2⟩ := hS.rowblk
      clear hS
      have hS := hS2
      clear hS2
      have hz1 : ∀ u ∈ (Value.agg #[.int .i64 0, .int .i64 0, .int .u32 0, .int .u32 0, .int .i64 0, .int .i64 0, .string ⟨#[]⟩, .int .i64 0, .int .i64 0, .string ⟨#[]⟩, .int .i64 0, .int .i64 0, .string ⟨#[]⟩, .int .i64 0, .int .i64 0, .string ⟨#[]⟩, .int .i64 0, .int .i64 0, .string ⟨#[]⟩, .int .i64 0, .int .i64 0, .string ⟨#[]⟩, .int .i64 0, .int .i64 0, .string ⟨#[]⟩, .int .i64 0, .int .i64 0, .string ⟨#[]⟩]).cells, u.oneCell' = true := by
        intro u hu
        simp only [Value.cells] at hu
        have key : ([.int .i64 0, .int .i64 0, .int .u32 0, .int .u32 0, .int .i64 0, .int .i64 0, .string ⟨#[]⟩, .int .i64 0, .int .i64 0, .string ⟨#[]⟩, .int .i64 0, .int .i64 0, .string ⟨#[]⟩, .int .i64 0, .int .i64 0, .string ⟨#[]⟩, .int .i64 0, .int .i64 0, .string ⟨#[]⟩, .int .i64 0, .int .i64 0, .string ⟨#[]⟩, .int .i64 0, .int .i64 0, .string ⟨#[]⟩, .int .i64 0, .int .i64 0, .string ⟨#[]⟩] : List Value).all Value.oneCell' = true := by rfl
        exact List.all_eq_true.1 key u (by simpa using hu)
      have hcs : i * 28 + (k - i) * 28 ≤ cur.size := by
        rw [z1]
        have : k * 28 ≤ c * 28 := Nat.mul_le_mul_right _ hnc
        omega
      replace hz1 := Lib.hid hz1
      replace hcs := Lib.hid hcs
      replace z1 := Lib.hid z1
      replace z2 := Lib.hid z2
      replace hcnt := Lib.hid hcnt
      replace hfst := Lib.hid hfst
      go_wp2_with ((with_reducible refine wpList_clearblk_st 0 (off := i * 28) (n := k - i) hS rfl rfl rfl Try.underlying29 ew hz1.out rfl hcs.out (by omega) ?_); intro w1 cs' y1 y2 hS1; clear hS; have hS := hS1; clear hS1; simp only [List.set_cons_zero] at hS)
      go_ret
      rw [← hcnt.out]
      refine ⟨rfl, ?_⟩
      have hq := qRow_take xs hx8.out i (by rw [hxl.out]; omega)
      rw [hfst.out] at hq
      refine hS.blkrow2 28 (y1.trans z1.out) (by omega) hcm ?_
      rw [y2, ← hq, ← z2.out, List.take_take, Nat.min_eq_left (by omega)]
end Go.Proofs.Ytplgpbbghhlbjaa
end

section
/- The first write taken away. -/
set_option linter.unusedSimpArgs false
set_option linter.unusedVariables false
namespace Go.Ofp
end Go.Ofp
namespace Go.Proofs.Ytplgpbbghhlbjaa
open Go.RowKit Go.Ofp
set_option linter.unusedVariables false
set_option maxRecDepth 100000
set_option maxHeartbeats 4000000

theorem boxed_st {w0 w : World} {F : List Nat} {L : List Ch} (h : St w0 F L w) (i : Nat) {g t : Nat} {v : Value} (hi : L[i]? = some (Ch.blk g t #[v])) : Boxed w g t v := h.get i hi
theorem ne_st {w0 w : World} {F : List Nat} {L : List Ch} (h : St w0 F L w) (i j : Nat) {g1 g t e s n c m : Nat} {cs : Array Value} {xs : List Value} (hi : L[i]? = some (Ch.row e s (.slice (some ⟨g1, 0, none⟩) n c) m xs)) (hj : L[j]? = some (Ch.blk g t cs)) (hij : i ≠ j) : g ≠ g1 := fun h2 => h.apart i j _ _ hi hj hij g1 (by simp [Ch.row, Value.ownBlock]) (by simp [Ch.blk, h2])
theorem pre_row {w0 w : World} {F : List Nat} {R : List Ch} {g e s n c m : Nat} {xs : List Value} (h : St w0 F (Ch.row e s (.slice (some ⟨g, 0, none⟩) n c) m xs :: R) w) : St w [g] [Ch.row e s (.slice (some ⟨g, 0, none⟩) n c) m xs] w := h.pre [_] R rfl
theorem call_row {w0 w w' : World} {F : List Nat} {A R : List Ch} {g e s n c m : Nat} {xs : List Value} (h : St w0 F (Ch.row e s (.slice (some ⟨g, 0, none⟩) n c) m xs :: R) w) (k : St w [g] A w') : St w0 F (A ++ R) w' := h.call [_] R rfl k
theorem call_blk {w0 w w' : World} {F : List Nat} {A R : List Ch} {g t : Nat} {cs : Array Value} (h : St w0 F (Ch.blk g t cs :: R) w) (k : St w [g] A w') : St w0 F (A ++ R) w' := h.call [_] R rfl k
/-- What Done tells, in old memory. -/
def DoneRet (l : List Wr) (ok : Bool) (w : World) (e : Ending) (w' : World) : Prop := ∃ a1 c1 a2 c2, e = .returned (.tuple #[.slice a1 (doneQ l ok).1.length c1, .slice a2 (doneQ l ok).2.length c2]) ∧ SlQ w' a1 c1 (doneQ l ok).1 ∧ SlQ w' a2 c2 (doneQ l ok).2 ∧ Below w.heap.size w w'
theorem done_nil (ok : Bool) (a : Option Addr) (cap : Nat) (w : World) :
    Calls Try.prog 22 #[.slice a 0 cap, .bool ok] w (DoneRet [] ok w) := by
  have hS := St.start w
  go_enter Try.func22, Try.ntmps22
  go_wp2_with fail
  go_ret2
  exact ⟨none, 0, none, 0, rfl, SlQ.none _, SlQ.none _, hS.below⟩
theorem done_ok (q0 : Wr) (t : List Wr) (hl : ∀ q ∈ q0 :: t, q.p.f.length = 8) (a : Option Addr) (n cap : Nat) (hn : t.length + 1 = n) (hn1 : n ≤ 1000) (w : World) (hs : SlQ w a cap (q0 :: t)) :
    Calls Try.prog 22 #[.slice a n cap, .bool true] w (DoneRet (q0 :: t) true w) := by
  have hS := St.start w
  obtain ⟨hs1, hs2, hnc, hcm⟩ := hs
  cases a with
  | none => exact absurd (hs2 rfl).1 (by simp)
  | some ad =>
    obtain ⟨b, o, ha⟩ := Sl.cells hs1 (by intro e; have := congrArg List.length e; rw [qRow_len _ hl] at this; simp at this)
    cases ha
    have hT : Sl w (some ⟨b, o + 28, none⟩) (qRow t) := by
      have h1 : qRow (q0 :: t) = wrRow q0 ++ qRow t := by simp [qRow]
      have h2 := hs1.drop 28
      rw [h1, List.drop_append_of_le_length (by rw [wrRow_len _ (hl q0 (by simp))]; exact Nat.le_refl _), List.drop_eq_nil_of_le (by rw [wrRow_len _ (hl q0 (by simp))]; exact Nat.le_refl _), List.nil_append] at h2
      exact h2
    have hTc := Sl.cutn (off := o) (k := 1) (cap := cap) hT (by intro e; have : t.length + 1 ≤ cap := hnc; have : t = [] := List.length_eq_zero_iff.1 (by omega); subst this; rfl)
    have cC := clone_any t (fun q hq => hl q (by simp [hq])) _ (n - 1) (cap - 1) (by omega) (by omega) w hTc (by intro e; split at e <;> cases e)
    unfold WrRet at cC
    replace cC := Lib.hid cC
    have hi : (1 : Int) ≤ (n : Int) := by omega
    replace hn := Lib.hid hn
    clear hs1 hs2 hT hTc hl
    go_enter Try.func22, Try.ntmps22
    go_wp2_with (go_at_call 60; (with_reducible refine cC.out.mono ?_); rintro _ w9 ⟨a9, c9, rfl, -, -, hk9⟩)
    all_goals
      go_ret2
      exact ⟨a9, c9, none, 0, rfl, SlQ.row hk9 0 rfl rfl, SlQ.none _, hk9.below⟩
theorem done_no (q0 : Wr) (t : List Wr) (hl : ∀ q ∈ q0 :: t, q.p.f.length = 8) (a : Option Addr) (n cap : Nat) (hn : (q0 :: t).length = n) (hn1 : n ≤ 1000) (w : World) (hs : SlQ w a cap (q0 :: t)) :
    Calls Try.prog 22 #[.slice a n cap, .bool false] w (DoneRet (q0 :: t) false w) := by
  have hS := St.start w
  have hn0 : 0 < n := by rw [← hn]; simp
  have en := elem_n
  obtain ⟨hs1, hs2, hnc, hcm⟩ := hs
  cases a with
  | none => exact absurd (hs2 rfl).1 (by simp)
  | some ad =>
    obtain ⟨b, o, ha⟩ := Sl.cells hs1 (by intro e; have := congrArg List.length e; rw [qRow_len _ hl] at this; simp at this)
    cases ha
    have hr := sl_range hs1 (qRow_at (q0 :: t) hl 0 (by simp))
    have c0 : w.cell? ⟨b, o, none⟩ = some (.int .i64 q0.id) := by have := hr 0 _ rfl; simpa using this
    have cC := fun (W : World) (hb : Below w.heap.size w W) => clone_any (q0 :: t) hl (some ⟨b, o, none⟩) n cap hn hn1 W (hs1.below hb) (by intro e; cases e)
    unfold WrRet at cC
    simp only [hn] at cC
    have cO := fun (id : Int) (W : World) => seqof_any (q0 :: t) (some ⟨b, o, none⟩) n cap id W
    have cD := fun (g c B : Nat) (W : World) (hb : Boxed W B 3 (.int .i64 q0.id)) (hBg : B ≠ g) (h : St W [g] [Ch.row 46 28 (.slice (some ⟨g, 0, none⟩) n c) n (qRow (q0 :: t))] W) => del_any (q0 :: t) hl g n c q0.id B hn hn1 W hb hBg h (by simp) rfl
    have cG := fun (B1 B2 : Nat) (W : World) (hb : Below w.heap.size w W) (h1 : Boxed W B1 29 (.slice (some ⟨b, o, none⟩) n cap)) (h2 : Boxed W B2 3 (.int .i64 q0.id)) => collw_any 88 #[.pointer (some ⟨B1, 0, none⟩), .pointer (some ⟨B2, 0, none⟩)] (Go.Proofs.enters_of Try.func88 (by kernel_rfl) rfl) (ofId (q0 :: t) q0.id) (fun q hq => hl q (List.mem_filter.1 hq).1) (by have := ofId_len (q0 :: t) q0.id; omega) B1 w.heap.size [B1, B2] W hb.size h1.lt (by intro z hz; simp at hz; rcases hz with rfl | rfl; exact h1.lt; exact h2.lt) (of_gives 9 (by decide) (q0 :: t) hl (some ⟨b, o, none⟩) n cap q0.id hn hn1 B1 B2 w W hb h1 h2 hs1)
    have hd1 : (doneQ (q0 :: t) false).1 = notId (q0 :: t) q0.id := rfl
    have hd2 : (doneQ (q0 :: t) false).2 = ofId (q0 :: t) q0.id := rfl
    unfold DoneRet
    rw [hd1, hd2]
    replace cC := Lib.hid cC
    replace cO := Lib.hid cO
    replace cD := Lib.hid cD
    replace cG := Lib.hid cG
    have hi : (0 : Int) < (n : Int) := by omega
    have hi2 : ((n : Int) == 0) = false := by rw [beq_eq_false_iff_ne]; omega
    replace hn := Lib.hid hn
    clear hs1 hs2 hr hl hd1 hd2
    generalize q0.id = id at *
    go_enter Try.func22, Try.ntmps22
    go_wp2_with (first
      | (go_at_call 60; (with_reducible refine (cC.out _ hS.below).mono ?_); rintro _ w9 ⟨a9, c9, rfl, -, -, hk9⟩; have hS1 := hS.made hk9; clear hk9 hS; have hS := hS1; clear hS1; simp only [List.cons_append, List.nil_append] at hS; obtain ⟨g9, c8, e9, -⟩ := hS.rowat 0 rfl hn0; cases e9)
      | (go_at_call 61; (with_reducible refine (cD.out _ _ _ _ (boxed_st hS 1 rfl) (ne_st hS 0 1 rfl rfl (by decide)) (pre_row hS)).mono ?_); rintro _ w9 ⟨rfl, hk9⟩; have hS1 := call_row hS hk9; clear hk9 hS; have hS := hS1; clear hS1; simp only [List.cons_append, List.nil_append] at hS)
      | (go_at_call 59; (with_reducible refine (cO.out _ _).mono ?_); rintro _ w9 ⟨B1, B2, rfl, hk9⟩; have hS1 := hS.made hk9; clear hk9 hS; have hS := hS1; clear hS1; simp only [List.cons_append, List.nil_append] at hS)
      | (go_at_call 63; (with_reducible refine (cG.out _ _ _ hS.below (boxed_st hS 1 rfl) (boxed_st hS 0 rfl)).mono ?_); rintro _ w9 ⟨a9, c7, rfl, -, -, hk9⟩; have hS1 := call_blk hS.swap hk9; clear hk9 hS; have hS := hS1; clear hS1; simp only [List.cons_append, List.nil_append] at hS)
      | (with_reducible refine wpList_box_st hS rfl rfl rfl ?_; intro g1 w1 hS1; clear hS; replace hS := hS1; clear hS1) | (with_reducible refine wpList_box1_st hS rfl rfl rfl ?_; intro g1 w1 hS1; clear hS; replace hS := hS1; clear hS1) | (with_reducible refine wpList_alloc_st hS rfl rfl (by assumption) ?_; intro g1 w1 hS1; clear hS; replace hS := hS1; clear hS1) | (with_reducible refine wpList_alloc1_st hS rfl rfl (by assumption) rfl ?_; intro g1 w1 hS1; clear hS; replace hS := hS1; clear hS1) | ((with_reducible refine wpList_load_st 0 hS rfl rfl rfl rfl ?_ rfl ?_); focus (simp [scalarB, go_sem]; done)) | ((with_reducible refine wpList_loadall_st 0 hS rfl rfl rfl rfl ?_ (by kernel_rfl) ?_); focus (simp [rowB, go_sem]; done)) | ((with_reducible refine wpList_store_st 0 hS rfl rfl rfl rfl (by kernel_rfl) rfl rfl ?_); intro w1 hS1; clear hS; replace hS := hS1; clear hS1; try simp only [List.set_cons_zero, List.set_cons_succ, List.setIfInBounds_toArray, List.take_succ_cons, List.take_zero, List.drop_succ_cons, List.drop_zero, List.nil_append, List.cons_append, List.append_nil, List.drop_nil, List.take_nil, List.length_cons, List.length_nil, Nat.zero_add, Nat.add_zero, Nat.reduceAdd] at hS) | ((with_reducible refine wpList_storerow_st 0 hS rfl rfl rfl rfl (by kernel_rfl) rfl rfl rfl rfl ?_); intro w1 hS1; clear hS; replace hS := hS1; clear hS1; try simp only [List.set_cons_zero, List.set_cons_succ, List.setIfInBounds_toArray, List.take_succ_cons, List.take_zero, List.drop_succ_cons, List.drop_zero, List.nil_append, List.cons_append, List.append_nil, List.drop_nil, List.take_nil, List.length_cons, List.length_nil, Nat.zero_add, Nat.add_zero, Nat.reduceAdd] at hS)
      | ((with_reducible refine wpList_load_st 1 hS rfl rfl rfl rfl ?_ rfl ?_); focus (simp [scalarB, go_sem]; done)))
    go_ret2
    exact ⟨_, _, _, _, rfl, SlQ.row hS 2 rfl rfl, SlQ.row hS 0 rfl rfl, hS.below⟩
theorem qdone_any (l : List Wr) (ok : Bool) (hl : ∀ q ∈ l, q.p.f.length = 8) (a : Option Addr) (n cap : Nat) (hn : l.length = n) (hn1 : n ≤ 1000) (w : World) (hs : SlQ w a cap l) :
    Calls Try.prog 22 #[.slice a n cap, .bool ok] w (DoneRet l ok w) := by
  cases l with
  | nil =>
    obtain rfl : n = 0 := hn.symm
    exact done_nil ok a cap w
  | cons q0 t =>
    cases ok with
    | true => exact done_ok q0 t hl a n cap hn hn1 w hs
    | false => exact done_no q0 t hl a n cap hn hn1 w hs
end Go.Proofs.Ytplgpbbghhlbjaa
end

section
/- The reference's queue: Done. -/
set_option linter.unusedSimpArgs false
set_option linter.unusedVariables false
namespace Go.Proofs.Ytplgpbbghhlbjaa
open Go.RowKit Go.Ofp
set_option linter.unusedVariables false
set_option maxRecDepth 100000
set_option maxHeartbeats 4000000

end Go.Proofs.Ytplgpbbghhlbjaa
end

section
/- Writes, as the one has them and the other. -/
set_option linter.unusedSimpArgs false
set_option linter.unusedVariables false
namespace Go.Proofs.Ytplgpbbghhlbjaa
open Go.RowKit Go.Ofp
set_option linter.unusedVariables false
set_option maxRecDepth 100000
set_option maxHeartbeats 4000000

end Go.Proofs.Ytplgpbbghhlbjaa
end

section
/- What came in, opened: arrays of integers, structs, slices of structs. -/
set_option linter.unusedSimpArgs false
set_option linter.unusedVariables false
namespace Go.Ofp
open Go.RowKit

section
variable {H : Type} {enc : TypeId × Value → H} {P : Program} {w : World} {base : Nat} {spare : Nat → Bool} {held : Bool} {t e : TypeId}

end

theorem wf_i64 {z : Int} (h : (Lit.int .i64 z).wf = true) : -9223372036854775808 ≤ z ∧ z ≤ 9223372036854775807 := by
  simpa [Lit.wf, IntKind.min, IntKind.max, IntKind.bits, IntKind.signed] using h

end Go.Ofp
end

section
/- Slices of structs that came in: rows of cells. -/
set_option linter.unusedSimpArgs false
set_option linter.unusedVariables false
namespace Go.Ofp
open Go.RowKit Go.WideShapes

/-- The cells of a slice whose elements have several cells each. -/
structure Rw (w : World) (a : Option Addr) (size : Nat) (rows : List (List Value)) : Prop where
  sl : Sl w a rows.flatten
  each : ∀ r ∈ rows, r.length = size

theorem flatten_get {α : Type} (size : Nat) : ∀ (rows : List (List α)), (∀ r ∈ rows, r.length = size) → ∀ j t (hj : j < rows.length) (ht : t < size), rows.flatten[j * size + t]? = rows[j][t]?
  | [], _, j, t, hj, _ => by simp at hj
  | r :: rows, h, 0, t, _, ht => by
    have := h r (by simp)
    simp only [List.flatten_cons, Nat.zero_mul, Nat.zero_add, List.getElem_cons_zero]
    rw [List.getElem?_append_left (by omega)]
  | r :: rows, h, j + 1, t, hj, ht => by
    have hr := h r (by simp)
    simp only [List.flatten_cons, List.getElem_cons_succ]
    rw [List.getElem?_append_right (by rw [hr, Nat.add_mul]; omega), show (j + 1) * size + t - r.length = j * size + t by rw [hr, Nat.add_mul]; omega]
    exact flatten_get size rows (fun x hx => h x (by simp [hx])) j t (by simpa using hj) ht

theorem Rw.get {w : World} {a : Option Addr} {size : Nat} {rows : List (List Value)} (h : Rw w a size rows) (j : Nat) (hj : j < rows.length) (h0 : 0 < size) :
    ∃ b off, a = some ⟨b, off, none⟩ ∧ ∀ t v, rows[j][t]? = some v → w.cell? ⟨b, off + (j * size + t), none⟩ = some v := by
  have hl : rows.flatten.length = rows.length * size := by
    have : ∀ (rs : List (List Value)), (∀ r ∈ rs, r.length = size) → rs.flatten.length = rs.length * size := by
      intro rs
      induction rs with
      | nil => intro _; simp
      | cons r rs ih => intro h; rw [List.flatten_cons, List.length_append, ih (fun x hx => h x (by simp [hx])), h r (by simp), List.length_cons, Nat.add_mul]; omega
    exact this rows h.each
  have hpos : rows.flatten ≠ [] := by
    intro e
    rw [e, List.length_nil] at hl
    have := Nat.mul_pos (show 0 < rows.length by omega) h0
    omega
  obtain ⟨b, off, rfl⟩ := h.sl.cells hpos
  refine ⟨b, off, rfl, fun t v hv => ?_⟩
  have ht : t < size := by
    have := (List.getElem?_eq_some_iff.1 hv).1
    rwa [h.each _ (List.getElem_mem hj)] at this
  have := h.sl.add (j * size + t) v (by rw [flatten_get size rows h.each j t hj ht]; exact hv)
  rwa [Addr.add_lit] at this

theorem Rw.below {w w' : World} {a : Option Addr} {size : Nat} {rows : List (List Value)} (h : Rw w a size rows) (hb : Below w.heap.size w w') : Rw w' a size rows := ⟨h.sl.below hb, h.each⟩

section
variable {H : Type} {enc : TypeId × Value → H} {P : Program} {w : World} {base : Nat} {spare : Nat → Bool} {held : Bool} {t e : TypeId}

/-- A slice that came in: its elements' cells, each read as an element. -/
theorem open_rows {r : Reach} {b0 : Nat} {v : Value} {d : DataW H} {ps : List MemPlace} (ht : P.underlying t = some (.slice e)) (ho : Value.okWide P w r b0 t v) (h : DataW.Trod enc P w base spare held t v d ps) (hp : 0 < P.cellsOf e) :
    ∃ a n cap, v = .slice a n cap ∧ n ≤ cap ∧ cap ≤ maxLen ∧ ∃ rows, rows.length = n ∧ Rw w a (P.cellsOf e) rows ∧ ∀ cs ∈ rows, ∃ fuel x, DataW.trod enc P w base spare held fuel e cs = some x := by
  obtain ⟨a, n, cap, rfl⟩ := okWide_slice ht ho
  obtain ⟨fuel, hf⟩ := h
  rcases DataW.trod_slice ht hf with ⟨hc, _⟩ | ⟨ad, len, c, elems, rest, m, _, hc, _, _, hlc, hcm, hle, hel, _, _⟩
  · simp only [Value.cells, List.cons.injEq, Value.slice.injEq, and_true] at hc
    obtain ⟨rfl, rfl, rfl⟩ := hc
    exact ⟨none, 0, 0, rfl, Nat.le_refl _, Nat.zero_le _, [], rfl, ⟨Sl.nil _ _, by simp⟩, by simp⟩
  · simp only [Value.cells, List.cons.injEq, Value.slice.injEq, and_true] at hc
    obtain ⟨rfl, rfl, rfl⟩ := hc
    have key : ∀ i, i < n → ∃ cs x, w.cells? base (ad.add (i * P.cellsOf e)) (P.cellsOf e) = some cs ∧ DataW.trod enc P w base spare held m e cs = some x := by
      intro i hi
      have h1 := hel i hi
      rw [List.getElem?_eq_getElem (by omega)] at h1
      obtain ⟨cs, h2, h3⟩ := Option.bind_eq_some_iff.1 h1
      exact ⟨cs, _, h2, h3⟩
    have cell : ∀ i (hi : i < n) cs, w.cells? base (ad.add (i * P.cellsOf e)) (P.cellsOf e) = some cs → cs.length = P.cellsOf e ∧ ∀ t, t < P.cellsOf e → w.cell? ((ad.add (i * P.cellsOf e)).add t) = cs[t]? := by
      intro i hi cs h1
      unfold World.cells? at h1
      split at h1
      · exact ⟨by simpa using mapM_some_length h1, fun t ht => mapM_some_get h1 t t (by simp [ht])⟩
      · cases h1
    refine ⟨some ad, n, cap, rfl, hlc, hcm, (List.range n).map fun i => (w.cells? base (ad.add (i * P.cellsOf e)) (P.cellsOf e)).getD [], by simp, ?_, ?_⟩
    · have heach : ∀ r ∈ (List.range n).map (fun i => (w.cells? base (ad.add (i * P.cellsOf e)) (P.cellsOf e)).getD []), r.length = P.cellsOf e := by
        intro r hr
        obtain ⟨i, hi, rfl⟩ := List.mem_map.1 hr
        rw [List.mem_range] at hi
        obtain ⟨cs, x, h1, _⟩ := key i hi
        rw [h1]
        exact (cell i hi cs h1).1
      refine ⟨?_, heach⟩
      by_cases hn : n = 0
      · subst hn
        exact Sl.nil _ _
      · obtain ⟨b, off, spot⟩ := ad
        have hs : spot = none := by
          obtain ⟨cs, x, h1, _⟩ := key 0 (by omega)
          obtain ⟨hl, hc⟩ := cell 0 (by omega) cs h1
          have := hc 0 hp
          rw [List.getElem?_eq_getElem (by omega)] at this
          simp only [Nat.zero_mul, Addr.add, if_true] at this
          exact World.cell?_spot this
        subst hs
        intro q hq
        have hfl : ∀ (rs : List (List Value)), (∀ r ∈ rs, r.length = P.cellsOf e) → rs.flatten.length = rs.length * P.cellsOf e := by
          intro rs
          induction rs with
          | nil => intro _; simp
          | cons r rs ih => intro h; rw [List.flatten_cons, List.length_append, ih (fun x hx => h x (by simp [hx])), h r (by simp), List.length_cons, Nat.add_mul]; omega
        have hq2 := hq
        rw [hfl _ heach, List.length_map, List.length_range] at hq2
        have hj : q / P.cellsOf e < n := Nat.div_lt_of_lt_mul (by rw [Nat.mul_comm]; exact hq2)
        have ht : q % P.cellsOf e < P.cellsOf e := Nat.mod_lt _ hp
        have hqe : q / P.cellsOf e * P.cellsOf e + q % P.cellsOf e = q := by rw [Nat.mul_comm]; exact Nat.div_add_mod q _
        obtain ⟨cs, x, h1, _⟩ := key _ hj
        obtain ⟨hl, hc⟩ := cell _ hj cs h1
        have hc' := hc _ ht
        have hget := flatten_get (P.cellsOf e) _ heach (q / P.cellsOf e) (q % P.cellsOf e) (by simpa using hj) ht
        rw [hqe] at hget
        simp only [List.getElem_map, List.getElem_range, h1, Option.getD_some] at hget
        refine ⟨b, off, rfl, ?_⟩
        rw [← List.getElem?_eq_getElem hq, hget, ← hc', Addr.add_lit, Addr.add_lit]
        congr 2
        omega
    · intro cs hcs
      obtain ⟨i, hi, rfl⟩ := List.mem_map.1 hcs
      rw [List.mem_range] at hi
      obtain ⟨cs, x, h1, h2⟩ := key i hi
      rw [h1]
      exact ⟨m, x, h2⟩
end

end Go.Ofp
end

section
/- Structs whose fields are integers, strings, bools: their cells. -/
set_option linter.unusedSimpArgs false
set_option linter.unusedVariables false
namespace Go.Ofp
open Go.RowKit Go.WideShapes

section
variable {H : Type} {enc : TypeId × Value → H} {P : Program} {w : World} {base : Nat} {spare : Nat → Bool} {held : Bool}

/-- A field of a struct, read. -/
theorem field_read {t : TypeId} {fs : Array Field} {fuel : Nat} {cs : List Value} {x : DataW H × List MemPlace} (ht : P.underlying t = some (.struct fs)) (h : DataW.trod enc P w base spare held fuel t cs = some x) :
    cs.length = P.cellsOf t ∧ ∀ (i : Nat) (f : Field), fs[i]? = some f → ∃ n y, DataW.trod enc P w base spare held n f.type ((cs.drop f.offset).take (P.cellsOf f.type)) = some y := by
  obtain ⟨xs, n, _, rfl, hl, hlen, hf⟩ := DataW.trod_struct ht h
  refine ⟨hl, fun i f hi => ?_⟩
  have hi' : i < xs.length := by
    have := (Array.getElem?_eq_some_iff.1 hi).1
    omega
  refine ⟨n, xs[i], ?_⟩
  rw [hf i f hi, List.getElem?_eq_getElem hi']

theorem field_int {f : TypeId} {k : IntKind} {o n : Nat} {cs : List Value} {y : DataW H × List MemPlace} (hf : P.underlying f = some (.int k)) (hc : P.cellsOf f = 1) (ho : o < cs.length)
    (h : DataW.trod enc P w base spare held n f ((cs.drop o).take (P.cellsOf f)) = some y) : ∃ z, cs[o]? = some (.int k z) ∧ (Lit.int k z).wf = true := by
  obtain ⟨z, hz, _, hw⟩ := DataW.trod_int hf h
  rw [hc, List.drop_eq_getElem_cons ho] at hz
  simp only [List.take_succ_cons, List.take_zero, List.cons.injEq, and_true] at hz
  exact ⟨z, by rw [List.getElem?_eq_getElem ho, hz], hw⟩
end
end Go.Ofp
end

section
/- Cards and patches that came in, opened. -/
set_option linter.unusedSimpArgs false
set_option linter.unusedVariables false
namespace Go.Ofp
open Go.RowKit Go.WideShapes
section
variable {H : Type} {enc : TypeId × Value → H} {P : Program} {w : World} {base : Nat} {spare : Nat → Bool} {held : Bool}
theorem field_text {f : TypeId} {o n : Nat} {cs : List Value} {y : DataW H × List MemPlace} (hf : P.underlying f = some .string) (hc : P.cellsOf f = 1) (ho : o < cs.length)
    (h : DataW.trod enc P w base spare held n f ((cs.drop o).take (P.cellsOf f)) = some y) : ∃ s : ByteArray, cs[o]? = some (.string s) ∧ s.size ≤ maxLen := by
  obtain ⟨z, hz, _, hs⟩ := DataW.trod_string hf h
  rw [hc, List.drop_eq_getElem_cons ho] at hz
  simp only [List.take_succ_cons, List.take_zero, List.cons.injEq, and_true] at hz
  exact ⟨z, by rw [List.getElem?_eq_getElem ho, hz], hs⟩
end
/-- What is known of a value that came in. -/
structure VlIn (v : Vl) : Prop where
  kind : -9223372036854775808 ≤ v.kind ∧ v.kind ≤ 9223372036854775807
  n : -9223372036854775808 ≤ v.n ∧ v.n ≤ 9223372036854775807
  s : v.s.size ≤ maxLen
structure CdIn (c : Cd) : Prop where
  id : -9223372036854775808 ≤ c.id ∧ c.id ≤ 9223372036854775807
  ver : -9223372036854775808 ≤ c.ver ∧ c.ver ≤ 9223372036854775807
  lab : c.lab < 4294967296
  len : c.f.length = 8
  f : ∀ v ∈ c.f, VlIn v
structure PtIn (p : Pt) : Prop where
  mask : p.mask < 4294967296
  lab : p.lab < 4294967296
  len : p.f.length = 8
  f : ∀ v ∈ p.f, VlIn v
theorem wf_u32n {z : Int} (h : (Lit.int .u32 z).wf = true) : ∃ x : Nat, z = x ∧ x < 4294967296 := by
  have hb : 0 ≤ z ∧ z ≤ 4294967295 := by simpa [Lit.wf, IntKind.min, IntKind.max, IntKind.bits, IntKind.signed] using h
  exact ⟨z.toNat, by omega, by omega⟩
end Go.Ofp
namespace Go.Proofs.Ytplgpbbghhlbjaa
open Go.RowKit Go.Ofp Go.WideShapes
set_option linter.unusedVariables false
set_option maxRecDepth 100000
set_option maxHeartbeats 1000000
section
variable {H : Type} {enc : TypeId × Value → H} {w : World} {base : Nat} {spare : Nat → Bool} {held : Bool}
theorem read_vl {cs : List Value} (h : ∃ fuel x, DataW.trod enc Try.prog w base spare held fuel 35 cs = some x) : ∃ v : Vl, cs = vlRow v ∧ VlIn v := by
  obtain ⟨fuel, x, h⟩ := h
  obtain ⟨hl, hf⟩ := field_read Try.underlying35 h
  have hc : Try.prog.cellsOf 35 = 3 := by kernel_rfl
  rw [hc] at hl
  obtain ⟨n0, y0, h0⟩ := hf 0 _ rfl
  obtain ⟨n1, y1, h1⟩ := hf 1 _ rfl
  obtain ⟨n2, y2, h2⟩ := hf 2 _ rfl
  obtain ⟨z0, e0, w0⟩ := field_int Try.underlying3 (by kernel_rfl) (by rw [hl]; decide) h0
  obtain ⟨z1, e1, w1⟩ := field_int Try.underlying3 (by kernel_rfl) (by rw [hl]; decide) h1
  obtain ⟨z2, e2, w2⟩ := field_text Try.underlying9 (by kernel_rfl) (by rw [hl]; decide) h2
  match cs, hl with
  | [c0, c1, c2], _ =>
    simp at e0 e1 e2
    exact ⟨⟨z0, z1, z2⟩, by rw [e0, e1, e2]; rfl, wf_i64 w0, wf_i64 w1, w2⟩
theorem read_fl {cs : List Value} (h : ∃ fuel x, DataW.trod enc Try.prog w base spare held fuel 36 cs = some x) : ∃ f : List Vl, cs = flRow f ∧ f.length = 8 ∧ ∀ v ∈ f, VlIn v := by
  obtain ⟨fuel, x, h⟩ := h
  obtain ⟨xs, m, _, _, hl, hn, hi⟩ := DataW.trod_array Try.underlying36 h
  have hc : Try.prog.cellsOf 36 = 24 := by kernel_rfl
  have hv : Try.prog.cellsOf 35 = 3 := by kernel_rfl
  rw [hc] at hl
  have key : ∀ i, i < 8 → ∃ y, DataW.trod enc Try.prog w base spare held m 35 ((cs.drop (i * 3)).take 3) = some y := by
    intro i hi8
    have := hi i hi8
    rw [hv, List.getElem?_eq_getElem (by omega)] at this
    exact ⟨_, this⟩
  obtain ⟨y0, h0⟩ := key 0 (by decide)
  obtain ⟨y1, h1⟩ := key 1 (by decide)
  obtain ⟨y2, h2⟩ := key 2 (by decide)
  obtain ⟨y3, h3⟩ := key 3 (by decide)
  obtain ⟨y4, h4⟩ := key 4 (by decide)
  obtain ⟨y5, h5⟩ := key 5 (by decide)
  obtain ⟨y6, h6⟩ := key 6 (by decide)
  obtain ⟨y7, h7⟩ := key 7 (by decide)
  match cs, hl with
  | [c0, c1, c2, c3, c4, c5, c6, c7, c8, c9, c10, c11, c12, c13, c14, c15, c16, c17, c18, c19, c20, c21, c22, c23], _ =>
    simp only [Nat.reduceMul, List.drop_succ_cons, List.drop_zero, List.take_succ_cons, List.take_zero] at h0 h1 h2 h3 h4 h5 h6 h7
    obtain ⟨v0, e0, w0⟩ := read_vl ⟨_, _, h0⟩
    obtain ⟨v1, e1, w1⟩ := read_vl ⟨_, _, h1⟩
    obtain ⟨v2, e2, w2⟩ := read_vl ⟨_, _, h2⟩
    obtain ⟨v3, e3, w3⟩ := read_vl ⟨_, _, h3⟩
    obtain ⟨v4, e4, w4⟩ := read_vl ⟨_, _, h4⟩
    obtain ⟨v5, e5, w5⟩ := read_vl ⟨_, _, h5⟩
    obtain ⟨v6, e6, w6⟩ := read_vl ⟨_, _, h6⟩
    obtain ⟨v7, e7, w7⟩ := read_vl ⟨_, _, h7⟩
    simp only [vlRow, List.cons.injEq, and_true] at e0 e1 e2 e3 e4 e5 e6 e7
    refine ⟨[v0, v1, v2, v3, v4, v5, v6, v7], ?_, rfl, ?_⟩
    · simp only [flRow, List.map_cons, List.map_nil, List.flatten_cons, List.flatten_nil, vlRow, List.cons_append, List.nil_append]
      simp only [e0, e1, e2, e3, e4, e5, e6, e7]
    · intro v hv
      simp only [List.mem_cons, List.not_mem_nil, or_false] at hv
      rcases hv with rfl | rfl | rfl | rfl | rfl | rfl | rfl | rfl <;> assumption
theorem read_cd {cs : List Value} (h : ∃ fuel x, DataW.trod enc Try.prog w base spare held fuel 38 cs = some x) : ∃ c : Cd, cs = cdRow c ∧ CdIn c := by
  obtain ⟨fuel, x, h⟩ := h
  obtain ⟨hl, hf⟩ := field_read Try.underlying38 h
  have hc : Try.prog.cellsOf 38 = 27 := by kernel_rfl
  have hc3 : Try.prog.cellsOf 36 = 24 := by kernel_rfl
  rw [hc] at hl
  obtain ⟨n0, y0, h0⟩ := hf 0 _ rfl
  obtain ⟨n1, y1, h1⟩ := hf 1 _ rfl
  obtain ⟨n2, y2, h2⟩ := hf 2 _ rfl
  obtain ⟨n3, y3, h3⟩ := hf 3 _ rfl
  obtain ⟨z0, e0, w0⟩ := field_int Try.underlying3 (by kernel_rfl) (by rw [hl]; decide) h0
  obtain ⟨z1, e1, w1⟩ := field_int Try.underlying3 (by kernel_rfl) (by rw [hl]; decide) h1
  obtain ⟨z2, e2, w2⟩ := field_int Try.underlying33 (by kernel_rfl) (by rw [hl]; decide) h2
  have h3' : DataW.trod enc Try.prog w base spare held n3 36 ((cs.drop 3).take (Try.prog.cellsOf 36)) = some y3 := h3
  rw [hc3, List.take_of_length_le (by rw [List.length_drop, hl]; decide)] at h3'
  obtain ⟨f, hf3, hf8, hfi⟩ := read_fl ⟨_, _, h3'⟩
  obtain ⟨x2, rfl, hx2⟩ := wf_u32n w2
  match cs, hl with
  | c0 :: c1 :: c2 :: rest, _ =>
    simp at e0 e1 e2 hf3
    exact ⟨⟨z0, z1, x2, f⟩, by rw [e0, e1, e2, hf3]; rfl, wf_i64 w0, wf_i64 w1, hx2, hf8, hfi⟩
theorem read_pt {cs : List Value} (h : ∃ fuel x, DataW.trod enc Try.prog w base spare held fuel 40 cs = some x) : ∃ p : Pt, cs = ptRow p ∧ PtIn p := by
  obtain ⟨fuel, x, h⟩ := h
  obtain ⟨hl, hf⟩ := field_read Try.underlying40 h
  have hc : Try.prog.cellsOf 40 = 26 := by kernel_rfl
  have hc3 : Try.prog.cellsOf 36 = 24 := by kernel_rfl
  rw [hc] at hl
  obtain ⟨n0, y0, h0⟩ := hf 0 _ rfl
  obtain ⟨n1, y1, h1⟩ := hf 1 _ rfl
  obtain ⟨n3, y3, h3⟩ := hf 2 _ rfl
  obtain ⟨z0, e0, w0⟩ := field_int Try.underlying33 (by kernel_rfl) (by rw [hl]; decide) h0
  obtain ⟨z1, e1, w1⟩ := field_int Try.underlying33 (by kernel_rfl) (by rw [hl]; decide) h1
  have h3' : DataW.trod enc Try.prog w base spare held n3 36 ((cs.drop 2).take (Try.prog.cellsOf 36)) = some y3 := h3
  rw [hc3, List.take_of_length_le (by rw [List.length_drop, hl]; decide)] at h3'
  obtain ⟨f, hf3, hf8, hfi⟩ := read_fl ⟨_, _, h3'⟩
  obtain ⟨x0, rfl, hx0⟩ := wf_u32n w0
  obtain ⟨x1, rfl, hx1⟩ := wf_u32n w1
  match cs, hl with
  | c0 :: c1 :: rest, _ =>
    simp at e0 e1 hf3
    exact ⟨⟨x0, x1, f⟩, by rw [e0, e1, hf3]; rfl, hx0, hx1, hf8, hfi⟩
end
end Go.Proofs.Ytplgpbbghhlbjaa
end

section
/- The law CardShows: what is looked at; the walk. -/
set_option linter.unusedSimpArgs false
set_option linter.unusedVariables false
namespace Go.Ofp
/-- Texts that are longer than is looked at. -/
def largeF (f : List Vl) : Bool := f.any fun v => decide (200 < v.s.size)
end Go.Ofp
namespace Go.Proofs.Ytplgpbbghhlbjaa
open Go.RowKit Go.Ofp
set_option linter.unusedVariables false
set_option maxRecDepth 100000
set_option maxHeartbeats 4000000

theorem fl_str (f : List Vl) (k : Nat) (v : Vl) (hv : f[k]? = some v) : (flRow f)[k * 3 + 2]? = some (.string v.s) := by
  have h := fl_at [] f k v hv
  simp only [List.nil_append, List.length_nil, Nat.zero_add] at h
  have := congrArg (fun l => l[2]?) h
  simpa [List.getElem?_take, List.getElem?_drop, vlRow] using this
theorem large6_any (f : List Vl) (hf : f.length = 8) (w : World) : Calls Try.prog 57 #[.agg (flRow f).toArray] w fun e w' => e = .returned (.bool (largeF f)) ∧ Below w.heap.size w w' := by
  have hS := St.start w
  go_enter Try.func57, Try.ntmps57
  go_wp2_with (first
    | (with_reducible refine wpList_box_st (L := []) hS rfl rfl rfl ?_; intro gc w1 hS1; clear hS; have hS := hS1; clear hS1))
  go_loopg [3] 8 (fun gk vx wr => ∃ k : Nat, k + gk = 8 ∧ vx = .int .i64 k ∧ Hid (largeF (f.take k) = false) ∧ wr = w1)
  case atStart => exact ⟨0, Nat.zero_add _, rfl, Lib.hid rfl, rfl⟩
  case round =>
    obtain ⟨k, hk, rfl, hr, rfl⟩ := hrel
    have hc := hS.cell 0 rfl (k * 3 + 2)
    by_cases hlt : k < 8
    · obtain ⟨v, hv⟩ : ∃ v, f[k]? = some v := ⟨_, List.getElem?_eq_getElem (by omega)⟩
      rw [List.getElem?_toArray, fl_str f k v hv] at hc
      by_cases hx : 200 < v.s.size
      · go_wp2_with fail
        go_ret
        have : largeF f = true := by
          rw [largeF, List.any_eq_true]
          exact ⟨v, List.mem_of_getElem? hv, decide_eq_true hx⟩
        exact ⟨by rw [this]; rfl, hS.below⟩
      · have hnext : largeF (f.take (k + 1)) = false := by
          obtain ⟨h1, h2⟩ := List.getElem?_eq_some_iff.1 hv
          rw [List.take_succ_eq_append_getElem h1, largeF, List.any_append, h2]
          have := hr.out
          rw [largeF] at this
          rw [this]
          simpa using hx
        replace hnext := Lib.hid hnext
        have hxb : decide ((200 : Int) < (v.s.size : Int)) = false := decide_eq_false (by omega)
        clear hx hr
        go_wp2_with fail
        go_roundg (8 - (k + 1))
        case measure => omega
        case rel => exact ⟨k + 1, by omega, by go_num, hnext, rfl⟩
    · obtain rfl : k = 8 := by omega
      have hr2 := hr.out
      rw [List.take_of_length_le (by omega)] at hr2
      clear hc
      go_wp2_with fail
      go_ret
      exact ⟨by rw [hr2]; rfl, hS.below⟩

end Go.Proofs.Ytplgpbbghhlbjaa
end

section
/- The law CardShows: the walk. -/
set_option linter.unusedSimpArgs false
set_option linter.unusedVariables false
namespace Go.Proofs.Ytplgpbbghhlbjaa
open Go.RowKit Go.Ofp
set_option linter.unusedVariables false
set_option maxRecDepth 100000
set_option maxHeartbeats 4000000


theorem cdRow_len (c : Cd) (h : c.f.length = 8) : (cdRow c).length = 27 := by simp [cdRow, flRow_length, h]
theorem ptRow_len (p : Pt) (h : p.f.length = 8) : (ptRow p).length = 26 := by simp [ptRow, flRow_length, h]

end Go.Proofs.Ytplgpbbghhlbjaa
end

section
/- Acts of queues that came in, opened. -/
set_option linter.unusedSimpArgs false
set_option linter.unusedVariables false
namespace Go.Ofp
structure QAc where
  kind : Int
  c : Cd
  p : Pt
structure QAcIn (x : QAc) : Prop where
  kind : -9223372036854775808 ≤ x.kind ∧ x.kind ≤ 9223372036854775807
  c : CdIn x.c
  p : PtIn x.p
end Go.Ofp
namespace Go.Proofs.Ytplgpbbghhlbjaa
open Go.RowKit Go.Ofp Go.WideShapes
set_option linter.unusedVariables false
set_option maxRecDepth 100000
set_option maxHeartbeats 1000000
def qaRow (x : QAc) : List Value := .int .i64 x.kind :: (cdRow x.c ++ ptRow x.p)
theorem qaRow_len (x : QAc) (h1 : x.c.f.length = 8) (h2 : x.p.f.length = 8) : (qaRow x).length = 54 := by
  rw [qaRow, List.length_cons, List.length_append, cdRow_len _ h1, ptRow_len _ h2]
/-- Acts lie there. -/
structure QAcs (w : World) (a : Option Addr) (n c : Nat) (l : List QAc) : Prop where
  sl : Sl w a (l.map qaRow).flatten
  len : l.length = n
  le : n ≤ c
  cm : c ≤ maxLen
  mem : ∀ x ∈ l, QAcIn x
section
variable {H : Type} {enc : TypeId × Value → H}
theorem read_qac {w : World} {cs : List Value} (h : ∃ fuel x, DataW.trod enc Try.prog w 0 (fun _ => true) true fuel 42 cs = some x) : ∃ x : QAc, cs = qaRow x ∧ QAcIn x := by
  obtain ⟨fuel, x, h⟩ := h
  obtain ⟨hl, hf⟩ := field_read Try.underlying42 h
  have hc : Try.prog.cellsOf 42 = 54 := by kernel_rfl
  have hc1 : Try.prog.cellsOf 38 = 27 := by kernel_rfl
  have hc2 : Try.prog.cellsOf 40 = 26 := by kernel_rfl
  rw [hc] at hl
  obtain ⟨n0, y0, h0⟩ := hf 0 _ rfl
  obtain ⟨n1, y1, h1⟩ := hf 1 _ rfl
  obtain ⟨n2, y2, h2⟩ := hf 2 _ rfl
  obtain ⟨z0, e0, w0⟩ := field_int Try.underlying3 (by kernel_rfl) (by rw [hl]; decide) h0
  have h1' : DataW.trod enc Try.prog w 0 (fun _ => true) true n1 38 ((cs.drop 1).take (Try.prog.cellsOf 38)) = some y1 := h1
  have h2' : DataW.trod enc Try.prog w 0 (fun _ => true) true n2 40 ((cs.drop 28).take (Try.prog.cellsOf 40)) = some y2 := h2
  rw [hc1] at h1'
  rw [hc2, List.take_of_length_le (by rw [List.length_drop, hl]; decide)] at h2'
  obtain ⟨c, ec, hci⟩ := read_cd ⟨_, _, h1'⟩
  obtain ⟨p, ep, hpi⟩ := read_pt ⟨_, _, h2'⟩
  refine ⟨⟨z0, c, p⟩, ?_, wf_i64 w0, hci, hpi⟩
  have h3 : cs = cs.take 1 ++ ((cs.drop 1).take 27 ++ cs.drop 28) := by
    have := List.take_append_drop 1 cs
    have h4 := List.take_append_drop 27 (cs.drop 1)
    rw [List.drop_drop] at h4
    rw [h4, this]
  rw [h3, ec, ep, qaRow]
  match cs, hl with
  | c0 :: rest, _ =>
    simp at e0
    simp [e0]
theorem qacs_of {w : World} {rows : List (List Value)} (h : ∀ cs ∈ rows, ∃ x : QAc, cs = qaRow x ∧ QAcIn x) : ∃ l : List QAc, rows = l.map qaRow ∧ ∀ x ∈ l, QAcIn x := by
  induction rows with
  | nil => exact ⟨[], rfl, by simp⟩
  | cons c cs ih =>
    obtain ⟨p, rfl, hp⟩ := h c (by simp)
    obtain ⟨ps, rfl, hps⟩ := ih (fun x hx => h x (by simp [hx]))
    refine ⟨p :: ps, rfl, ?_⟩
    intro q hq
    rcases List.mem_cons.1 hq with rfl | hq
    · exact hp
    · exact hps q hq
theorem open_qacs {r : Reach} {b0 : Nat} {v : Value} {d : DataW H} {ms : List MemPlace} {w : World}
    (ho : Value.okWide Try.prog w r b0 27 v) (ht : DataW.Trod enc Try.prog w 0 (fun _ => true) true 27 v d ms) :
    ∃ a n cap l, v = .slice a n cap ∧ QAcs w a n cap l := by
  have hc : Try.prog.cellsOf 42 = 54 := by kernel_rfl
  obtain ⟨b, n, cb, rfl, hn, hm, rows, hrl, hrw, hrd⟩ := open_rows Try.underlying27 ho ht (by rw [hc]; decide)
  obtain ⟨qs, rfl, hqs⟩ := qacs_of (w := w) fun cs h => read_qac (hrd cs h)
  rw [List.length_map] at hrl
  exact ⟨b, n, cb, qs, rfl, ⟨hrw.sl, hrl, hn, hm, hqs⟩⟩
end
end Go.Proofs.Ytplgpbbghhlbjaa
end

section
/- What is not looked at. -/
set_option linter.unusedSimpArgs false
set_option linter.unusedVariables false
namespace Go.Ofp
open Go.RowKit
def QAc.bad (x : QAc) : Bool := largeF x.c.f || largeF x.p.f || decide (x.c.ver < 0) || decide (1099511627776 < x.c.ver)
def skipQ (l : List QAc) : Bool := decide (60 < l.length) || l.any QAc.bad
theorem wpList_grangerow {P : Program} {w : World} {ops : Array Oper} {rest : List Oper} {o : Oper} {a : Act} {Q : Exit → Act → World → Prop} {g j n : Nat} {vs : List Value} (hc : w.rangeAt g j vs) (hw : Region.wanted o (yielded ops a.tmps) = true) {t : TypeId} {x : Operand} (ho : o.op = .load t x) (hx : a.eval x = .pointer (some ⟨g, j, none⟩))
    (hu : rowB P t = true) (hsz : sizeB P t n = true) (hl : vs.length = n) (h : wpList P ops Q rest (a.put o.dst (.agg vs.toArray)) w) : wpList P ops Q (o :: rest) a w :=
  wpList_of_op fun K hK => by
    rw [if_pos hw]
    have hr := run_loadrow (P := P) hu hsz hl hc
    unfold Oper.wp execOp
    simp only [ho, hx, Sem.run_bind, hr, Result.andThen_ok, Sem.run_pure]
    exact hK _ _ h
end Go.Ofp
namespace Go.Proofs.Ytplgpbbghhlbjaa
open Go.RowKit Go.Ofp
set_option linter.unusedVariables false
set_option maxRecDepth 100000
set_option maxHeartbeats 4000000

theorem qaRows_all (l : List QAc) (h : ∀ x ∈ l, QAcIn x) : ∀ r ∈ l.map qaRow, r.length = 54 := by
  intro r hr
  obtain ⟨x, hx, rfl⟩ := List.mem_map.1 hr
  exact qaRow_len x (h x hx).c.len (h x hx).p.len
theorem qaRows_at (l : List QAc) (h : ∀ x ∈ l, QAcIn x) (k : Nat) (hk : k < l.length) : (((l.map qaRow).flatten).drop (k * 54)).take 54 = qaRow l[k] := by
  have := flat_elem 54 _ (qaRows_all l h) k (by simpa using hk)
  rwa [List.getElem_map] at this
theorem qaRows_ne (l : List QAc) (h : ∀ x ∈ l, QAcIn x) (hl : 0 < l.length) : (l.map qaRow).flatten ≠ [] := by
  intro e
  have := congrArg List.length e
  rw [flat_len2 54 _ (qaRows_all l h), List.length_map] at this
  simp at this
  omega
theorem range_part {w : World} {g o : Nat} {A B C : List Value} (h : w.rangeAt g o (A ++ (B ++ C))) : w.rangeAt g (o + A.length) B := by
  intro j v hj
  have := h (A.length + j) v (by rw [List.getElem?_append_right (by omega), Nat.add_sub_cancel_left, List.getElem?_append_left (List.getElem?_eq_some_iff.1 hj).1]; exact hj)
  rwa [← Nat.add_assoc] at this
theorem range_old {w0 w : World} {L : List Ch} (hS : St w0 [] L w) {g j : Nat} {vs : List Value} (h : w0.rangeAt g j vs) : w.rangeAt g j vs := fun i v hv => hS.old (h i v hv) (by simp)
theorem skip44_any (l : List QAc) (a : Option Addr) (n cap : Nat) (w : World) (hQ : QAcs w a n cap l) :
    Calls Try.prog 19 #[.slice a n cap] w fun e w' => e = .returned (.bool (skipQ l)) ∧ Below w.heap.size w w' := by
  have hS := St.start w
  obtain ⟨hs, hn, hle, hcm, hin⟩ := hQ
  by_cases h60 : 60 < n
  · have hr : skipQ l = true := by simp [skipQ, hn, h60]
    have hd : decide ((60 : Int) < (n : Int)) = true := decide_eq_true (by omega)
    rw [hr]
    clear hs hin hn hr
    go_enter Try.func19, Try.ntmps19
    go_wp2_with fail
    go_ret
    exact ⟨rfl, hS.below⟩
  · have hd : decide ((60 : Int) < (n : Int)) = false := decide_eq_false (by omega)
    generalize hR : skipQ l = R
    have hR2 : R = l.any QAc.bad := by rw [← hR, skipQ, decide_eq_false (by omega), Bool.false_or]
    clear hR
    replace hR2 := Lib.hid hR2
    replace hs := Lib.hid hs
    replace hin := Lib.hid hin
    replace hn := Lib.hid hn
    go_enter Try.func19, Try.ntmps19
    go_wp2_with fail
    go_loopg [3] n (fun gk vx wr => ∃ (k : Nat), k + gk = n ∧ vx = .int .i64 k ∧ Hid ((l.take k).any QAc.bad = false) ∧ St w [] [] wr)
    case atStart => exact ⟨0, Nat.zero_add _, rfl, Lib.hid rfl, hS⟩
    case round =>
      clear hS
      obtain ⟨k, hkn, rfl, hr, hS⟩ := hrel
      by_cases hlt : k < n
      · have hkl : k < l.length := by rw [hn.out]; exact hlt
        have hxi := hin.out _ (List.getElem_mem hkl)
        obtain ⟨g1, o1, ha⟩ := Sl.cells hs.out (qaRows_ne l hin.out (by omega))
        subst ha
        have hrg := sl_range hs.out (qaRows_at l hin.out k hkl)
        have hnx : (l.take (k + 1)).any QAc.bad = l[k].bad := by
          rw [List.take_succ_eq_append_getElem hkl, List.any_append, hr.out]
          simp
        have hall : l[k].bad = true → R = true := fun h => by rw [hR2.out, List.any_eq_true]; exact ⟨_, List.getElem_mem hkl, h⟩
        generalize l[k] = x at *
        obtain ⟨kd, ⟨ci, cv, cl, cf⟩, ⟨pm, pl, pf⟩⟩ := x
        have hcf : cf.length = 8 := hxi.c.len
        have hpf : pf.length = 8 := hxi.p.len
        have cL1 := fun W : World => large6_any cf hcf W
        have cL2 := fun W : World => large6_any pf hpf W
        have l1 : (flRow cf).length = 24 := by rw [flRow_length, hcf]
        have l2 : (flRow pf).length = 24 := by rw [flRow_length, hpf]
        have e0 : qaRow ⟨kd, ⟨ci, cv, cl, cf⟩, ⟨pm, pl, pf⟩⟩ = [.int .i64 kd, .int .i64 ci, .int .i64 cv, .int .u32 cl] ++ (flRow cf ++ (.int .u32 pm :: .int .u32 pl :: flRow pf)) := by simp [qaRow, cdRow, ptRow]
        have e1 : qaRow ⟨kd, ⟨ci, cv, cl, cf⟩, ⟨pm, pl, pf⟩⟩ = ([.int .i64 kd, .int .i64 ci, .int .i64 cv, .int .u32 cl] ++ flRow cf ++ [.int .u32 pm, .int .u32 pl]) ++ (flRow pf ++ []) := by simp [qaRow, cdRow, ptRow]
        have r1 := range_part (by rw [e0] at hrg; exact hrg)
        have r2 := range_part (by rw [e1] at hrg; exact hrg)
        have q1 : w.cell? ⟨g1, o1 + k * 54 + 2, none⟩ = some (.int .i64 cv) := hrg 2 _ rfl
        simp only [List.length_append, List.length_cons, List.length_nil, l1, Nat.reduceAdd] at r1 r2
        have hcv := hxi.c.ver
        simp only at hcv
        rw [QAc.bad] at hnx hall
        simp only at hnx hall
        clear hrg e0 e1 hxi
        generalize largeF cf = b1 at *
        generalize largeF pf = b2 at *
        generalize hb3 : decide (cv < 0) = b3 at *
        generalize hb4 : decide (1099511627776 < cv) = b4 at *
        generalize flRow cf = RC at *
        generalize flRow pf = RP at *
        replace cL1 := Lib.hid cL1
        replace cL2 := Lib.hid cL2
        have hcase : b1 = true ∨ b1 = false ∧ b2 = true ∨ b1 = false ∧ b2 = false ∧ b3 = true ∨ b1 = false ∧ b2 = false ∧ b3 = false ∧ b4 = true ∨ b1 = false ∧ b2 = false ∧ b3 = false ∧ b4 = false := by
          cases b1 <;> cases b2 <;> cases b3 <;> cases b4 <;> simp
        rcases hcase with rfl | ⟨rfl, rfl⟩ | ⟨rfl, rfl, rfl⟩ | ⟨rfl, rfl, rfl, rfl⟩ | ⟨rfl, rfl, rfl, rfl⟩
        · have hRt := hall (by simp)
          subst hRt
          clear hall hnx
          go_wp2_with (first | (go_at_call 57; (with_reducible refine (cL1.out _).mono ?_); rintro _ w9 ⟨rfl, hk9⟩; have hS1 := hS.keepB hk9; clear hk9 hS; have hS := hS1; clear hS1; have q2 := hS.old q1 (by simp)) | (go_at_call 57; (with_reducible refine (cL2.out _).mono ?_); rintro _ w9 ⟨rfl, hk9⟩; have hS1 := hS.keepB hk9; clear hk9 hS; have hS := hS1; clear hS1; have q2 := hS.old q1 (by simp)) | (with_reducible refine wpList_rangerow (n := 24) (range_old hS r1) rfl rfl rfl (by kernel_rfl) (by kernel_rfl) l1 ?_) | (with_reducible refine wpList_grangerow (n := 24) (range_old hS r2) (by with_unfolding_all rfl) rfl rfl (by kernel_rfl) (by kernel_rfl) l2 ?_))
          go_ret
          exact ⟨rfl, hS.below⟩
        · have hRt := hall (by simp)
          subst hRt
          clear hall hnx
          go_wp2_with (first | (go_at_call 57; (with_reducible refine (cL1.out _).mono ?_); rintro _ w9 ⟨rfl, hk9⟩; have hS1 := hS.keepB hk9; clear hk9 hS; have hS := hS1; clear hS1; have q2 := hS.old q1 (by simp)) | (go_at_call 57; (with_reducible refine (cL2.out _).mono ?_); rintro _ w9 ⟨rfl, hk9⟩; have hS1 := hS.keepB hk9; clear hk9 hS; have hS := hS1; clear hS1; have q2 := hS.old q1 (by simp)) | (with_reducible refine wpList_rangerow (n := 24) (range_old hS r1) rfl rfl rfl (by kernel_rfl) (by kernel_rfl) l1 ?_) | (with_reducible refine wpList_grangerow (n := 24) (range_old hS r2) (by with_unfolding_all rfl) rfl rfl (by kernel_rfl) (by kernel_rfl) l2 ?_))
          go_ret
          exact ⟨rfl, hS.below⟩
        · have hRt := hall (by simp)
          subst hRt
          clear hall hnx
          go_wp2_with (first | (go_at_call 57; (with_reducible refine (cL1.out _).mono ?_); rintro _ w9 ⟨rfl, hk9⟩; have hS1 := hS.keepB hk9; clear hk9 hS; have hS := hS1; clear hS1; have q2 := hS.old q1 (by simp)) | (go_at_call 57; (with_reducible refine (cL2.out _).mono ?_); rintro _ w9 ⟨rfl, hk9⟩; have hS1 := hS.keepB hk9; clear hk9 hS; have hS := hS1; clear hS1; have q2 := hS.old q1 (by simp)) | (with_reducible refine wpList_rangerow (n := 24) (range_old hS r1) rfl rfl rfl (by kernel_rfl) (by kernel_rfl) l1 ?_) | (with_reducible refine wpList_grangerow (n := 24) (range_old hS r2) (by with_unfolding_all rfl) rfl rfl (by kernel_rfl) (by kernel_rfl) l2 ?_))
          go_ret
          exact ⟨rfl, hS.below⟩
        · have hRt := hall (by simp)
          subst hRt
          clear hall hnx
          go_wp2_with (first | (go_at_call 57; (with_reducible refine (cL1.out _).mono ?_); rintro _ w9 ⟨rfl, hk9⟩; have hS1 := hS.keepB hk9; clear hk9 hS; have hS := hS1; clear hS1; have q2 := hS.old q1 (by simp)) | (go_at_call 57; (with_reducible refine (cL2.out _).mono ?_); rintro _ w9 ⟨rfl, hk9⟩; have hS1 := hS.keepB hk9; clear hk9 hS; have hS := hS1; clear hS1; have q2 := hS.old q1 (by simp)) | (with_reducible refine wpList_rangerow (n := 24) (range_old hS r1) rfl rfl rfl (by kernel_rfl) (by kernel_rfl) l1 ?_) | (with_reducible refine wpList_grangerow (n := 24) (range_old hS r2) (by with_unfolding_all rfl) rfl rfl (by kernel_rfl) (by kernel_rfl) l2 ?_))
          go_ret
          exact ⟨rfl, hS.below⟩
        · replace hnx := Lib.hid hnx
          clear hall
          go_wp2_with (first | (go_at_call 57; (with_reducible refine (cL1.out _).mono ?_); rintro _ w9 ⟨rfl, hk9⟩; have hS1 := hS.keepB hk9; clear hk9 hS; have hS := hS1; clear hS1; have q2 := hS.old q1 (by simp)) | (go_at_call 57; (with_reducible refine (cL2.out _).mono ?_); rintro _ w9 ⟨rfl, hk9⟩; have hS1 := hS.keepB hk9; clear hk9 hS; have hS := hS1; clear hS1; have q2 := hS.old q1 (by simp)) | (with_reducible refine wpList_rangerow (n := 24) (range_old hS r1) rfl rfl rfl (by kernel_rfl) (by kernel_rfl) l1 ?_) | (with_reducible refine wpList_grangerow (n := 24) (range_old hS r2) (by with_unfolding_all rfl) rfl rfl (by kernel_rfl) (by kernel_rfl) l2 ?_))
          go_roundg (n - (k + 1))
          case measure => omega
          case rel => exact ⟨k + 1, by omega, by go_num, hnx, hS⟩
      · obtain rfl : k = n := by omega
        have hr2 := hr.out
        rw [List.take_of_length_le (by rw [hn.out]; exact Nat.le_refl _), ← hR2.out] at hr2
        subst hr2
        go_wp2_with fail
        go_ret
        exact ⟨rfl, hS.below⟩
end Go.Proofs.Ytplgpbbghhlbjaa
end

section
/- The chapter's example. -/
set_option linter.unusedSimpArgs false
set_option linter.unusedVariables false
namespace Go.Proofs.Ytplgpbbghhlbjaa
open Go.RowKit Go.Ofp
set_option linter.unusedVariables false
set_option maxRecDepth 100000
set_option maxHeartbeats 4000000
def exP44 : Pt := ⟨1, 0, noF⟩
def exL1 : List Wr := [⟨1, 4, exP44⟩]
def exL2 : List Wr := [⟨1, 4, exP44⟩, ⟨1, 5, exP44⟩]
theorem ex_push1 : pushQ [] ⟨1, 4, 0, noF⟩ exP44 = (exL1, 0) := by decide
theorem ex_push2 : pushQ exL1 ⟨1, 4, 0, noF⟩ exP44 = (exL2, 0) := by decide
theorem ex_done : doneQ exL2 false = ([], exL2) := by decide
theorem awake44_any (w : World) : Calls Try.prog 20 #[] w fun e w' => e = .returned (.bool true) ∧ Below w.heap.size w w' := by
  have hS := St.start w
  have ec := elem_card
  have cP : ∀ (W : World), Calls Try.prog 21 #[.slice none 0 0, .agg #[.int .i64 1, .int .i64 4, .int .u32 0, .int .i64 0, .int .i64 0, .string ⟨#[]⟩, .int .i64 0, .int .i64 0, .string ⟨#[]⟩, .int .i64 0, .int .i64 0, .string ⟨#[]⟩, .int .i64 0, .int .i64 0, .string ⟨#[]⟩, .int .i64 0, .int .i64 0, .string ⟨#[]⟩, .int .i64 0, .int .i64 0, .string ⟨#[]⟩, .int .i64 0, .int .i64 0, .string ⟨#[]⟩, .int .i64 0, .int .i64 0, .string ⟨#[]⟩], .agg #[.int .u32 1, .int .u32 0, .int .i64 0, .int .i64 0, .string ⟨#[]⟩, .int .i64 0, .int .i64 0, .string ⟨#[]⟩, .int .i64 0, .int .i64 0, .string ⟨#[]⟩, .int .i64 0, .int .i64 0, .string ⟨#[]⟩, .int .i64 0, .int .i64 0, .string ⟨#[]⟩, .int .i64 0, .int .i64 0, .string ⟨#[]⟩, .int .i64 0, .int .i64 0, .string ⟨#[]⟩, .int .i64 0, .int .i64 0, .string ⟨#[]⟩]] W fun e w' => ∃ a' c', e = .returned (.tuple #[.slice a' 1 c', .int .i64 0]) ∧ SlQ w' a' c' exL1 ∧ Below W.heap.size W w' := by
    intro W
    have h := push_any ⟨1, 4, 0, noF⟩ rfl exP44 rfl (by decide) (by decide) [] (by simp) (by simp) none 0 0 rfl W (SlQ.none W)
    rw [ex_push1] at h
    exact h
  have cQ : ∀ (a : Option Addr) (c : Nat) (W : World) (h : SlQ W a c exL1), Calls Try.prog 21 #[.slice a 1 c, .agg #[.int .i64 1, .int .i64 4, .int .u32 0, .int .i64 0, .int .i64 0, .string ⟨#[]⟩, .int .i64 0, .int .i64 0, .string ⟨#[]⟩, .int .i64 0, .int .i64 0, .string ⟨#[]⟩, .int .i64 0, .int .i64 0, .string ⟨#[]⟩, .int .i64 0, .int .i64 0, .string ⟨#[]⟩, .int .i64 0, .int .i64 0, .string ⟨#[]⟩, .int .i64 0, .int .i64 0, .string ⟨#[]⟩, .int .i64 0, .int .i64 0, .string ⟨#[]⟩], .agg #[.int .u32 1, .int .u32 0, .int .i64 0, .int .i64 0, .string ⟨#[]⟩, .int .i64 0, .int .i64 0, .string ⟨#[]⟩, .int .i64 0, .int .i64 0, .string ⟨#[]⟩, .int .i64 0, .int .i64 0, .string ⟨#[]⟩, .int .i64 0, .int .i64 0, .string ⟨#[]⟩, .int .i64 0, .int .i64 0, .string ⟨#[]⟩, .int .i64 0, .int .i64 0, .string ⟨#[]⟩, .int .i64 0, .int .i64 0, .string ⟨#[]⟩]] W fun e w' => ∃ a' c', e = .returned (.tuple #[.slice a' 2 c', .int .i64 0]) ∧ SlQ w' a' c' exL2 ∧ Below W.heap.size W w' := by
    intro a c W h
    have h := push_any ⟨1, 4, 0, noF⟩ rfl exP44 rfl (by decide) (by decide) exL1 (by intro q hq; simp [exL1] at hq; subst hq; rfl) (by intro q hq; simp [exL1] at hq; subst hq; decide) a 1 c rfl W h
    rw [ex_push2] at h
    exact h
  have cD : ∀ (a : Option Addr) (c : Nat) (W : World) (h : SlQ W a c exL2), Calls Try.prog 22 #[.slice a 2 c, .bool false] W fun e w' => ∃ a1 c1 a2 c2, e = .returned (.tuple #[.slice a1 0 c1, .slice a2 2 c2]) ∧ Below W.heap.size W w' := by
    intro a c W h
    have h := qdone_any exL2 false (by intro q hq; simp [exL2] at hq; rcases hq with rfl | rfl <;> rfl) a 2 c rfl (by decide) W h
    unfold DoneRet at h
    rw [ex_done] at h
    exact h.mono fun e w' ⟨a1, c1, a2, c2, h1, _, _, h2⟩ => ⟨a1, c1, a2, c2, h1, h2⟩
  have cells : ∀ (a : Option Addr) (c : Nat) (W : World) (h : SlQ W a c exL2), ∃ b o, a = some ⟨b, o, none⟩ ∧ ∀ W', Below W.heap.size W W' → W'.cell? ⟨b, o + 1, none⟩ = some (.int .i64 4) ∧ W'.cell? ⟨b, o + 29, none⟩ = some (.int .i64 5) := by
    intro a c W h
    obtain ⟨b, o, ha⟩ := Sl.cells h.1 (by intro e; cases e)
    cases ha
    refine ⟨b, o, rfl, fun W' hb => ?_⟩
    have hs := h.1.below hb
    have h1 := hs.add 1 _ rfl
    have h2 := hs.add 29 _ rfl
    rw [Addr.add_lit] at h1 h2
    exact ⟨h1, h2⟩
  replace cP := Lib.hid cP
  replace cQ := Lib.hid cQ
  replace cD := Lib.hid cD
  replace cells := Lib.hid cells
  go_enter Try.func20, Try.ntmps20
  go_wp2_with (first
    | (go_at_call 21; (with_reducible refine (cP.out _).mono ?_); rintro _ w9 ⟨a9, c9, rfl, hq9, hk9⟩; have hS1 := hS.keepB hk9; clear hk9 hS; have hS := hS1; clear hS1)
    | (go_at_call 21; (with_reducible refine (cQ.out _ _ _ hq9).mono ?_); rintro _ w8 ⟨a8, c8, rfl, hq8, hk9⟩; have hS1 := hS.keepB hk9; clear hk9 hS; have hS := hS1; clear hS1)
    | (go_at_call 22; (with_reducible refine (cD.out _ _ _ hq8).mono ?_); rintro _ w7 ⟨a7, c7, a6, c6, rfl, hk9⟩; obtain ⟨b8, o8, rfl, hcl⟩ := cells.out _ _ _ hq8; obtain ⟨y1, y2⟩ := hcl _ hk9; clear hcl; have hS1 := hS.keepB hk9; clear hk9 hS; have hS := hS1; clear hS1)
    | (with_reducible refine wpList_box_st hS rfl rfl rfl ?_; intro g1 w1 hS1; clear hS; replace hS := hS1; clear hS1) | (with_reducible refine wpList_box1_st hS rfl rfl rfl ?_; intro g1 w1 hS1; clear hS; replace hS := hS1; clear hS1) | (with_reducible refine wpList_alloc_st hS rfl rfl (by assumption) ?_; intro g1 w1 hS1; clear hS; replace hS := hS1; clear hS1) | (with_reducible refine wpList_alloc1_st hS rfl rfl (by assumption) rfl ?_; intro g1 w1 hS1; clear hS; replace hS := hS1; clear hS1) | ((with_reducible refine wpList_load_st 0 hS rfl rfl rfl rfl ?_ rfl ?_); focus (simp [scalarB, go_sem]; done)) | ((with_reducible refine wpList_loadall_st 0 hS rfl rfl rfl rfl ?_ (by kernel_rfl) ?_); focus (simp [rowB, go_sem]; done)) | ((with_reducible refine wpList_store_st 0 hS rfl rfl rfl rfl (by kernel_rfl) rfl rfl ?_); intro w1 hS1; clear hS; replace hS := hS1; clear hS1; try simp only [List.set_cons_zero, List.set_cons_succ, List.setIfInBounds_toArray, List.take_succ_cons, List.take_zero, List.drop_succ_cons, List.drop_zero, List.nil_append, List.cons_append, List.append_nil, List.drop_nil, List.take_nil, List.length_cons, List.length_nil, Nat.zero_add, Nat.add_zero, Nat.reduceAdd] at hS) | ((with_reducible refine wpList_storerow_st 0 hS rfl rfl rfl rfl (by kernel_rfl) rfl rfl rfl rfl ?_); intro w1 hS1; clear hS; replace hS := hS1; clear hS1; try simp only [List.set_cons_zero, List.set_cons_succ, List.setIfInBounds_toArray, List.take_succ_cons, List.take_zero, List.drop_succ_cons, List.drop_zero, List.nil_append, List.cons_append, List.append_nil, List.drop_nil, List.take_nil, List.length_cons, List.length_nil, Nat.zero_add, Nat.add_zero, Nat.reduceAdd] at hS))
  go_ret
  exact ⟨rfl, hS.below⟩
end Go.Proofs.Ytplgpbbghhlbjaa
end

section
/- The law QueuePlays: plain facts; writes in old memory. -/
set_option linter.unusedSimpArgs false
set_option linter.unusedVariables false
namespace Go.Ofp
/-- A queue behind i acts. -/
structure QIn (i : Nat) (L : List Wr) : Prop where
  len : L.length ≤ 12
  f : ∀ q ∈ L, q.p.f.length = 8
  mask : ∀ q ∈ L, q.p.mask < 4294967296
  base : ∀ q ∈ L, 0 ≤ q.base ∧ q.base ≤ 1099511627776 + (i : Int)
theorem QIn.nil (i : Nat) : QIn i [] := ⟨by simp, by simp, by simp, by simp⟩
theorem QIn.mono {i j : Nat} {L : List Wr} (h : QIn i L) (hj : i ≤ j) : QIn j L := ⟨h.len, h.f, h.mask, fun q hq => ⟨(h.base q hq).1, by have := (h.base q hq).2; omega⟩⟩
theorem QIn.sub {i : Nat} {L M : List Wr} (h : QIn i L) (hl : M.length ≤ L.length) (hs : ∀ q ∈ M, q ∈ L) : QIn i M :=
  ⟨Nat.le_trans hl h.len, fun q hq => h.f q (hs q hq), fun q hq => h.mask q (hs q hq), fun q hq => h.base q (hs q hq)⟩
theorem QIn.bounds {i : Nat} {L : List Wr} (h : QIn i L) (hi : i ≤ 60) : ∀ q ∈ L, -4611686018427387904 ≤ q.base ∧ q.base ≤ 4611686018427387904 := fun q hq => by
  have := h.base q hq
  omega
theorem nextBase_in {i : Nat} {L : List Wr} (h : QIn i L) (b : Int) (hb : 0 ≤ b ∧ b ≤ 1099511627776) : 0 ≤ nextBase b L ∧ nextBase b L ≤ 1099511627776 + ((i + 1 : Nat) : Int) := by
  rcases List.eq_nil_or_concat L with rfl | ⟨L', q, rfl⟩
  · simp [nextBase]; omega
  · rw [List.concat_eq_append, nextBase_snoc]
    have := h.base q (by simp)
    omega
theorem QIn.push {i : Nat} {L : List Wr} (h : QIn i L) (c : Cd) (p : Pt) (hc : 0 ≤ c.ver ∧ c.ver ≤ 1099511627776) (hp : p.f.length = 8) (hm : p.mask < 4294967296) : QIn (i + 1) (pushQ L c p).1 := by
  unfold pushQ
  split
  · exact QIn.nil _
  · split
    · exact QIn.nil _
    · have hb := nextBase_in (h.sub (M := ofId L c.id) (List.length_filter_le _ _) (fun q hq => (List.mem_filter.1 hq).1)) c.ver hc
      refine ⟨by simp; omega, ?_, ?_, ?_⟩
      · intro q hq
        rcases List.mem_append.1 hq with hq | hq
        · exact h.f q hq
        · simp at hq; subst hq; exact hp
      · intro q hq
        rcases List.mem_append.1 hq with hq | hq
        · exact h.mask q hq
        · simp at hq; subst hq; exact hm
      · intro q hq
        rcases List.mem_append.1 hq with hq | hq
        · have := h.base q hq; omega
        · simp at hq; subst hq; exact hb
end Go.Ofp
namespace Go.Proofs.Ytplgpbbghhlbjaa
open Go.RowKit Go.Ofp
/-- Queues that lie there. -/
def Qs (w : World) (X : List (Option Addr × Nat × List Wr)) : Prop := ∀ x ∈ X, SlQ w x.1 x.2.1 x.2.2
theorem Qs.nil (w : World) : Qs w [] := by simp [Qs]
theorem Qs.below {w w' : World} {X : List (Option Addr × Nat × List Wr)} (h : Qs w X) (hb : Below w.heap.size w w') : Qs w' X := fun x hx => (h x hx).below hb
theorem Qs.cons {w : World} {X : List (Option Addr × Nat × List Wr)} {a : Option Addr} {c : Nat} {l : List Wr} (h : Qs w X) (hs : SlQ w a c l) : Qs w ((a, c, l) :: X) := by
  intro x hx
  rcases List.mem_cons.1 hx with rfl | hx
  · exact hs
  · exact h x hx
theorem Qs.get {w : World} {X : List (Option Addr × Nat × List Wr)} {a : Option Addr} {c : Nat} {l : List Wr} (h : Qs w X) (i : Nat) (hi : X[i]? = some (a, c, l)) : SlQ w a c l := h _ (List.mem_of_getElem? hi)
theorem Qs.sl {w : World} {X : List (Option Addr × Nat × List Wr)} {a : Option Addr} {c : Nat} {l : List Wr} (h : Qs w X) (i : Nat) (hi : X[i]? = some (a, c, l)) : Sl w a (qRow l) := (h.get i hi).1
end Go.Proofs.Ytplgpbbghhlbjaa
end

section
/- The law QueueChains: plain facts. -/
set_option linter.unusedSimpArgs false
set_option linter.unusedVariables false
namespace Go.Ofp
/-- Behind the first write the next one of that card has the next version. -/
def Chain (L : List Wr) : Prop := ∀ q0 t, L = q0 :: t → ∀ x, (ofId t q0.id).head? = some x → x.base = q0.base + 1
theorem Chain.nil : Chain [] := fun q0 t h => by cases h
theorem Chain.push {L : List Wr} (h : Chain L) (c : Cd) (p : Pt) : Chain (pushQ L c p).1 := by
  unfold pushQ
  split
  · exact Chain.nil
  · split
    · exact Chain.nil
    · intro q0 t he x hx
      cases L with
      | nil =>
        simp only [List.nil_append, List.cons.injEq] at he
        obtain ⟨-, rfl⟩ := he
        simp [ofId] at hx
      | cons q t' =>
        simp only [List.cons_append, List.cons.injEq] at he
        obtain ⟨rfl, rfl⟩ := he
        rw [ofId_snoc] at hx
        cases hf : ofId t' q.id with
        | cons y ys =>
          rw [hf] at hx
          simp at hx
          subst hx
          exact h q t' rfl y (by rw [hf]; rfl)
        | nil =>
          rw [hf] at hx
          split at hx
          · rename_i hid
            simp at hx
            subst hx
            simp only at hid
            have h1 : ofId (q :: t') c.id = [q] := by
              rw [hid]
              have : ofId (q :: t') q.id = q :: ofId t' q.id := by simp [ofId, Wr.isOf]
              rw [this, hf]
            simp only [h1]
            simp [nextBase]
          · simp at hx
theorem head_of {t : List Wr} {id : Int} {k : Nat} (hk : k < t.length) (h1 : ∀ q ∈ t.take k, q.id ≠ id) (h2 : t[k].id = id) : (ofId t id).head? = some t[k] := by
  have h3 : t = t.take k ++ t[k] :: t.drop (k + 1) := by rw [← List.drop_eq_getElem_cons hk, List.take_append_drop]
  have h4 : ofId (t.take k) id = [] := by
    unfold ofId
    rw [List.filter_eq_nil_iff]
    intro q hq
    simp [Wr.isOf, h1 q hq]
  have h5 : ofId t id = ofId (t.take k) id ++ t[k] :: ofId (t.drop (k + 1)) id := by
    conv => lhs; rw [h3]
    simp only [ofId, List.filter_append]
    rw [List.filter_cons, if_pos (by simp [Wr.isOf, h2])]
  rw [h5, h4, List.nil_append]
  rfl
theorem filter_at {α : Type} (f : α → Bool) (L : List α) (k : Nat) (hk : k < L.length) (h : f L[k] = true) : ∃ h2 : ((L.take k).filter f).length < (L.filter f).length, (L.filter f)[((L.take k).filter f).length] = L[k] := by
  have h3 : L = L.take k ++ L[k] :: L.drop (k + 1) := by rw [← List.drop_eq_getElem_cons hk, List.take_append_drop]
  have h5 : L.filter f = (L.take k).filter f ++ L[k] :: (L.drop (k + 1)).filter f := by
    conv => lhs; rw [h3]
    rw [List.filter_append, List.filter_cons, if_pos h]
  have h6 : ((L.take k).filter f).length < (L.filter f).length := by rw [h5]; simp
  refine ⟨h6, ?_⟩
  simp only [h5]
  rw [List.getElem_append_right (Nat.le_refl _)]
  simp
theorem ofId_at (L : List Wr) (id : Int) (k : Nat) (hk : k < L.length) (h : L[k].id = id) : ∃ h2 : (ofId (L.take k) id).length < (ofId L id).length, (ofId L id)[(ofId (L.take k) id).length] = L[k] :=
  filter_at _ L k hk (by simp [Wr.isOf, h])
theorem notId_at (L : List Wr) (id : Int) (k : Nat) (hk : k < L.length) (h : L[k].id ≠ id) : ∃ h2 : (notId (L.take k) id).length < (notId L id).length, (notId L id)[(notId (L.take k) id).length] = L[k] :=
  filter_at _ L k hk (by simp [Wr.isOf, h])
end Go.Ofp
end
