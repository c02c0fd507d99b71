/- Texts laid together: RootPlays. -/
import Derived.Test.YtlhpibniecfofaaM10
import Derived.Test.YtlhpibniecfofaaM11
import Derived.Test.YtlhpibniecfofaaM12
import Derived.Test.YtlhpibniecfofaaM2
import Derived.Test.YtlhpibniecfofaaM8
section
/- The law RootPlays: the walk of it. -/
set_option linter.unusedSimpArgs false
set_option linter.unusedVariables false
namespace Go.Ofp
namespace Dk
/-- What an act makes of a disk. -/
def ract (d : Dk) (kind n : Int) (x : Rt) (keep : List Int) (s : List UInt8) : Dk :=
  if kind = 0 then (d.store x).1 else if kind = 1 then { d with fuse := n } else if kind = 2 then d.crash keep else (d.write n s).1
theorem Fit.ract {d : Dk} {n k : Nat} (h : d.Fit n k) (kind z : Int) (x : Rt) (keep : List Int) (s : List UInt8) (hz : -9223372036854775808 ≤ z ∧ z ≤ 9223372036854775807) : (d.ract kind z x keep s).Fit n (k + 1) := by
  unfold Dk.ract
  split
  · exact h.store x
  · split
    · exact (h.fused _ hz).mono (by omega)
    · split
      · exact (h.crash _).mono (by omega)
      · exact h.write _ _
end Dk
end Go.Ofp
namespace Go.Proofs.Ytlhpibniecfofaa
open Go.RowKit Go.Ofp
set_option linter.unusedVariables false
set_option maxRecDepth 100000
set_option maxHeartbeats 4000000

theorem tload_nil (w : World) : Calls Try.prog 39 #[.pointer none] w fun e w' => e = .returned (.tuple #[.agg #[.int .i64 0, .int .i64 0, .int .i64 0], .int .i64 14]) ∧ Below w.heap.size w w' := by
  have hS := St.start w
  have ez := elem_root
  go_enter Try.func39, Try.ntmps39
  go_wp2_with (first | (with_reducible refine wpList_box_st hS rfl rfl rfl ?_; intro g1 w1 hS1; clear hS; replace hS := hS1; clear hS1) | (with_reducible refine wpList_box1_st hS rfl rfl rfl ?_; intro g1 w1 hS1; clear hS; replace hS := hS1; clear hS1) | (with_reducible refine wpList_alloc_st hS rfl rfl (by assumption) ?_; intro g1 w1 hS1; clear hS; replace hS := hS1; clear hS1) | (with_reducible refine wpList_alloc1_st hS rfl rfl (by assumption) rfl ?_; intro g1 w1 hS1; clear hS; replace hS := hS1; clear hS1) | ((with_reducible refine wpList_load_st 0 hS rfl rfl rfl rfl ?_ rfl ?_); focus (simp [scalarB, go_sem]; done)) | ((with_reducible refine wpList_loadall_st 0 hS rfl rfl rfl rfl ?_ (by kernel_rfl) ?_); focus (simp [rowB, go_sem]; done)) | ((with_reducible refine wpList_store_st 0 hS rfl rfl rfl rfl (by kernel_rfl) rfl rfl ?_); intro w1 hS1; clear hS; replace hS := hS1; clear hS1; try simp only [List.set_cons_zero, List.set_cons_succ, List.setIfInBounds_toArray, List.take_succ_cons, List.take_zero, List.drop_succ_cons, List.drop_zero, List.nil_append, List.cons_append, List.append_nil, List.drop_nil, List.take_nil, List.length_cons, List.length_nil, Nat.zero_add, Nat.add_zero, Nat.reduceAdd] at hS) | ((with_reducible refine wpList_storerow_st 0 hS rfl rfl rfl rfl (by kernel_rfl) rfl rfl rfl rfl ?_); intro w1 hS1; clear hS; replace hS := hS1; clear hS1; try simp only [List.set_cons_zero, List.set_cons_succ, List.setIfInBounds_toArray, List.take_succ_cons, List.take_zero, List.drop_succ_cons, List.drop_zero, List.nil_append, List.cons_append, List.append_nil, List.drop_nil, List.take_nil, List.length_cons, List.length_nil, Nat.zero_add, Nat.add_zero, Nat.reduceAdd] at hS))
  have c := hS.cell 0 rfl
  exact bodyPost_ret (v := .tuple #[.agg #[.int .i64 0, .int .i64 0, .int .i64 0], .int .i64 14]) (by simp [results, Try.results39, go_sem, c]) rfl ⟨rfl, hS.below⟩
theorem tstore_nil (x : Rt) (w : World) : Calls Try.prog 35 #[.pointer none, .agg #[.int .i64 x.seq, .int .i64 x.life, .int .i64 x.head]] w fun e w' => e = .returned (.int .i64 14) ∧ Below w.heap.size w w' := by
  have hS := St.start w
  have ez := elem_root
  go_enter Try.func35, Try.ntmps35
  go_wp2_with (first | (with_reducible refine wpList_box_st hS rfl rfl rfl ?_; intro g1 w1 hS1; clear hS; replace hS := hS1; clear hS1) | (with_reducible refine wpList_box1_st hS rfl rfl rfl ?_; intro g1 w1 hS1; clear hS; replace hS := hS1; clear hS1) | (with_reducible refine wpList_alloc_st hS rfl rfl (by assumption) ?_; intro g1 w1 hS1; clear hS; replace hS := hS1; clear hS1) | (with_reducible refine wpList_alloc1_st hS rfl rfl (by assumption) rfl ?_; intro g1 w1 hS1; clear hS; replace hS := hS1; clear hS1) | ((with_reducible refine wpList_load_st 0 hS rfl rfl rfl rfl ?_ rfl ?_); focus (simp [scalarB, go_sem]; done)) | ((with_reducible refine wpList_loadall_st 0 hS rfl rfl rfl rfl ?_ (by kernel_rfl) ?_); focus (simp [rowB, go_sem]; done)) | ((with_reducible refine wpList_store_st 0 hS rfl rfl rfl rfl (by kernel_rfl) rfl rfl ?_); intro w1 hS1; clear hS; replace hS := hS1; clear hS1; try simp only [List.set_cons_zero, List.set_cons_succ, List.setIfInBounds_toArray, List.take_succ_cons, List.take_zero, List.drop_succ_cons, List.drop_zero, List.nil_append, List.cons_append, List.append_nil, List.drop_nil, List.take_nil, List.length_cons, List.length_nil, Nat.zero_add, Nat.add_zero, Nat.reduceAdd] at hS) | ((with_reducible refine wpList_storerow_st 0 hS rfl rfl rfl rfl (by kernel_rfl) rfl rfl rfl rfl ?_); intro w1 hS1; clear hS; replace hS := hS1; clear hS1; try simp only [List.set_cons_zero, List.set_cons_succ, List.setIfInBounds_toArray, List.take_succ_cons, List.take_zero, List.drop_succ_cons, List.drop_zero, List.nil_append, List.cons_append, List.append_nil, List.drop_nil, List.take_nil, List.length_cons, List.length_nil, Nat.zero_add, Nat.add_zero, Nat.reduceAdd] at hS))
  go_ret
  exact ⟨rfl, hS.below⟩

theorem plays38_any (sz : Nat) (a : Option Addr) (n c : Nat) (l : List Ra) (w : World) (h1 : Ras w a n c l) (hq : sz ≤ 255) :
    Calls Try.prog 5 #[.int .u8 sz, .slice a n c] w fun e w' => e = .returned (.bool true) ∧ Below w.heap.size w w' := by
  obtain ⟨size, hsz⟩ : ∃ k, 1 + sz % 3 = k := ⟨_, rfl⟩
  have hw2 : 1 + (sz : Int) % 3 = size := by omega
  have hs1 : 1 ≤ size := by omega
  have hs3 : size ≤ 3 := by omega
  clear hsz
  have cN := new_any size w hs1 (by omega)
  have hlen : (Dk.new size).sec.length = size := by simp [Dk.new]
  have cM : ∀ W : World, Calls Try.prog 13 #[.int .i64 size] W fun e w' => ∃ sv, e = .returned (.agg #[sv, .slice none 0 0, .int .i64 (-1), .bool false]) ∧ St W [] [Ch.row 9 1 sv (Dk.new size).sec.length ((Dk.new size).sec.map rsc)] w' := fun W => by
    have := rnew_any size W (by omega)
    rw [hlen]
    exact this
  have hfit0 := Dk.Fit.new size (by omega)
  have hfu : (Dk.new size).fuse = -1 := rfl
  have hde : (Dk.new size).dead = false := rfl
  have hwa : (Dk.new size).wait = [] := rfl
  have ez := elem_rdk
  generalize Dk.new size = D0 at *
  clear hlen
  replace cN := Lib.hid cN
  replace cM := Lib.hid cM
  replace hfit0 := Lib.hid hfit0
  replace hfu := Lib.hid hfu
  replace hde := Lib.hid hde
  replace hwa := Lib.hid hwa
  have hnm : n ≤ 9223372036854775807 := by have := h1.le; have := h1.cm; unfold maxLen at this; omega
  go_enter Try.func5, Try.ntmps5
  go_wp2_with (first
    | (go_at_call 11; (with_reducible refine cN.out.mono ?_); rintro _ w2 ⟨bd, sv, wv, rfl, hS⟩)
    | (go_at_call 13; (with_reducible refine (cM.out _).mono ?_); rintro _ w3 ⟨rsv, rfl, hk⟩; have hS1 := hS.made hk; clear hS hk; have hS := hS1; clear hS1; obtain ⟨ra, rc, rfl, -⟩ := hS.row 0 rfl)
    | (with_reducible refine wpList_box_st hS rfl rfl rfl ?_; intro g1 w1 hS1; clear hS; replace hS := hS1; clear hS1) | (with_reducible refine wpList_box1_st hS rfl rfl rfl ?_; intro g1 w1 hS1; clear hS; replace hS := hS1; clear hS1) | (with_reducible refine wpList_alloc_st hS rfl rfl (by assumption) ?_; intro g1 w1 hS1; clear hS; replace hS := hS1; clear hS1) | (with_reducible refine wpList_alloc1_st hS rfl rfl (by assumption) rfl ?_; intro g1 w1 hS1; clear hS; replace hS := hS1; clear hS1) | ((with_reducible refine wpList_load_st 0 hS rfl rfl rfl rfl ?_ rfl ?_); focus (simp [scalarB, go_sem]; done)) | ((with_reducible refine wpList_loadall_st 0 hS rfl rfl rfl rfl ?_ (by kernel_rfl) ?_); focus (simp [rowB, go_sem]; done)) | ((with_reducible refine wpList_store_st 0 hS rfl rfl rfl rfl (by kernel_rfl) rfl rfl ?_); intro w1 hS1; clear hS; replace hS := hS1; clear hS1; try simp only [List.set_cons_zero, List.set_cons_succ, List.setIfInBounds_toArray, List.take_succ_cons, List.take_zero, List.drop_succ_cons, List.drop_zero, List.nil_append, List.cons_append, List.append_nil, List.drop_nil, List.take_nil, List.length_cons, List.length_nil, Nat.zero_add, Nat.add_zero, Nat.reduceAdd] at hS) | ((with_reducible refine wpList_storerow_st 0 hS rfl rfl rfl rfl (by kernel_rfl) rfl rfl rfl rfl ?_); intro w1 hS1; clear hS; replace hS := hS1; clear hS1; try simp only [List.set_cons_zero, List.set_cons_succ, List.setIfInBounds_toArray, List.take_succ_cons, List.take_zero, List.drop_succ_cons, List.drop_zero, List.nil_append, List.cons_append, List.append_nil, List.drop_nil, List.take_nil, List.length_cons, List.length_nil, Nat.zero_add, Nat.add_zero, Nat.reduceAdd] at hS))
  have hS1 : St w [] (dks bd sv wv D0 ++ (rdk g1 (.slice ra D0.sec.length rc) (.slice none 0 0) D0 ++ [])) w1 := by
    have h2 := (hS.nilrow 141 2).rot3
    have h3 := St.rot (A := [_, _, _]) (B := dks bd sv wv D0) h2
    unfold rdk
    rw [hfu.out, hde.out, hwa.out, List.append_nil]
    exact h3
  clear hS
  have hS := hS1
  clear hS1 cN cM ez hfu hde hwa
  go_loopg [8] n (fun gk vx wr => ∃ (j : Nat) (sv wv rsv rwv : Value) (D : Dk), j + gk = n ∧ j ≤ 60 ∧ vx = .int .i64 j ∧ Hid (D.Fit size j) ∧ St w [] (dks bd sv wv D ++ (rdk g1 rsv rwv D ++ [])) wr)
  case atStart => exact ⟨0, sv, wv, _, _, D0, Nat.zero_add _, by omega, rfl, hfit0, hS⟩
  case round =>
    clear hS hfit0
    obtain ⟨j, sv, wv, rsv, rwv, D, hj, hj60, rfl, hfit, hS⟩ := hrel
    have cA := awake38_any
    replace cA := Lib.hid cA
    have hend : (j < n ∧ j < 60) ∨ ¬ (j < n ∧ j < 60) := Classical.em _
    rcases hend with ⟨hlt, hl1⟩ | hend
    · have hjl : j < l.length := by rw [h1.len]; exact hlt
      obtain ⟨b, off, rfl, hc⟩ := h1.get j hjl
      have hxm := h1.mem l[j] (List.getElem_mem hjl)
      generalize l[j] = x at *
      obtain ⟨kind, z, q, ak, kc, keep, sb⟩ := x
      have p0 : w.cell? ⟨b, off + j * 7, none⟩ = some (.int .i64 kind) := hc 0 _ rfl
      have p1 : w.cell? ⟨b, off + j * 7 + 1, none⟩ = some (.int .i64 z) := hc 1 _ rfl
      have p2 : w.cell? ⟨b, off + j * 7 + 2, none⟩ = some (.int .i64 q.seq) := hc 2 _ rfl
      have p3 : w.cell? ⟨b, off + j * 7 + 3, none⟩ = some (.int .i64 q.life) := hc 3 _ rfl
      have p4 : w.cell? ⟨b, off + j * 7 + 4, none⟩ = some (.int .i64 q.head) := hc 4 _ rfl
      have p5 : w.cell? ⟨b, off + j * 7 + 5, none⟩ = some (.slice ak keep.length kc) := hc 5 _ rfl
      have p6 : w.cell? ⟨b, off + j * 7 + 6, none⟩ = some (.string sb) := hc 6 _ rfl
      have q0 := hS.old p0 (by simp)
      have q1 := hS.old p1 (by simp)
      have q2 := hS.old p2 (by simp)
      have q3 := hS.old p3 (by simp)
      have q4 := hS.old p4 (by simp)
      have q5 := hS.old p5 (by simp)
      have q6 := hS.old p6 (by simp)
      replace h1 := Lib.hid h1
      clear p0 p1 p2 p3 p4 p5 p6 hc
      have eA : Elem Try.prog 64 (.agg #[.int .i64 0, .int .i64 0, .int .i64 0, .int .i64 0, .int .i64 0, .slice none 0 0, .string ⟨#[]⟩]) 7 80 := Elem.mk (by kernel_rfl) (by rfl) (by decide)
      have hsm := hxm.text
      simp only at hsm
      by_cases hs200 : sb.size ≤ 200
      · by_cases hk60 : keep.length ≤ 60
        · clear cA
          have hfit' := hfit.out.ract kind z q keep sb.data.toList hxm.n
          obtain ⟨D1, hD1⟩ : ∃ d, D.ract kind z q keep sb.data.toList = d := ⟨_, rfl⟩
          rw [hD1] at hfit'
          have cL := fun sv wv W hh => tload_any bd sv wv D1 size (j + 1) W hh hfit' (by omega) (by omega)
          have cM := fun sv wv W hh => rtload_any g1 sv wv D1 size (j + 1) W hh hfit' (by omega) (by omega)
          obtain ⟨y, ly, hly⟩ : ∃ y ly, D1.load = (y, ly) := ⟨_, _, rfl⟩
          rw [hly] at cL cM
          simp only at cL cM
          have cF := fun W => tfrom_any y W
          have hgu := guard_rroot
          have hng : ∀ W, (binOp .neq 49 (.agg #[.int .i64 y.seq, .int .i64 y.life, .int .i64 y.head]) (.agg #[.int .i64 y.seq, .int .i64 y.life, .int .i64 y.head])).run Try.prog W = .ok (.bool false) W := fun W => by
            have := neq_rroot y y W
            rwa [show rtBeq y y = true from (rtBeq_iff _ _).2 rfl] at this
          have hnl : (decide (¬ ly = ly)) = false := by simp
          clear hly
          have ez := elem_root
          have ey := elem_rroot
          have hok := hfit.out.ok
          have hw : D.wait.length ≤ 100000 := by have := hfit.out.wait; omega
          have hl : D.sec.length ≤ 100000 := by have := hfit.out.sec; omega
          have hfz := hfit.out.fuse
          have hks := hxm.sl
          have hkb2 : ∀ z ∈ keep, z ≤ 9223372036854775807 := fun z hz => (hxm.keep z hz).2
          have hkm : keep.length ≤ maxLen := Nat.le_trans hxm.le hxm.cm
          simp only at hks
          have hap : 0 < keep.length → ∀ b o, ak = some ⟨b, o, none⟩ → b ∉ feet (dks bd sv wv D ++ (rdk g1 rsv rwv D ++ [])) := by
            intro h0 b o e
            obtain ⟨b', o', e', hcc⟩ := hks 0 (by simpa using h0)
            rw [e] at e'
            cases e'
            exact hS.oldoff (World.block_lt_of_cell? _ _ hcc)
          have hap1 : 0 < keep.length → ∀ b o, ak = some ⟨b, o, none⟩ → b ∉ feet (dks bd sv wv D) := fun h b o e => (feet_off (hap h b o e)).1
          have hap2 : 0 < keep.length → ∀ b o, ak = some ⟨b, o, none⟩ → b ∉ feet (rdk g1 rsv rwv D) := fun h b o e => (feet_off (feet_off (hap h b o e)).2).1
          have hsl : ∀ (L : List Ch) (W : World), St w [] L W → Sl W ak (keep.map vi) := fun L W hh => hks.old hh (by simp)
          replace cL := Lib.hid cL
          replace cM := Lib.hid cM
          replace cF := Lib.hid cF
          replace hsl := Lib.hid hsl
          replace hfit' := Lib.hid hfit'
          unfold Dk.ract at hD1
          clear hap hks hxm
          by_cases h0 : kind = 0
          · subst h0
            rw [if_pos rfl] at hD1
            have cT := fun W => tto_any q W
            have cS := fun W hh => tstore_any bd sv wv D size j q W hh hfit.out (by omega) (by omega)
            have cR := fun W hh => rtstore_any g1 rsv rwv D size j q W hh hfit.out (by omega) (by omega)
            rw [hD1] at cS cR
            replace cT := Lib.hid cT
            replace cS := Lib.hid cS
            replace cR := Lib.hid cR
            clear hD1 hfit hok hw hl hfz hkb2 hkm hap1 hap2
            go_wp2_with (first
              | ((with_reducible refine wpList_alloc_st hS rfl rfl eA ?_); intro g9 w1 hS1; clear hS; have hS := hS1; clear hS1)
              | ((with_reducible refine wpList_storerow_st 0 hS rfl rfl rfl rfl (by kernel_rfl) rfl rfl rfl rfl ?_); intro w1 hS1; clear hS; have hS : St w [] (Ch.blk g9 64 #[.int .i64 0, .int .i64 z, .int .i64 q.seq, .int .i64 q.life, .int .i64 q.head, .slice ak keep.length kc, .string sb] :: (dks bd sv wv D ++ (rdk g1 rsv rwv D ++ []))) w1 := hS1; clear hS1; have hcl := hS.cell 0 rfl)
              | (with_reducible refine wpList_box_st hS rfl rfl rfl ?_; intro g1 w1 hS1; clear hS; replace hS := hS1; clear hS1) | (with_reducible refine wpList_box1_st hS rfl rfl rfl ?_; intro g1 w1 hS1; clear hS; replace hS := hS1; clear hS1) | (with_reducible refine wpList_alloc_st hS rfl rfl (by assumption) ?_; intro g1 w1 hS1; clear hS; replace hS := hS1; clear hS1) | (with_reducible refine wpList_alloc1_st hS rfl rfl (by assumption) rfl ?_; intro g1 w1 hS1; clear hS; replace hS := hS1; clear hS1) | ((with_reducible refine wpList_load_st 0 hS rfl rfl rfl rfl ?_ rfl ?_); focus (simp [scalarB, go_sem]; done)) | ((with_reducible refine wpList_loadall_st 0 hS rfl rfl rfl rfl ?_ (by kernel_rfl) ?_); focus (simp [rowB, go_sem]; done)) | ((with_reducible refine wpList_store_st 0 hS rfl rfl rfl rfl (by kernel_rfl) rfl rfl ?_); intro w1 hS1; clear hS; replace hS := hS1; clear hS1; try simp only [List.set_cons_zero, List.set_cons_succ, List.setIfInBounds_toArray, List.take_succ_cons, List.take_zero, List.drop_succ_cons, List.drop_zero, List.nil_append, List.cons_append, List.append_nil, List.drop_nil, List.take_nil, List.length_cons, List.length_nil, Nat.zero_add, Nat.add_zero, Nat.reduceAdd] at hS) | ((with_reducible refine wpList_storerow_st 0 hS rfl rfl rfl rfl (by kernel_rfl) rfl rfl rfl rfl ?_); intro w1 hS1; clear hS; replace hS := hS1; clear hS1; try simp only [List.set_cons_zero, List.set_cons_succ, List.setIfInBounds_toArray, List.take_succ_cons, List.take_zero, List.drop_succ_cons, List.drop_zero, List.nil_append, List.cons_append, List.append_nil, List.drop_nil, List.take_nil, List.length_cons, List.length_nil, Nat.zero_add, Nat.add_zero, Nat.reduceAdd] at hS))
            revert hS
            apply wp_cutv3
            · intro hS
              refine mixs_beginC 0 (by kernel_rfl) hS rfl ?_
              clear hS
              intro w2 hS hC
              have kC := hC.kblk 0 rfl
              refine mixs_take 0 (v := ?_) rfl (by kernel_rfl) (fun _ _ _ h => h) (by kernel_rfl) (by assumption) (fun s => ?hy) ?_; case hy => (go_simp <;> with_reducible rfl)
              try simp only [List.getElem_toArray, List.getElem_cons_succ, List.getElem_cons_zero, Act.put, List.setIfInBounds_toArray, List.set_cons_zero, List.set_cons_succ]
              refine mixs_take 1 (v := ?_) rfl (by kernel_rfl) (fun _ _ _ h => h) (by kernel_rfl) (by assumption) (fun s => ?hy) ?_; case hy => (go_simp <;> with_reducible rfl)
              try simp only [List.getElem_toArray, List.getElem_cons_succ, List.getElem_cons_zero, Act.put, List.setIfInBounds_toArray, List.set_cons_zero, List.set_cons_succ]
              refine mixs_take 2 (v := ?_) rfl (by kernel_rfl) (fun _ _ _ h => h) (by kernel_rfl) (by assumption) (fun s => ?hy) ?_; case hy => (go_simp <;> with_reducible rfl)
              try simp only [List.getElem_toArray, List.getElem_cons_succ, List.getElem_cons_zero, Act.put, List.setIfInBounds_toArray, List.set_cons_zero, List.set_cons_succ]
              refine mixs_take 5 (v := ?_) rfl (by kernel_rfl) (fun _ _ _ h => h) (by kernel_rfl) (by assumption) (fun s => ?hy) ?_; case hy => (go_simp <;> with_reducible rfl)
              try simp only [List.getElem_toArray, List.getElem_cons_succ, List.getElem_cons_zero, Act.put, List.setIfInBounds_toArray, List.set_cons_zero, List.set_cons_succ]
              refine mixs_take 6 (v := ?_) rfl (by kernel_rfl) (fun _ _ _ h => h) (by kernel_rfl) (by assumption) (fun s => ?hy) ?_; case hy => (go_simp <;> with_reducible rfl)
              try simp only [List.getElem_toArray, List.getElem_cons_succ, List.getElem_cons_zero, Act.put, List.setIfInBounds_toArray, List.set_cons_zero, List.set_cons_succ]
              refine mixs_one 3 (by kernel_rfl) rfl (fun K hK => ?_)
              go_simp
              ( first | (go_at_call 30; (with_reducible refine (cT.out _).mono ?_); rintro _ w3 ⟨rfl, hb3⟩; have hS1 := hS.keepB hb3; clear hb3 hS; have hS := hS1; clear hS1) | (go_at_call 35; (with_reducible refine (cS.out _ hS.pre1).mono ?_); rintro _ w5 ⟨rfl, wv5, hk⟩; have hS1 := hS.call1 hk; clear hS hk; have hS := hS1; clear hS1) | (go_at_call 36; (with_reducible refine (cR.out _ hS.pre2).mono ?_); rintro _ w6 ⟨rfl, sv6, wv6, hk⟩; have hS1 := hS.call2 hk; clear hS hk; have hS := hS1; clear hS1) )
              try clear hC
              refine hK.out _ _ _ (fun _ h => h) (by first | exact hS | exact hS.drop | exact hS.drop.drop | exact hS.drop.drop.drop | exact hS.drop.drop.drop.drop | exact hS.empty | exact hS.one 0 rfl | exact hS.one 1 rfl | exact hS.one 2 rfl | exact hS.one 3 rfl | exact hS.one 4 rfl | exact hS.one 5 rfl | exact hS.one 6 rfl | exact hS.one 7 rfl | exact hS.one 8 rfl | exact hS.one 9 rfl | exact hS.one 10 rfl | exact hS.one 11 rfl) (fun hC => ?_)
              clear hK K
              try simp only [List.getElem_toArray, List.getElem_cons_succ, List.getElem_cons_zero, Act.put, List.setIfInBounds_toArray, List.set_cons_zero, List.set_cons_succ]
              refine mixs_one 4 (by kernel_rfl) rfl (fun K hK => ?_)
              go_simp
              ( first | (go_at_call 30; (with_reducible refine (cT.out _).mono ?_); rintro _ w3 ⟨rfl, hb3⟩; have hS1 := hS.keepB hb3; clear hb3 hS; have hS := hS1; clear hS1) | (go_at_call 35; (with_reducible refine (cS.out _ hS.pre1).mono ?_); rintro _ w5 ⟨rfl, wv5, hk⟩; have hS1 := hS.call1 hk; clear hS hk; have hS := hS1; clear hS1) | (go_at_call 36; (with_reducible refine (cR.out _ hS.pre2).mono ?_); rintro _ w6 ⟨rfl, sv6, wv6, hk⟩; have hS1 := hS.call2 hk; clear hS hk; have hS := hS1; clear hS1) )
              try clear hC
              refine hK.out _ _ _ (fun _ h => h) (by first | exact hS | exact hS.drop | exact hS.drop.drop | exact hS.drop.drop.drop | exact hS.drop.drop.drop.drop | exact hS.empty | exact hS.one 0 rfl | exact hS.one 1 rfl | exact hS.one 2 rfl | exact hS.one 3 rfl | exact hS.one 4 rfl | exact hS.one 5 rfl | exact hS.one 6 rfl | exact hS.one 7 rfl | exact hS.one 8 rfl | exact hS.one 9 rfl | exact hS.one 10 rfl | exact hS.one 11 rfl) (fun hC => ?_)
              clear hK K
              try simp only [List.getElem_toArray, List.getElem_cons_succ, List.getElem_cons_zero, Act.put, List.setIfInBounds_toArray, List.set_cons_zero, List.set_cons_succ]
              refine mixs_one 7 (by kernel_rfl) rfl (fun K hK => ?_)
              go_simp
              ( first | (go_at_call 30; (with_reducible refine (cT.out _).mono ?_); rintro _ w3 ⟨rfl, hb3⟩; have hS1 := hS.keepB hb3; clear hb3 hS; have hS := hS1; clear hS1) | (go_at_call 35; (with_reducible refine (cS.out _ hS.pre1).mono ?_); rintro _ w5 ⟨rfl, wv5, hk⟩; have hS1 := hS.call1 hk; clear hS hk; have hS := hS1; clear hS1) | (go_at_call 36; (with_reducible refine (cR.out _ hS.pre2).mono ?_); rintro _ w6 ⟨rfl, sv6, wv6, hk⟩; have hS1 := hS.call2 hk; clear hS hk; have hS := hS1; clear hS1) )
              try clear hC
              refine hK.out _ _ _ (fun _ h => h) (by first | exact hS | exact hS.drop | exact hS.drop.drop | exact hS.drop.drop.drop | exact hS.drop.drop.drop.drop | exact hS.empty | exact hS.one 0 rfl | exact hS.one 1 rfl | exact hS.one 2 rfl | exact hS.one 3 rfl | exact hS.one 4 rfl | exact hS.one 5 rfl | exact hS.one 6 rfl | exact hS.one 7 rfl | exact hS.one 8 rfl | exact hS.one 9 rfl | exact hS.one 10 rfl | exact hS.one 11 rfl) (fun hC => ?_)
              clear hK K
              try simp only [List.getElem_toArray, List.getElem_cons_succ, List.getElem_cons_zero, Act.put, List.setIfInBounds_toArray, List.set_cons_zero, List.set_cons_succ]
              refine mixs_take 8 (v := ?_) rfl (by kernel_rfl) (fun _ _ _ h => h) (by kernel_rfl) (by assumption) (fun s => ?hy) ?_; case hy => (go_simp <;> with_reducible rfl)
              try simp only [List.getElem_toArray, List.getElem_cons_succ, List.getElem_cons_zero, Act.put, List.setIfInBounds_toArray, List.set_cons_zero, List.set_cons_succ]
              refine wpAnyH_done (by kernel_rfl) ?_ _
              exact ⟨wv5, sv6, wv6, rfl, hS⟩
            intro wv5 sv6 wv6 w15 hS
            go_wp2_with (first
              | (go_at_call 39; (with_reducible refine (cL.out _ _ _ hS.pre1).mono ?_); rintro _ w12 ⟨rfl, hk⟩; have hS1 := hS.call1 hk; clear hS hk; have hS := hS1; clear hS1)
              | ((with_reducible refine wpList_alloc_st hS rfl rfl ez ?_); intro gx w1 hS1; clear hS; have hS := hS1; clear hS1)
              | ((with_reducible refine wpList_alloc_st hS rfl rfl ey ?_); intro gy w1 hS1; clear hS; have hS := hS1; clear hS1)
              | ((with_reducible refine wpList_loadall_st 5 hS rfl rfl rfl rfl ?_ (by kernel_rfl) ?_); focus (simp [rowB, go_sem]; done))
              | (go_at_call 40; (with_reducible refine (cM.out _ _ _ (hS.preM (A := _ :: _ :: dks bd _ _ _) (B := rdk g1 _ _ _) (R := []))).mono ?_); rintro _ w13 ⟨rfl, hk⟩; have hS1 := hS.callM (A := _ :: _ :: dks bd _ _ _) (R := []) hk; clear hS hk; simp only [List.cons_append, List.nil_append] at hS1; have hS := hS1; clear hS1)
              | (with_reducible refine wpList_box_st hS rfl rfl rfl ?_; intro g1 w1 hS1; clear hS; replace hS := hS1; clear hS1) | (with_reducible refine wpList_box1_st hS rfl rfl rfl ?_; intro g1 w1 hS1; clear hS; replace hS := hS1; clear hS1) | (with_reducible refine wpList_alloc_st hS rfl rfl (by assumption) ?_; intro g1 w1 hS1; clear hS; replace hS := hS1; clear hS1) | (with_reducible refine wpList_alloc1_st hS rfl rfl (by assumption) rfl ?_; intro g1 w1 hS1; clear hS; replace hS := hS1; clear hS1) | ((with_reducible refine wpList_load_st 0 hS rfl rfl rfl rfl ?_ rfl ?_); focus (simp [scalarB, go_sem]; done)) | ((with_reducible refine wpList_loadall_st 0 hS rfl rfl rfl rfl ?_ (by kernel_rfl) ?_); focus (simp [rowB, go_sem]; done)) | ((with_reducible refine wpList_store_st 0 hS rfl rfl rfl rfl (by kernel_rfl) rfl rfl ?_); intro w1 hS1; clear hS; replace hS := hS1; clear hS1; try simp only [List.set_cons_zero, List.set_cons_succ, List.setIfInBounds_toArray, List.take_succ_cons, List.take_zero, List.drop_succ_cons, List.drop_zero, List.nil_append, List.cons_append, List.append_nil, List.drop_nil, List.take_nil, List.length_cons, List.length_nil, Nat.zero_add, Nat.add_zero, Nat.reduceAdd] at hS) | ((with_reducible refine wpList_storerow_st 0 hS rfl rfl rfl rfl (by kernel_rfl) rfl rfl rfl rfl ?_); intro w1 hS1; clear hS; replace hS := hS1; clear hS1; try simp only [List.set_cons_zero, List.set_cons_succ, List.setIfInBounds_toArray, List.take_succ_cons, List.take_zero, List.drop_succ_cons, List.drop_zero, List.nil_append, List.cons_append, List.append_nil, List.drop_nil, List.take_nil, List.length_cons, List.length_nil, Nat.zero_add, Nat.add_zero, Nat.reduceAdd] at hS))
            revert hS
            apply wp_cut0
            · intro hS
              have k0 := hS.kblk 0 rfl
              have k1 := hS.kblk 1 rfl
              refine mixs_begin (by kernel_rfl) hS ?_
              clear hS
              intro w6 hS
              refine mixs_take 0 (v := ?_) rfl (by kernel_rfl) (fun _ _ _ h => h) (by kernel_rfl) (by assumption) (fun s => ?hy) ?_; case hy => (go_simp <;> with_reducible rfl)
              try simp only [List.getElem_toArray, List.getElem_cons_succ, List.getElem_cons_zero, Act.put, List.setIfInBounds_toArray, List.set_cons_zero, List.set_cons_succ]
              refine mixs_take 2 (v := ?_) rfl (by kernel_rfl) (fun _ _ _ h => h) (by kernel_rfl) (by assumption) (fun s => ?hy) ?_; case hy => (go_simp <;> with_reducible rfl)
              try simp only [List.getElem_toArray, List.getElem_cons_succ, List.getElem_cons_zero, Act.put, List.setIfInBounds_toArray, List.set_cons_zero, List.set_cons_succ]
              refine mixs_one 1 (by kernel_rfl) rfl (fun K hK => ?_)
              go_simp
              ( first | (go_at_call 34; (with_reducible refine (cF.out _).mono ?_); rintro _ w3 ⟨rfl, hb3⟩; have hS1 := hS.keepB hb3; clear hb3 hS; have hS := hS1; clear hS1) )
              try clear hC
              refine hK.out _ _ _ (fun _ h => h) (by first | exact hS | exact hS.drop | exact hS.drop.drop | exact hS.drop.drop.drop | exact hS.drop.drop.drop.drop | exact hS.empty | exact hS.one 0 rfl | exact hS.one 1 rfl | exact hS.one 2 rfl | exact hS.one 3 rfl | exact hS.one 4 rfl | exact hS.one 5 rfl | exact hS.one 6 rfl | exact hS.one 7 rfl | exact hS.one 8 rfl | exact hS.one 9 rfl | exact hS.one 10 rfl | exact hS.one 11 rfl) (fun hC => ?_)
              clear hK K
              try simp only [List.getElem_toArray, List.getElem_cons_succ, List.getElem_cons_zero, Act.put, List.setIfInBounds_toArray, List.set_cons_zero, List.set_cons_succ]
              refine mixs_take 3 (v := ?_) rfl (by kernel_rfl) (fun _ _ _ h => h) (by kernel_rfl) (by assumption) (fun s => ?hy) ?_; case hy => (go_simp <;> with_reducible rfl)
              try simp only [List.getElem_toArray, List.getElem_cons_succ, List.getElem_cons_zero, Act.put, List.setIfInBounds_toArray, List.set_cons_zero, List.set_cons_succ]
              refine mixs_take 4 (v := ?_) rfl (by kernel_rfl) (fun _ _ _ h => h) (by kernel_rfl) (by assumption) (fun s => ?hy) ?_; case hy => (go_simp <;> with_reducible rfl)
              try simp only [List.getElem_toArray, List.getElem_cons_succ, List.getElem_cons_zero, Act.put, List.setIfInBounds_toArray, List.set_cons_zero, List.set_cons_succ]
              refine mixs_take 5 (v := ?_) rfl (by kernel_rfl) (fun _ _ _ h => h) (by kernel_rfl) (by assumption) (fun s => ?hy) ?_; case hy => (go_simp <;> with_reducible rfl)
              try simp only [List.getElem_toArray, List.getElem_cons_succ, List.getElem_cons_zero, Act.put, List.setIfInBounds_toArray, List.set_cons_zero, List.set_cons_succ]
              refine mixs_take 6 (v := ?_) rfl (by kernel_rfl) (fun _ _ _ h => h) (by kernel_rfl) (by assumption) (fun s => ?hy) ?_; case hy => (go_simp <;> with_reducible rfl)
              try simp only [List.getElem_toArray, List.getElem_cons_succ, List.getElem_cons_zero, Act.put, List.setIfInBounds_toArray, List.set_cons_zero, List.set_cons_succ]
              refine mixs_take 7 (v := ?_) rfl (by kernel_rfl) (fun _ _ _ h => h) (by kernel_rfl) (by assumption) (fun s => ?hy) ?_; case hy => (go_simp <;> with_reducible rfl)
              try simp only [List.getElem_toArray, List.getElem_cons_succ, List.getElem_cons_zero, Act.put, List.setIfInBounds_toArray, List.set_cons_zero, List.set_cons_succ]
              refine mixs_take 8 (v := ?_) rfl (by kernel_rfl) (fun _ _ _ h => h) (by kernel_rfl) (by assumption) (fun s => ?hy) ?_; case hy => (go_simp <;> with_reducible rfl)
              try simp only [List.getElem_toArray, List.getElem_cons_succ, List.getElem_cons_zero, Act.put, List.setIfInBounds_toArray, List.set_cons_zero, List.set_cons_succ]
              refine wpAnyH_done (by kernel_rfl) ?_ _
              exact ⟨rfl, hS⟩
            intro w16 hS
            go_wp2_with fail
            go_roundg (n - (j + 1))
            case measure => omega
            case rel => exact ⟨j + 1, _, _, _, _, _, by omega, by omega, by go_num, hfit', hS.drop.drop.drop⟩
          · rw [if_neg h0] at hD1
            have b0 : (kind == 0) = false := by rw [beq_eq_false_iff_ne]; exact h0
            clear h0
            by_cases h1k : kind = 1
            · subst h1k
              rw [if_pos rfl] at hD1
              subst hD1
              have cS := fun W hh => fuse_any bd sv wv D z W hh
              replace cS := Lib.hid cS
              clear hfit hok hw hl hfz hkb2 hkm hap1 hap2
              go_wp2_with (first
                | ((with_reducible refine wpList_alloc_st hS rfl rfl eA ?_); intro g9 w1 hS1; clear hS; have hS := hS1; clear hS1)
                | ((with_reducible refine wpList_storerow_st 0 hS rfl rfl rfl rfl (by kernel_rfl) rfl rfl rfl rfl ?_); intro w1 hS1; clear hS; have hS : St w [] (Ch.blk g9 64 #[.int .i64 1, .int .i64 z, .int .i64 q.seq, .int .i64 q.life, .int .i64 q.head, .slice ak keep.length kc, .string sb] :: (dks bd sv wv D ++ (rdk g1 rsv rwv D ++ []))) w1 := hS1; clear hS1; have hcl := hS.cell 0 rfl)
                | (go_at_call 20; (with_reducible refine (cS.out _ hS.pre1).mono ?_); rintro _ w5 ⟨rfl, hk⟩; have hS1 := hS.call1 hk; clear hS hk; have hS := hS1; clear hS1)
                | (refine wpList_store_st 4 hS rfl rfl rfl rfl (by kernel_rfl) rfl rfl ?_; intro w6 hS1; clear hS; have hS : St w [] (Ch.blk g9 64 #[.int .i64 1, .int .i64 z, .int .i64 q.seq, .int .i64 q.life, .int .i64 q.head, .slice ak keep.length kc, .string sb] :: (dks bd sv wv { D with fuse := z } ++ (rdk g1 rsv rwv { D with fuse := z } ++ []))) w6 := hS1; clear hS1)
                | (go_at_call 39; (with_reducible refine (cL.out _ _ _ hS.pre1).mono ?_); rintro _ w12 ⟨rfl, hk⟩; have hS1 := hS.call1 hk; clear hS hk; have hS := hS1; clear hS1)
                | ((with_reducible refine wpList_alloc_st hS rfl rfl ez ?_); intro gx w1 hS1; clear hS; have hS := hS1; clear hS1)
                | ((with_reducible refine wpList_alloc_st hS rfl rfl ey ?_); intro gy w1 hS1; clear hS; have hS := hS1; clear hS1)
                | ((with_reducible refine wpList_loadall_st 5 hS rfl rfl rfl rfl ?_ (by kernel_rfl) ?_); focus (simp [rowB, go_sem]; done))
                | (go_at_call 40; (with_reducible refine (cM.out _ _ _ (hS.preM (A := _ :: _ :: dks bd _ _ _) (B := rdk g1 _ _ _) (R := []))).mono ?_); rintro _ w13 ⟨rfl, hk⟩; have hS1 := hS.callM (A := _ :: _ :: dks bd _ _ _) (R := []) hk; clear hS hk; simp only [List.cons_append, List.nil_append] at hS1; have hS := hS1; clear hS1)
                | (with_reducible refine wpList_box_st hS rfl rfl rfl ?_; intro g1 w1 hS1; clear hS; replace hS := hS1; clear hS1) | (with_reducible refine wpList_box1_st hS rfl rfl rfl ?_; intro g1 w1 hS1; clear hS; replace hS := hS1; clear hS1) | (with_reducible refine wpList_alloc_st hS rfl rfl (by assumption) ?_; intro g1 w1 hS1; clear hS; replace hS := hS1; clear hS1) | (with_reducible refine wpList_alloc1_st hS rfl rfl (by assumption) rfl ?_; intro g1 w1 hS1; clear hS; replace hS := hS1; clear hS1) | ((with_reducible refine wpList_load_st 0 hS rfl rfl rfl rfl ?_ rfl ?_); focus (simp [scalarB, go_sem]; done)) | ((with_reducible refine wpList_loadall_st 0 hS rfl rfl rfl rfl ?_ (by kernel_rfl) ?_); focus (simp [rowB, go_sem]; done)) | ((with_reducible refine wpList_store_st 0 hS rfl rfl rfl rfl (by kernel_rfl) rfl rfl ?_); intro w1 hS1; clear hS; replace hS := hS1; clear hS1; try simp only [List.set_cons_zero, List.set_cons_succ, List.setIfInBounds_toArray, List.take_succ_cons, List.take_zero, List.drop_succ_cons, List.drop_zero, List.nil_append, List.cons_append, List.append_nil, List.drop_nil, List.take_nil, List.length_cons, List.length_nil, Nat.zero_add, Nat.add_zero, Nat.reduceAdd] at hS) | ((with_reducible refine wpList_storerow_st 0 hS rfl rfl rfl rfl (by kernel_rfl) rfl rfl rfl rfl ?_); intro w1 hS1; clear hS; replace hS := hS1; clear hS1; try simp only [List.set_cons_zero, List.set_cons_succ, List.setIfInBounds_toArray, List.take_succ_cons, List.take_zero, List.drop_succ_cons, List.drop_zero, List.nil_append, List.cons_append, List.append_nil, List.drop_nil, List.take_nil, List.length_cons, List.length_nil, Nat.zero_add, Nat.add_zero, Nat.reduceAdd] at hS))
              revert hS
              apply wp_cut0
              · intro hS
                have k0 := hS.kblk 0 rfl
                have k1 := hS.kblk 1 rfl
                refine mixs_begin (by kernel_rfl) hS ?_
                clear hS
                intro w6 hS
                refine mixs_take 0 (v := ?_) rfl (by kernel_rfl) (fun _ _ _ h => h) (by kernel_rfl) (by assumption) (fun s => ?hy) ?_; case hy => (go_simp <;> with_reducible rfl)
                try simp only [List.getElem_toArray, List.getElem_cons_succ, List.getElem_cons_zero, Act.put, List.setIfInBounds_toArray, List.set_cons_zero, List.set_cons_succ]
                refine mixs_take 2 (v := ?_) rfl (by kernel_rfl) (fun _ _ _ h => h) (by kernel_rfl) (by assumption) (fun s => ?hy) ?_; case hy => (go_simp <;> with_reducible rfl)
                try simp only [List.getElem_toArray, List.getElem_cons_succ, List.getElem_cons_zero, Act.put, List.setIfInBounds_toArray, List.set_cons_zero, List.set_cons_succ]
                refine mixs_one 1 (by kernel_rfl) rfl (fun K hK => ?_)
                go_simp
                ( first | (go_at_call 34; (with_reducible refine (cF.out _).mono ?_); rintro _ w3 ⟨rfl, hb3⟩; have hS1 := hS.keepB hb3; clear hb3 hS; have hS := hS1; clear hS1) )
                try clear hC
                refine hK.out _ _ _ (fun _ h => h) (by first | exact hS | exact hS.drop | exact hS.drop.drop | exact hS.drop.drop.drop | exact hS.drop.drop.drop.drop | exact hS.empty | exact hS.one 0 rfl | exact hS.one 1 rfl | exact hS.one 2 rfl | exact hS.one 3 rfl | exact hS.one 4 rfl | exact hS.one 5 rfl | exact hS.one 6 rfl | exact hS.one 7 rfl | exact hS.one 8 rfl | exact hS.one 9 rfl | exact hS.one 10 rfl | exact hS.one 11 rfl) (fun hC => ?_)
                clear hK K
                try simp only [List.getElem_toArray, List.getElem_cons_succ, List.getElem_cons_zero, Act.put, List.setIfInBounds_toArray, List.set_cons_zero, List.set_cons_succ]
                refine mixs_take 3 (v := ?_) rfl (by kernel_rfl) (fun _ _ _ h => h) (by kernel_rfl) (by assumption) (fun s => ?hy) ?_; case hy => (go_simp <;> with_reducible rfl)
                try simp only [List.getElem_toArray, List.getElem_cons_succ, List.getElem_cons_zero, Act.put, List.setIfInBounds_toArray, List.set_cons_zero, List.set_cons_succ]
                refine mixs_take 4 (v := ?_) rfl (by kernel_rfl) (fun _ _ _ h => h) (by kernel_rfl) (by assumption) (fun s => ?hy) ?_; case hy => (go_simp <;> with_reducible rfl)
                try simp only [List.getElem_toArray, List.getElem_cons_succ, List.getElem_cons_zero, Act.put, List.setIfInBounds_toArray, List.set_cons_zero, List.set_cons_succ]
                refine mixs_take 5 (v := ?_) rfl (by kernel_rfl) (fun _ _ _ h => h) (by kernel_rfl) (by assumption) (fun s => ?hy) ?_; case hy => (go_simp <;> with_reducible rfl)
                try simp only [List.getElem_toArray, List.getElem_cons_succ, List.getElem_cons_zero, Act.put, List.setIfInBounds_toArray, List.set_cons_zero, List.set_cons_succ]
                refine mixs_take 6 (v := ?_) rfl (by kernel_rfl) (fun _ _ _ h => h) (by kernel_rfl) (by assumption) (fun s => ?hy) ?_; case hy => (go_simp <;> with_reducible rfl)
                try simp only [List.getElem_toArray, List.getElem_cons_succ, List.getElem_cons_zero, Act.put, List.setIfInBounds_toArray, List.set_cons_zero, List.set_cons_succ]
                refine mixs_take 7 (v := ?_) rfl (by kernel_rfl) (fun _ _ _ h => h) (by kernel_rfl) (by assumption) (fun s => ?hy) ?_; case hy => (go_simp <;> with_reducible rfl)
                try simp only [List.getElem_toArray, List.getElem_cons_succ, List.getElem_cons_zero, Act.put, List.setIfInBounds_toArray, List.set_cons_zero, List.set_cons_succ]
                refine mixs_take 8 (v := ?_) rfl (by kernel_rfl) (fun _ _ _ h => h) (by kernel_rfl) (by assumption) (fun s => ?hy) ?_; case hy => (go_simp <;> with_reducible rfl)
                try simp only [List.getElem_toArray, List.getElem_cons_succ, List.getElem_cons_zero, Act.put, List.setIfInBounds_toArray, List.set_cons_zero, List.set_cons_succ]
                refine wpAnyH_done (by kernel_rfl) ?_ _
                exact ⟨rfl, hS⟩
              intro w16 hS
              go_wp2_with fail
              go_roundg (n - (j + 1))
              case measure => omega
              case rel => exact ⟨j + 1, _, _, _, _, _, by omega, by omega, by go_num, hfit', hS.drop.drop.drop⟩
            · rw [if_neg h1k] at hD1
              have b1 : (kind == 1) = false := by rw [beq_eq_false_iff_ne]; exact h1k
              clear h1k
              by_cases h2k : kind = 2
              · subst h2k
                rw [if_pos rfl] at hD1
                have cS := fun W hh hs => crash_any bd sv wv D ak keep keep.length kc W hh hok hw hs hkb2 rfl hkm hap1
                have cR := fun W hh hs => rcrash_any g1 rsv rwv D ak keep keep.length kc W hh hok hl hw hs hkb2 rfl hkm hap2
                rw [hD1] at cS cR
                replace cS := Lib.hid cS
                replace cR := Lib.hid cR
                clear hD1 hfit hok hw hl hfz hkb2 hkm hap1 hap2
                go_wp2_with (first
                  | ((with_reducible refine wpList_alloc_st hS rfl rfl eA ?_); intro g9 w1 hS1; clear hS; have hS := hS1; clear hS1)
                  | ((with_reducible refine wpList_storerow_st 0 hS rfl rfl rfl rfl (by kernel_rfl) rfl rfl rfl rfl ?_); intro w1 hS1; clear hS; have hS : St w [] (Ch.blk g9 64 #[.int .i64 2, .int .i64 z, .int .i64 q.seq, .int .i64 q.life, .int .i64 q.head, .slice ak keep.length kc, .string sb] :: (dks bd sv wv D ++ (rdk g1 rsv rwv D ++ []))) w1 := hS1; clear hS1; have hcl := hS.cell 0 rfl)
                  | (go_at_call 21; (with_reducible refine (cS.out _ hS.pre1 (hsl.out _ _ hS)).mono ?_); rintro _ w5 ⟨rfl, wv5, hk⟩; have hS1 := hS.call1 hk; clear hS hk; have hS := hS1; clear hS1)
                  | (go_at_call 37; (with_reducible refine (cR.out _ hS.pre2 (hsl.out _ _ hS)).mono ?_); rintro _ w6 ⟨rfl, sv6, wv6, hk⟩; have hS1 := hS.call2 hk; clear hS hk; have hS := hS1; clear hS1)
                  | (go_at_call 39; (with_reducible refine (cL.out _ _ _ hS.pre1).mono ?_); rintro _ w12 ⟨rfl, hk⟩; have hS1 := hS.call1 hk; clear hS hk; have hS := hS1; clear hS1)
                  | ((with_reducible refine wpList_alloc_st hS rfl rfl ez ?_); intro gx w1 hS1; clear hS; have hS := hS1; clear hS1)
                  | ((with_reducible refine wpList_alloc_st hS rfl rfl ey ?_); intro gy w1 hS1; clear hS; have hS := hS1; clear hS1)
                  | ((with_reducible refine wpList_loadall_st 5 hS rfl rfl rfl rfl ?_ (by kernel_rfl) ?_); focus (simp [rowB, go_sem]; done))
                  | (go_at_call 40; (with_reducible refine (cM.out _ _ _ (hS.preM (A := _ :: _ :: dks bd _ _ _) (B := rdk g1 _ _ _) (R := []))).mono ?_); rintro _ w13 ⟨rfl, hk⟩; have hS1 := hS.callM (A := _ :: _ :: dks bd _ _ _) (R := []) hk; clear hS hk; simp only [List.cons_append, List.nil_append] at hS1; have hS := hS1; clear hS1)
                  | (with_reducible refine wpList_box_st hS rfl rfl rfl ?_; intro g1 w1 hS1; clear hS; replace hS := hS1; clear hS1) | (with_reducible refine wpList_box1_st hS rfl rfl rfl ?_; intro g1 w1 hS1; clear hS; replace hS := hS1; clear hS1) | (with_reducible refine wpList_alloc_st hS rfl rfl (by assumption) ?_; intro g1 w1 hS1; clear hS; replace hS := hS1; clear hS1) | (with_reducible refine wpList_alloc1_st hS rfl rfl (by assumption) rfl ?_; intro g1 w1 hS1; clear hS; replace hS := hS1; clear hS1) | ((with_reducible refine wpList_load_st 0 hS rfl rfl rfl rfl ?_ rfl ?_); focus (simp [scalarB, go_sem]; done)) | ((with_reducible refine wpList_loadall_st 0 hS rfl rfl rfl rfl ?_ (by kernel_rfl) ?_); focus (simp [rowB, go_sem]; done)) | ((with_reducible refine wpList_store_st 0 hS rfl rfl rfl rfl (by kernel_rfl) rfl rfl ?_); intro w1 hS1; clear hS; replace hS := hS1; clear hS1; try simp only [List.set_cons_zero, List.set_cons_succ, List.setIfInBounds_toArray, List.take_succ_cons, List.take_zero, List.drop_succ_cons, List.drop_zero, List.nil_append, List.cons_append, List.append_nil, List.drop_nil, List.take_nil, List.length_cons, List.length_nil, Nat.zero_add, Nat.add_zero, Nat.reduceAdd] at hS) | ((with_reducible refine wpList_storerow_st 0 hS rfl rfl rfl rfl (by kernel_rfl) rfl rfl rfl rfl ?_); intro w1 hS1; clear hS; replace hS := hS1; clear hS1; try simp only [List.set_cons_zero, List.set_cons_succ, List.setIfInBounds_toArray, List.take_succ_cons, List.take_zero, List.drop_succ_cons, List.drop_zero, List.nil_append, List.cons_append, List.append_nil, List.drop_nil, List.take_nil, List.length_cons, List.length_nil, Nat.zero_add, Nat.add_zero, Nat.reduceAdd] at hS))
                revert hS
                apply wp_cut0
                · intro hS
                  have k0 := hS.kblk 0 rfl
                  have k1 := hS.kblk 1 rfl
                  refine mixs_begin (by kernel_rfl) hS ?_
                  clear hS
                  intro w6 hS
                  refine mixs_take 0 (v := ?_) rfl (by kernel_rfl) (fun _ _ _ h => h) (by kernel_rfl) (by assumption) (fun s => ?hy) ?_; case hy => (go_simp <;> with_reducible rfl)
                  try simp only [List.getElem_toArray, List.getElem_cons_succ, List.getElem_cons_zero, Act.put, List.setIfInBounds_toArray, List.set_cons_zero, List.set_cons_succ]
                  refine mixs_take 2 (v := ?_) rfl (by kernel_rfl) (fun _ _ _ h => h) (by kernel_rfl) (by assumption) (fun s => ?hy) ?_; case hy => (go_simp <;> with_reducible rfl)
                  try simp only [List.getElem_toArray, List.getElem_cons_succ, List.getElem_cons_zero, Act.put, List.setIfInBounds_toArray, List.set_cons_zero, List.set_cons_succ]
                  refine mixs_one 1 (by kernel_rfl) rfl (fun K hK => ?_)
                  go_simp
                  ( first | (go_at_call 34; (with_reducible refine (cF.out _).mono ?_); rintro _ w3 ⟨rfl, hb3⟩; have hS1 := hS.keepB hb3; clear hb3 hS; have hS := hS1; clear hS1) )
                  try clear hC
                  refine hK.out _ _ _ (fun _ h => h) (by first | exact hS | exact hS.drop | exact hS.drop.drop | exact hS.drop.drop.drop | exact hS.drop.drop.drop.drop | exact hS.empty | exact hS.one 0 rfl | exact hS.one 1 rfl | exact hS.one 2 rfl | exact hS.one 3 rfl | exact hS.one 4 rfl | exact hS.one 5 rfl | exact hS.one 6 rfl | exact hS.one 7 rfl | exact hS.one 8 rfl | exact hS.one 9 rfl | exact hS.one 10 rfl | exact hS.one 11 rfl) (fun hC => ?_)
                  clear hK K
                  try simp only [List.getElem_toArray, List.getElem_cons_succ, List.getElem_cons_zero, Act.put, List.setIfInBounds_toArray, List.set_cons_zero, List.set_cons_succ]
                  refine mixs_take 3 (v := ?_) rfl (by kernel_rfl) (fun _ _ _ h => h) (by kernel_rfl) (by assumption) (fun s => ?hy) ?_; case hy => (go_simp <;> with_reducible rfl)
                  try simp only [List.getElem_toArray, List.getElem_cons_succ, List.getElem_cons_zero, Act.put, List.setIfInBounds_toArray, List.set_cons_zero, List.set_cons_succ]
                  refine mixs_take 4 (v := ?_) rfl (by kernel_rfl) (fun _ _ _ h => h) (by kernel_rfl) (by assumption) (fun s => ?hy) ?_; case hy => (go_simp <;> with_reducible rfl)
                  try simp only [List.getElem_toArray, List.getElem_cons_succ, List.getElem_cons_zero, Act.put, List.setIfInBounds_toArray, List.set_cons_zero, List.set_cons_succ]
                  refine mixs_take 5 (v := ?_) rfl (by kernel_rfl) (fun _ _ _ h => h) (by kernel_rfl) (by assumption) (fun s => ?hy) ?_; case hy => (go_simp <;> with_reducible rfl)
                  try simp only [List.getElem_toArray, List.getElem_cons_succ, List.getElem_cons_zero, Act.put, List.setIfInBounds_toArray, List.set_cons_zero, List.set_cons_succ]
                  refine mixs_take 6 (v := ?_) rfl (by kernel_rfl) (fun _ _ _ h => h) (by kernel_rfl) (by assumption) (fun s => ?hy) ?_; case hy => (go_simp <;> with_reducible rfl)
                  try simp only [List.getElem_toArray, List.getElem_cons_succ, List.getElem_cons_zero, Act.put, List.setIfInBounds_toArray, List.set_cons_zero, List.set_cons_succ]
                  refine mixs_take 7 (v := ?_) rfl (by kernel_rfl) (fun _ _ _ h => h) (by kernel_rfl) (by assumption) (fun s => ?hy) ?_; case hy => (go_simp <;> with_reducible rfl)
                  try simp only [List.getElem_toArray, List.getElem_cons_succ, List.getElem_cons_zero, Act.put, List.setIfInBounds_toArray, List.set_cons_zero, List.set_cons_succ]
                  refine mixs_take 8 (v := ?_) rfl (by kernel_rfl) (fun _ _ _ h => h) (by kernel_rfl) (by assumption) (fun s => ?hy) ?_; case hy => (go_simp <;> with_reducible rfl)
                  try simp only [List.getElem_toArray, List.getElem_cons_succ, List.getElem_cons_zero, Act.put, List.setIfInBounds_toArray, List.set_cons_zero, List.set_cons_succ]
                  refine wpAnyH_done (by kernel_rfl) ?_ _
                  exact ⟨rfl, hS⟩
                intro w16 hS
                go_wp2_with fail
                go_roundg (n - (j + 1))
                case measure => omega
                case rel => exact ⟨j + 1, _, _, _, _, _, by omega, by omega, by go_num, hfit', hS.drop.drop.drop⟩
              · rw [if_neg h2k] at hD1
                have b2 : (kind == 2) = false := by rw [beq_eq_false_iff_ne]; exact h2k
                clear h2k
                have cS := fun W hh => write_any bd sv wv D z sb W hh hsm hw hfz
                have cR := fun W hh => rwrite_any g1 rsv rwv D z sb W hh hsm hl hw hfz
                rw [hD1] at cS cR
                replace cS := Lib.hid cS
                replace cR := Lib.hid cR
                clear hD1 hfit hok hw hl hfz hkb2 hkm hap1 hap2
                go_wp2_with (first
                  | ((with_reducible refine wpList_alloc_st hS rfl rfl eA ?_); intro g9 w1 hS1; clear hS; have hS := hS1; clear hS1)
                  | ((with_reducible refine wpList_storerow_st 0 hS rfl rfl rfl rfl (by kernel_rfl) rfl rfl rfl rfl ?_); intro w1 hS1; clear hS; have hS : St w [] (Ch.blk g9 64 #[.int .i64 kind, .int .i64 z, .int .i64 q.seq, .int .i64 q.life, .int .i64 q.head, .slice ak keep.length kc, .string sb] :: (dks bd sv wv D ++ (rdk g1 rsv rwv D ++ []))) w1 := hS1; clear hS1; have hcl := hS.cell 0 rfl)
                  | (go_at_call 17; (with_reducible refine (cS.out _ hS.pre1).mono ?_); rintro _ w5 ⟨rfl, wv5, hk⟩; have hS1 := hS.call1 hk; clear hS hk; have hS := hS1; clear hS1)
                  | (go_at_call 38; (with_reducible refine (cR.out _ hS.pre2).mono ?_); rintro _ w6 ⟨rfl, wv6, hk⟩; have hS1 := hS.call2 hk; clear hS hk; have hS := hS1; clear hS1)
                  | (go_at_call 39; (with_reducible refine (cL.out _ _ _ hS.pre1).mono ?_); rintro _ w12 ⟨rfl, hk⟩; have hS1 := hS.call1 hk; clear hS hk; have hS := hS1; clear hS1)
                  | ((with_reducible refine wpList_alloc_st hS rfl rfl ez ?_); intro gx w1 hS1; clear hS; have hS := hS1; clear hS1)
                  | ((with_reducible refine wpList_alloc_st hS rfl rfl ey ?_); intro gy w1 hS1; clear hS; have hS := hS1; clear hS1)
                  | ((with_reducible refine wpList_loadall_st 5 hS rfl rfl rfl rfl ?_ (by kernel_rfl) ?_); focus (simp [rowB, go_sem]; done))
                  | (go_at_call 40; (with_reducible refine (cM.out _ _ _ (hS.preM (A := _ :: _ :: dks bd _ _ _) (B := rdk g1 _ _ _) (R := []))).mono ?_); rintro _ w13 ⟨rfl, hk⟩; have hS1 := hS.callM (A := _ :: _ :: dks bd _ _ _) (R := []) hk; clear hS hk; simp only [List.cons_append, List.nil_append] at hS1; have hS := hS1; clear hS1)
                  | (with_reducible refine wpList_box_st hS rfl rfl rfl ?_; intro g1 w1 hS1; clear hS; replace hS := hS1; clear hS1) | (with_reducible refine wpList_box1_st hS rfl rfl rfl ?_; intro g1 w1 hS1; clear hS; replace hS := hS1; clear hS1) | (with_reducible refine wpList_alloc_st hS rfl rfl (by assumption) ?_; intro g1 w1 hS1; clear hS; replace hS := hS1; clear hS1) | (with_reducible refine wpList_alloc1_st hS rfl rfl (by assumption) rfl ?_; intro g1 w1 hS1; clear hS; replace hS := hS1; clear hS1) | ((with_reducible refine wpList_load_st 0 hS rfl rfl rfl rfl ?_ rfl ?_); focus (simp [scalarB, go_sem]; done)) | ((with_reducible refine wpList_loadall_st 0 hS rfl rfl rfl rfl ?_ (by kernel_rfl) ?_); focus (simp [rowB, go_sem]; done)) | ((with_reducible refine wpList_store_st 0 hS rfl rfl rfl rfl (by kernel_rfl) rfl rfl ?_); intro w1 hS1; clear hS; replace hS := hS1; clear hS1; try simp only [List.set_cons_zero, List.set_cons_succ, List.setIfInBounds_toArray, List.take_succ_cons, List.take_zero, List.drop_succ_cons, List.drop_zero, List.nil_append, List.cons_append, List.append_nil, List.drop_nil, List.take_nil, List.length_cons, List.length_nil, Nat.zero_add, Nat.add_zero, Nat.reduceAdd] at hS) | ((with_reducible refine wpList_storerow_st 0 hS rfl rfl rfl rfl (by kernel_rfl) rfl rfl rfl rfl ?_); intro w1 hS1; clear hS; replace hS := hS1; clear hS1; try simp only [List.set_cons_zero, List.set_cons_succ, List.setIfInBounds_toArray, List.take_succ_cons, List.take_zero, List.drop_succ_cons, List.drop_zero, List.nil_append, List.cons_append, List.append_nil, List.drop_nil, List.take_nil, List.length_cons, List.length_nil, Nat.zero_add, Nat.add_zero, Nat.reduceAdd] at hS))
                revert hS
                apply wp_cut0
                · intro hS
                  have k0 := hS.kblk 0 rfl
                  have k1 := hS.kblk 1 rfl
                  refine mixs_begin (by kernel_rfl) hS ?_
                  clear hS
                  intro w6 hS
                  refine mixs_take 0 (v := ?_) rfl (by kernel_rfl) (fun _ _ _ h => h) (by kernel_rfl) (by assumption) (fun s => ?hy) ?_; case hy => (go_simp <;> with_reducible rfl)
                  try simp only [List.getElem_toArray, List.getElem_cons_succ, List.getElem_cons_zero, Act.put, List.setIfInBounds_toArray, List.set_cons_zero, List.set_cons_succ]
                  refine mixs_take 2 (v := ?_) rfl (by kernel_rfl) (fun _ _ _ h => h) (by kernel_rfl) (by assumption) (fun s => ?hy) ?_; case hy => (go_simp <;> with_reducible rfl)
                  try simp only [List.getElem_toArray, List.getElem_cons_succ, List.getElem_cons_zero, Act.put, List.setIfInBounds_toArray, List.set_cons_zero, List.set_cons_succ]
                  refine mixs_one 1 (by kernel_rfl) rfl (fun K hK => ?_)
                  go_simp
                  ( first | (go_at_call 34; (with_reducible refine (cF.out _).mono ?_); rintro _ w3 ⟨rfl, hb3⟩; have hS1 := hS.keepB hb3; clear hb3 hS; have hS := hS1; clear hS1) )
                  try clear hC
                  refine hK.out _ _ _ (fun _ h => h) (by first | exact hS | exact hS.drop | exact hS.drop.drop | exact hS.drop.drop.drop | exact hS.drop.drop.drop.drop | exact hS.empty | exact hS.one 0 rfl | exact hS.one 1 rfl | exact hS.one 2 rfl | exact hS.one 3 rfl | exact hS.one 4 rfl | exact hS.one 5 rfl | exact hS.one 6 rfl | exact hS.one 7 rfl | exact hS.one 8 rfl | exact hS.one 9 rfl | exact hS.one 10 rfl | exact hS.one 11 rfl) (fun hC => ?_)
                  clear hK K
                  try simp only [List.getElem_toArray, List.getElem_cons_succ, List.getElem_cons_zero, Act.put, List.setIfInBounds_toArray, List.set_cons_zero, List.set_cons_succ]
                  refine mixs_take 3 (v := ?_) rfl (by kernel_rfl) (fun _ _ _ h => h) (by kernel_rfl) (by assumption) (fun s => ?hy) ?_; case hy => (go_simp <;> with_reducible rfl)
                  try simp only [List.getElem_toArray, List.getElem_cons_succ, List.getElem_cons_zero, Act.put, List.setIfInBounds_toArray, List.set_cons_zero, List.set_cons_succ]
                  refine mixs_take 4 (v := ?_) rfl (by kernel_rfl) (fun _ _ _ h => h) (by kernel_rfl) (by assumption) (fun s => ?hy) ?_; case hy => (go_simp <;> with_reducible rfl)
                  try simp only [List.getElem_toArray, List.getElem_cons_succ, List.getElem_cons_zero, Act.put, List.setIfInBounds_toArray, List.set_cons_zero, List.set_cons_succ]
                  refine mixs_take 5 (v := ?_) rfl (by kernel_rfl) (fun _ _ _ h => h) (by kernel_rfl) (by assumption) (fun s => ?hy) ?_; case hy => (go_simp <;> with_reducible rfl)
                  try simp only [List.getElem_toArray, List.getElem_cons_succ, List.getElem_cons_zero, Act.put, List.setIfInBounds_toArray, List.set_cons_zero, List.set_cons_succ]
                  refine mixs_take 6 (v := ?_) rfl (by kernel_rfl) (fun _ _ _ h => h) (by kernel_rfl) (by assumption) (fun s => ?hy) ?_; case hy => (go_simp <;> with_reducible rfl)
                  try simp only [List.getElem_toArray, List.getElem_cons_succ, List.getElem_cons_zero, Act.put, List.setIfInBounds_toArray, List.set_cons_zero, List.set_cons_succ]
                  refine mixs_take 7 (v := ?_) rfl (by kernel_rfl) (fun _ _ _ h => h) (by kernel_rfl) (by assumption) (fun s => ?hy) ?_; case hy => (go_simp <;> with_reducible rfl)
                  try simp only [List.getElem_toArray, List.getElem_cons_succ, List.getElem_cons_zero, Act.put, List.setIfInBounds_toArray, List.set_cons_zero, List.set_cons_succ]
                  refine mixs_take 8 (v := ?_) rfl (by kernel_rfl) (fun _ _ _ h => h) (by kernel_rfl) (by assumption) (fun s => ?hy) ?_; case hy => (go_simp <;> with_reducible rfl)
                  try simp only [List.getElem_toArray, List.getElem_cons_succ, List.getElem_cons_zero, Act.put, List.setIfInBounds_toArray, List.set_cons_zero, List.set_cons_succ]
                  refine wpAnyH_done (by kernel_rfl) ?_ _
                  exact ⟨rfl, hS⟩
                intro w16 hS
                go_wp2_with fail
                go_roundg (n - (j + 1))
                case measure => omega
                case rel => exact ⟨j + 1, _, _, _, _, _, by omega, by omega, by go_num, hfit', hS.drop.drop.drop⟩
        · have hk61 : 60 < keep.length := by omega
          clear hk60
          go_wp2_with (first
            | ((with_reducible refine wpList_alloc_st hS rfl rfl eA ?_); intro g9 w1 hS1; clear hS; have hS := hS1; clear hS1)
            | ((with_reducible refine wpList_storerow_st 0 hS rfl rfl rfl rfl (by kernel_rfl) rfl rfl rfl rfl ?_); intro w1 hS1; clear hS; have hS := hS1; clear hS1; try simp only [List.set_cons_zero, List.set_cons_succ, List.setIfInBounds_toArray, List.take_succ_cons, List.take_zero, List.drop_succ_cons, List.drop_zero, List.nil_append, List.cons_append, List.append_nil, List.drop_nil, List.take_nil, List.length_cons, List.length_nil, Nat.zero_add, Nat.add_zero, Nat.reduceAdd] at hS; have hcl := hS.cell 0 rfl)
            | (with_reducible refine wpList_box_st hS rfl rfl rfl ?_; intro g1 w1 hS1; clear hS; replace hS := hS1; clear hS1) | (with_reducible refine wpList_box1_st hS rfl rfl rfl ?_; intro g1 w1 hS1; clear hS; replace hS := hS1; clear hS1) | (with_reducible refine wpList_alloc_st hS rfl rfl (by assumption) ?_; intro g1 w1 hS1; clear hS; replace hS := hS1; clear hS1) | (with_reducible refine wpList_alloc1_st hS rfl rfl (by assumption) rfl ?_; intro g1 w1 hS1; clear hS; replace hS := hS1; clear hS1) | ((with_reducible refine wpList_load_st 0 hS rfl rfl rfl rfl ?_ rfl ?_); focus (simp [scalarB, go_sem]; done)) | ((with_reducible refine wpList_loadall_st 0 hS rfl rfl rfl rfl ?_ (by kernel_rfl) ?_); focus (simp [rowB, go_sem]; done)) | ((with_reducible refine wpList_store_st 0 hS rfl rfl rfl rfl (by kernel_rfl) rfl rfl ?_); intro w1 hS1; clear hS; replace hS := hS1; clear hS1; try simp only [List.set_cons_zero, List.set_cons_succ, List.setIfInBounds_toArray, List.take_succ_cons, List.take_zero, List.drop_succ_cons, List.drop_zero, List.nil_append, List.cons_append, List.append_nil, List.drop_nil, List.take_nil, List.length_cons, List.length_nil, Nat.zero_add, Nat.add_zero, Nat.reduceAdd] at hS) | ((with_reducible refine wpList_storerow_st 0 hS rfl rfl rfl rfl (by kernel_rfl) rfl rfl rfl rfl ?_); intro w1 hS1; clear hS; replace hS := hS1; clear hS1; try simp only [List.set_cons_zero, List.set_cons_succ, List.setIfInBounds_toArray, List.take_succ_cons, List.take_zero, List.drop_succ_cons, List.drop_zero, List.nil_append, List.cons_append, List.append_nil, List.drop_nil, List.take_nil, List.length_cons, List.length_nil, Nat.zero_add, Nat.add_zero, Nat.reduceAdd] at hS)
            | (go_at_call 26; (with_reducible refine (cA.out _).mono ?_); rintro _ w3 ⟨rfl, hb3⟩; have hS1 := hS.keepB hb3; clear hb3 hS; have hS := hS1; clear hS1))
          go_ret
          exact ⟨rfl, hS.below⟩
      · have hs201 : 200 < sb.size := by omega
        unfold maxLen at hsm
        clear hs200
        go_wp2_with (first
          | ((with_reducible refine wpList_alloc_st hS rfl rfl eA ?_); intro g9 w1 hS1; clear hS; have hS := hS1; clear hS1)
          | (with_reducible refine wpList_box_st hS rfl rfl rfl ?_; intro g1 w1 hS1; clear hS; replace hS := hS1; clear hS1) | (with_reducible refine wpList_box1_st hS rfl rfl rfl ?_; intro g1 w1 hS1; clear hS; replace hS := hS1; clear hS1) | (with_reducible refine wpList_alloc_st hS rfl rfl (by assumption) ?_; intro g1 w1 hS1; clear hS; replace hS := hS1; clear hS1) | (with_reducible refine wpList_alloc1_st hS rfl rfl (by assumption) rfl ?_; intro g1 w1 hS1; clear hS; replace hS := hS1; clear hS1) | ((with_reducible refine wpList_load_st 0 hS rfl rfl rfl rfl ?_ rfl ?_); focus (simp [scalarB, go_sem]; done)) | ((with_reducible refine wpList_loadall_st 0 hS rfl rfl rfl rfl ?_ (by kernel_rfl) ?_); focus (simp [rowB, go_sem]; done)) | ((with_reducible refine wpList_store_st 0 hS rfl rfl rfl rfl (by kernel_rfl) rfl rfl ?_); intro w1 hS1; clear hS; replace hS := hS1; clear hS1; try simp only [List.set_cons_zero, List.set_cons_succ, List.setIfInBounds_toArray, List.take_succ_cons, List.take_zero, List.drop_succ_cons, List.drop_zero, List.nil_append, List.cons_append, List.append_nil, List.drop_nil, List.take_nil, List.length_cons, List.length_nil, Nat.zero_add, Nat.add_zero, Nat.reduceAdd] at hS) | ((with_reducible refine wpList_storerow_st 0 hS rfl rfl rfl rfl (by kernel_rfl) rfl rfl rfl rfl ?_); intro w1 hS1; clear hS; replace hS := hS1; clear hS1; try simp only [List.set_cons_zero, List.set_cons_succ, List.setIfInBounds_toArray, List.take_succ_cons, List.take_zero, List.drop_succ_cons, List.drop_zero, List.nil_append, List.cons_append, List.append_nil, List.drop_nil, List.take_nil, List.length_cons, List.length_nil, Nat.zero_add, Nat.add_zero, Nat.reduceAdd] at hS)
          | (go_at_call 26; (with_reducible refine (cA.out _).mono ?_); rintro _ w3 ⟨rfl, hb3⟩; have hS1 := hS.keepB hb3; clear hb3 hS; have hS := hS1; clear hS1))
        go_ret
        exact ⟨rfl, hS.below⟩
    · have cL := tload_nil
      have cS := fun W => tstore_nil ⟨1, 1, 0⟩ W
      have ez := elem_root
      replace cL := Lib.hid cL
      replace cS := Lib.hid cS
      by_cases hlt : j < n
      · have hl1 : 60 ≤ j := by omega
        clear hend
        go_wp2_with (first
          | (go_at_call 39; (with_reducible refine (cL.out _).mono ?_); rintro _ w3 ⟨rfl, hb3⟩; have hS1 := hS.keepB hb3; clear hb3 hS; have hS := hS1; clear hS1)
          | (go_at_call 35; (with_reducible refine (cS.out _).mono ?_); rintro _ w3 ⟨rfl, hb3⟩; have hS1 := hS.keepB hb3; clear hb3 hS; have hS := hS1; clear hS1)
          | (with_reducible refine wpList_box_st hS rfl rfl rfl ?_; intro g1 w1 hS1; clear hS; replace hS := hS1; clear hS1) | (with_reducible refine wpList_box1_st hS rfl rfl rfl ?_; intro g1 w1 hS1; clear hS; replace hS := hS1; clear hS1) | (with_reducible refine wpList_alloc_st hS rfl rfl (by assumption) ?_; intro g1 w1 hS1; clear hS; replace hS := hS1; clear hS1) | (with_reducible refine wpList_alloc1_st hS rfl rfl (by assumption) rfl ?_; intro g1 w1 hS1; clear hS; replace hS := hS1; clear hS1) | ((with_reducible refine wpList_load_st 0 hS rfl rfl rfl rfl ?_ rfl ?_); focus (simp [scalarB, go_sem]; done)) | ((with_reducible refine wpList_loadall_st 0 hS rfl rfl rfl rfl ?_ (by kernel_rfl) ?_); focus (simp [rowB, go_sem]; done)) | ((with_reducible refine wpList_store_st 0 hS rfl rfl rfl rfl (by kernel_rfl) rfl rfl ?_); intro w1 hS1; clear hS; replace hS := hS1; clear hS1; try simp only [List.set_cons_zero, List.set_cons_succ, List.setIfInBounds_toArray, List.take_succ_cons, List.take_zero, List.drop_succ_cons, List.drop_zero, List.nil_append, List.cons_append, List.append_nil, List.drop_nil, List.take_nil, List.length_cons, List.length_nil, Nat.zero_add, Nat.add_zero, Nat.reduceAdd] at hS) | ((with_reducible refine wpList_storerow_st 0 hS rfl rfl rfl rfl (by kernel_rfl) rfl rfl rfl rfl ?_); intro w1 hS1; clear hS; replace hS := hS1; clear hS1; try simp only [List.set_cons_zero, List.set_cons_succ, List.setIfInBounds_toArray, List.take_succ_cons, List.take_zero, List.drop_succ_cons, List.drop_zero, List.nil_append, List.cons_append, List.append_nil, List.drop_nil, List.take_nil, List.length_cons, List.length_nil, Nat.zero_add, Nat.add_zero, Nat.reduceAdd] at hS)
          | (go_at_call 26; (with_reducible refine (cA.out _).mono ?_); rintro _ w3 ⟨rfl, hb3⟩; have hS1 := hS.keepB hb3; clear hb3 hS; have hS := hS1; clear hS1))
        go_ret
        exact ⟨rfl, hS.below⟩
      · clear hend
        go_wp2_with (first
          | (go_at_call 39; (with_reducible refine (cL.out _).mono ?_); rintro _ w3 ⟨rfl, hb3⟩; have hS1 := hS.keepB hb3; clear hb3 hS; have hS := hS1; clear hS1)
          | (go_at_call 35; (with_reducible refine (cS.out _).mono ?_); rintro _ w3 ⟨rfl, hb3⟩; have hS1 := hS.keepB hb3; clear hb3 hS; have hS := hS1; clear hS1)
          | (with_reducible refine wpList_box_st hS rfl rfl rfl ?_; intro g1 w1 hS1; clear hS; replace hS := hS1; clear hS1) | (with_reducible refine wpList_box1_st hS rfl rfl rfl ?_; intro g1 w1 hS1; clear hS; replace hS := hS1; clear hS1) | (with_reducible refine wpList_alloc_st hS rfl rfl (by assumption) ?_; intro g1 w1 hS1; clear hS; replace hS := hS1; clear hS1) | (with_reducible refine wpList_alloc1_st hS rfl rfl (by assumption) rfl ?_; intro g1 w1 hS1; clear hS; replace hS := hS1; clear hS1) | ((with_reducible refine wpList_load_st 0 hS rfl rfl rfl rfl ?_ rfl ?_); focus (simp [scalarB, go_sem]; done)) | ((with_reducible refine wpList_loadall_st 0 hS rfl rfl rfl rfl ?_ (by kernel_rfl) ?_); focus (simp [rowB, go_sem]; done)) | ((with_reducible refine wpList_store_st 0 hS rfl rfl rfl rfl (by kernel_rfl) rfl rfl ?_); intro w1 hS1; clear hS; replace hS := hS1; clear hS1; try simp only [List.set_cons_zero, List.set_cons_succ, List.setIfInBounds_toArray, List.take_succ_cons, List.take_zero, List.drop_succ_cons, List.drop_zero, List.nil_append, List.cons_append, List.append_nil, List.drop_nil, List.take_nil, List.length_cons, List.length_nil, Nat.zero_add, Nat.add_zero, Nat.reduceAdd] at hS) | ((with_reducible refine wpList_storerow_st 0 hS rfl rfl rfl rfl (by kernel_rfl) rfl rfl rfl rfl ?_); intro w1 hS1; clear hS; replace hS := hS1; clear hS1; try simp only [List.set_cons_zero, List.set_cons_succ, List.setIfInBounds_toArray, List.take_succ_cons, List.take_zero, List.drop_succ_cons, List.drop_zero, List.nil_append, List.cons_append, List.append_nil, List.drop_nil, List.take_nil, List.length_cons, List.length_nil, Nat.zero_add, Nat.add_zero, Nat.reduceAdd] at hS)
          | (go_at_call 26; (with_reducible refine (cA.out _).mono ?_); rintro _ w3 ⟨rfl, hb3⟩; have hS1 := hS.keepB hb3; clear hb3 hS; have hS := hS1; clear hS1))
        go_ret
        exact ⟨rfl, hS.below⟩
end Go.Proofs.Ytlhpibniecfofaa
end
