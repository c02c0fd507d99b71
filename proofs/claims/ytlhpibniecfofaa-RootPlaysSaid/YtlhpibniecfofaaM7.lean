/- Texts laid together: DiskFit RootDk Root6 Root7 OctetBack Root8 Root9 Reads2 Root5 Open3. -/
import Derived.ShutString
import Derived.Test.YtlhpibniecfofaaM1
import Derived.Test.YtlhpibniecfofaaM2
import Derived.Test.YtlhpibniecfofaaM3
import Derived.Test.YtlhpibniecfofaaM4
import Derived.Test.YtlhpibniecfofaaM5
import Derived.Test.YtlhpibniecfofaaM6
section
/- What the walks ask of a disk: plain law. -/
set_option linter.unusedSimpArgs false
set_option linter.unusedVariables false
namespace Go.Ofp
namespace Dk
/-- What the walks ask of a disk. -/
structure Fit (d : Dk) (n k : Nat) : Prop where
  ok : d.Ok
  sec : d.sec.length = n
  wait : d.wait.length ≤ k
  fuse : -9223372036854775808 ≤ d.fuse ∧ d.fuse ≤ 9223372036854775807
theorem Fit.step {d : Dk} {n k : Nat} (h : d.Fit n k) : d.step.Fit n k := by
  refine ⟨h.ok.step, by rw [step_sec]; exact h.sec, by rw [step_wait]; exact h.wait, ?_⟩
  have := h.fuse
  unfold Dk.step
  split
  · exact this
  · split
    · simp only; omega
    · exact this
theorem Fit.mono {d : Dk} {n k k' : Nat} (h : d.Fit n k) (hk : k ≤ k') : d.Fit n k' := ⟨h.ok, h.sec, Nat.le_trans h.wait hk, h.fuse⟩
theorem Fit.write {d : Dk} {n k : Nat} (h : d.Fit n k) (i : Int) (b : List UInt8) : (d.write i b).1.Fit n (k + 1) := by
  have hok := h.ok.write i b
  unfold Dk.write at hok ⊢
  split
  · rename_i hr
    rw [if_pos hr] at hok
    split
    · rename_i hb
      rw [if_pos hb] at hok
      have h1 : ({ d with wait := d.wait ++ [⟨i, b⟩] } : Dk).step.Fit n (k + 1) := by
        refine ⟨hok, by rw [step_sec]; exact h.sec, by rw [step_wait]; simpa using h.wait, ?_⟩
        have := h.fuse
        unfold Dk.step
        split
        · exact this
        · split
          · simp only at *; omega
          · exact this
      exact h1
    · exact h.mono (by omega)
  · exact h.mono (by omega)
theorem Fit.sync {d : Dk} {n k : Nat} (h : d.Fit n k) : d.sync.1.Fit n k := by
  have hok := h.ok.sync
  unfold Dk.sync at hok ⊢
  split
  · rename_i hr
    rw [if_pos hr] at hok
    split
    · exact h.step
    · rename_i hd
      rw [if_neg hd] at hok
      exact ⟨hok, by simp only [done_length]; exact h.sec, by simp, h.step.fuse⟩
  · exact h
theorem Fit.crash {d : Dk} {n k : Nat} (h : d.Fit n k) (keep : List Int) : (d.crash keep).Fit n k := by
  refine ⟨h.ok.crash keep, ?_, by simp [Dk.crash], by simp [Dk.crash]⟩
  have := fall_ok keep d.wait 0 d.sec h.ok.sec fun w hw => (h.ok.wait w hw).2.2
  rw [Dk.crash, this.2]
  exact h.sec
theorem Fit.fused {d : Dk} {n k : Nat} (h : d.Fit n k) (z : Int) (hz : -9223372036854775808 ≤ z ∧ z ≤ 9223372036854775807) : ({ d with fuse := z } : Dk).Fit n k := ⟨⟨h.ok.pos, h.ok.sec, h.ok.wait⟩, h.sec, h.wait, hz⟩
theorem Fit.new (n : Nat) (hn : 0 < n) : (new n).Fit n 0 := ⟨Ok.new n hn, by simp [Dk.new], by simp [Dk.new], by simp [Dk.new]⟩
end Dk
end Go.Ofp
end

section
/- A disk's root: plain law. -/
set_option linter.unusedSimpArgs false
set_option linter.unusedVariables false
namespace Go.Ofp
namespace Dk
/-- The better one of a root and that of a sector. -/
def better (d : Dk) (b : Rt) (i : Int) : Rt := if (d.read i).2 = 0 ∧ (Rt.getB (d.read i).1).2 = true ∧ b.seq < (Rt.getB (d.read i).1).1.seq then (Rt.getB (d.read i).1).1 else b
def best (d : Dk) : Nat → Rt
  | 0 => Rt.none
  | j + 1 => d.better (d.best j) j
/-- A disk's root, or why there is none. -/
def load (d : Dk) : Rt × Int := if d.dead then (Rt.none, 15) else if (d.best 2).seq = 0 then (Rt.none, 16) else (d.best 2, 0)
/-- A root is stored. -/
def store (d : Dk) (x : Rt) : Dk × Int :=
  if x.ok = false ∨ d.sec.length < 2 then (d, 1) else if (d.write (x.seq % 2) x.putB).2 = 0 then (d.write (x.seq % 2) x.putB).1.sync else ((d.write (x.seq % 2) x.putB).1, (d.write (x.seq % 2) x.putB).2)
theorem read_len {d : Dk} (h : d.Ok) (i : Int) : (d.read i).1.length ≤ 64 := by
  unfold Dk.read
  split
  · rename_i hr
    obtain ⟨-, h0, h1⟩ := ready_zero hr
    split
    · simp
    · have hs : (d.see i).b.length = 64 := by
        have e : d.see i = d.wait.foldl (over i) (d.sec.getD i.toNat ⟨[], true⟩) := rfl
        rw [e]
        refine over_len i d.wait (fun w hw => (h.wait w hw).2.2) _ ?_
        have hl : i.toNat < d.sec.length := by omega
        rw [List.getD_eq_getElem?_getD, List.getElem?_eq_getElem hl]
        exact h.sec _ (List.getElem_mem hl)
      exact Nat.le_of_eq hs
  · simp
theorem Fit.store {d : Dk} {n k : Nat} (h : d.Fit n k) (x : Rt) : (d.store x).1.Fit n (k + 1) := by
  unfold Dk.store
  split
  · exact h.mono (by omega)
  · split
    · exact (h.write _ _).sync
    · exact h.write _ _
end Dk
end Go.Ofp
end

section
/- Roots: Load and Store, in the program and in the reference. -/
set_option linter.unusedSimpArgs false
set_option linter.unusedVariables false
namespace Go.Proofs.Ytlhpibniecfofaa
open Go.RowKit Go.Ofp
set_option linter.unusedVariables false
set_option maxRecDepth 100000
set_option maxHeartbeats 4000000

theorem best_next (d : Dk) (j : Nat) (s : List UInt8) (e : Int) (y : Rt) (ok : Bool) (hr : d.read j = (s, e)) (hg : Rt.getB s = (y, ok)) : d.best (j + 1) = if e = 0 ∧ ok = true ∧ (d.best j).seq < y.seq then y else d.best j := by
  rw [Dk.best, Dk.better, hr]
  simp only [hg]

theorem tload_any (bd : Nat) (sv wv : Value) (d : Dk) (n k : Nat) (w : World) (h : St w (feet (dks bd sv wv d)) (dks bd sv wv d) w) (hfit : d.Fit n k) (hn : n ≤ 100000) (hk : k ≤ 100000) :
    Calls Try.prog 39 #[.pointer (some ⟨bd, 0, none⟩)] w fun e w' => e = .returned (.tuple #[.agg #[.int .i64 d.load.1.seq, .int .i64 d.load.1.life, .int .i64 d.load.1.head], .int .i64 d.load.2]) ∧ St w (feet (dks bd sv wv d)) (dks bd sv wv d) w' := by
  have hS := h
  have hok := hfit.ok
  have hl : d.sec.length ≤ 100000 := by have := hfit.sec; omega
  have hw : d.wait.length ≤ 100000 := by have := hfit.wait; omega
  have hrl := fun i => Dk.read_len hok i
  have ez := elem_root
  have cR := fun i W hh => read_any bd sv wv d i W hh hok hw
  have cD := fun W hh => dead_any bd sv wv d W hh
  have cG := fun (s : List UInt8) W (hs : s.length ≤ 64) => tget_any (str s) W (by rw [str_size]; unfold maxLen; omega)
  simp only [str_data] at cG
  generalize feet (dks bd sv wv d) = F at hS h ⊢
  clear h hfit hok hl hw
  obtain ⟨dd, hdd⟩ : ∃ b, d.dead = b := ⟨_, rfl⟩
  rw [hdd] at cD
  replace cR := Lib.hid cR
  replace cG := Lib.hid cG
  replace cD := Lib.hid cD
  replace hrl := Lib.hid hrl
  have hS1 : St w F (dks bd sv wv d ++ []) w := by rw [List.append_nil]; exact hS
  clear hS
  have hS := hS1
  clear hS1
  cases dd with
  | true =>
    have hld : Hid (d.load = (Rt.none, 15)) := Lib.hid (by rw [Dk.load, if_pos hdd])
    replace hdd := Lib.hid hdd
    go_enter Try.func39, Try.ntmps39
    go_wp2_with (first
      | (go_at_call 24; have hP := hS.preM (A := [_]) (B := dks bd sv wv d) (R := []); (with_reducible refine (cD.out _ hP).mono ?_); rintro _ _ ⟨rfl, rfl⟩; clear hP)
      | (with_reducible refine wpList_box_st hS rfl rfl rfl ?_; intro g1 w1 hS1; clear hS; replace hS := hS1; clear hS1) | (with_reducible refine wpList_box1_st hS rfl rfl rfl ?_; intro g1 w1 hS1; clear hS; replace hS := hS1; clear hS1) | (with_reducible refine wpList_alloc_st hS rfl rfl (by assumption) ?_; intro g1 w1 hS1; clear hS; replace hS := hS1; clear hS1) | (with_reducible refine wpList_alloc1_st hS rfl rfl (by assumption) rfl ?_; intro g1 w1 hS1; clear hS; replace hS := hS1; clear hS1) | ((with_reducible refine wpList_load_st 0 hS rfl rfl rfl rfl ?_ rfl ?_); focus (simp [scalarB, go_sem]; done)) | ((with_reducible refine wpList_loadall_st 0 hS rfl rfl rfl rfl ?_ (by kernel_rfl) ?_); focus (simp [rowB, go_sem]; done)) | ((with_reducible refine wpList_store_st 0 hS rfl rfl rfl rfl (by kernel_rfl) rfl rfl ?_); intro w1 hS1; clear hS; replace hS := hS1; clear hS1; try simp only [List.set_cons_zero, List.set_cons_succ, List.setIfInBounds_toArray, List.take_succ_cons, List.take_zero, List.drop_succ_cons, List.drop_zero, List.nil_append, List.cons_append, List.append_nil, List.drop_nil, List.take_nil, List.length_cons, List.length_nil, Nat.zero_add, Nat.add_zero, Nat.reduceAdd] at hS) | ((with_reducible refine wpList_storerow_st 0 hS rfl rfl rfl rfl (by kernel_rfl) rfl rfl rfl rfl ?_); intro w1 hS1; clear hS; replace hS := hS1; clear hS1; try simp only [List.set_cons_zero, List.set_cons_succ, List.setIfInBounds_toArray, List.take_succ_cons, List.take_zero, List.drop_succ_cons, List.drop_zero, List.nil_append, List.cons_append, List.append_nil, List.drop_nil, List.take_nil, List.length_cons, List.length_nil, Nat.zero_add, Nat.add_zero, Nat.reduceAdd] at hS) | ((with_reducible refine wpList_load_st 1 hS rfl rfl rfl rfl ?_ rfl ?_); focus (simp [scalarB, go_sem]; done)) | ((with_reducible refine wpList_loadall_st 1 hS rfl rfl rfl rfl ?_ (by kernel_rfl) ?_); focus (simp [rowB, go_sem]; done)) | ((with_reducible refine wpList_store_st 1 hS rfl rfl rfl rfl (by kernel_rfl) rfl rfl ?_); intro w1 hS1; clear hS; replace hS := hS1; clear hS1; try simp only [List.set_cons_zero, List.set_cons_succ, List.setIfInBounds_toArray, List.take_succ_cons, List.take_zero, List.drop_succ_cons, List.drop_zero, List.nil_append, List.cons_append, List.append_nil, List.drop_nil, List.take_nil, List.length_cons, List.length_nil, Nat.zero_add, Nat.add_zero, Nat.reduceAdd] at hS) | ((with_reducible refine wpList_storerow_st 1 hS rfl rfl rfl rfl (by kernel_rfl) rfl rfl rfl rfl ?_); intro w1 hS1; clear hS; replace hS := hS1; clear hS1; try simp only [List.set_cons_zero, List.set_cons_succ, List.setIfInBounds_toArray, List.take_succ_cons, List.take_zero, List.drop_succ_cons, List.drop_zero, List.nil_append, List.cons_append, List.append_nil, List.drop_nil, List.take_nil, List.length_cons, List.length_nil, Nat.zero_add, Nat.add_zero, Nat.reduceAdd] at hS))
    have c := hS.cell 0 rfl
    exact bodyPost_ret (v := .tuple #[.agg #[.int .i64 0, .int .i64 0, .int .i64 0], .int .i64 15]) (by simp [results, Try.results39, go_sem, c]) rfl ⟨by first | (rw [hld.out]; done) | (rw [hld.out]; rfl), by simpa using hS.drop⟩
  | false =>
    have hld : Hid (d.load = if (d.best 2).seq = 0 then (Rt.none, 16) else (d.best 2, 0)) := Lib.hid (by rw [Dk.load, if_neg (by simp [hdd])])
    replace hdd := Lib.hid hdd
    go_enter Try.func39, Try.ntmps39
    go_wp2_with (first
      | (go_at_call 24; have hP := hS.preM (A := [_]) (B := dks bd sv wv d) (R := []); (with_reducible refine (cD.out _ hP).mono ?_); rintro _ _ ⟨rfl, rfl⟩; clear hP)
      
      | (have hX : St w F ((dks bd sv wv d ++ [])) _ := hS; (with_reducible refine wpList_alloc_st hX rfl rfl ez ?_); intro gr w1 hS1; clear hX hS; have hS := hS1; clear hS1)
      | (with_reducible refine wpList_box_st hS rfl rfl rfl ?_; intro g1 w1 hS1; clear hS; replace hS := hS1; clear hS1) | (with_reducible refine wpList_box1_st hS rfl rfl rfl ?_; intro g1 w1 hS1; clear hS; replace hS := hS1; clear hS1) | (with_reducible refine wpList_alloc_st hS rfl rfl (by assumption) ?_; intro g1 w1 hS1; clear hS; replace hS := hS1; clear hS1) | (with_reducible refine wpList_alloc1_st hS rfl rfl (by assumption) rfl ?_; intro g1 w1 hS1; clear hS; replace hS := hS1; clear hS1) | ((with_reducible refine wpList_load_st 0 hS rfl rfl rfl rfl ?_ rfl ?_); focus (simp [scalarB, go_sem]; done)) | ((with_reducible refine wpList_loadall_st 0 hS rfl rfl rfl rfl ?_ (by kernel_rfl) ?_); focus (simp [rowB, go_sem]; done)) | ((with_reducible refine wpList_store_st 0 hS rfl rfl rfl rfl (by kernel_rfl) rfl rfl ?_); intro w1 hS1; clear hS; replace hS := hS1; clear hS1; try simp only [List.set_cons_zero, List.set_cons_succ, List.setIfInBounds_toArray, List.take_succ_cons, List.take_zero, List.drop_succ_cons, List.drop_zero, List.nil_append, List.cons_append, List.append_nil, List.drop_nil, List.take_nil, List.length_cons, List.length_nil, Nat.zero_add, Nat.add_zero, Nat.reduceAdd] at hS) | ((with_reducible refine wpList_storerow_st 0 hS rfl rfl rfl rfl (by kernel_rfl) rfl rfl rfl rfl ?_); intro w1 hS1; clear hS; replace hS := hS1; clear hS1; try simp only [List.set_cons_zero, List.set_cons_succ, List.setIfInBounds_toArray, List.take_succ_cons, List.take_zero, List.drop_succ_cons, List.drop_zero, List.nil_append, List.cons_append, List.append_nil, List.drop_nil, List.take_nil, List.length_cons, List.length_nil, Nat.zero_add, Nat.add_zero, Nat.reduceAdd] at hS) | ((with_reducible refine wpList_load_st 1 hS rfl rfl rfl rfl ?_ rfl ?_); focus (simp [scalarB, go_sem]; done)) | ((with_reducible refine wpList_loadall_st 1 hS rfl rfl rfl rfl ?_ (by kernel_rfl) ?_); focus (simp [rowB, go_sem]; done)) | ((with_reducible refine wpList_store_st 1 hS rfl rfl rfl rfl (by kernel_rfl) rfl rfl ?_); intro w1 hS1; clear hS; replace hS := hS1; clear hS1; try simp only [List.set_cons_zero, List.set_cons_succ, List.setIfInBounds_toArray, List.take_succ_cons, List.take_zero, List.drop_succ_cons, List.drop_zero, List.nil_append, List.cons_append, List.append_nil, List.drop_nil, List.take_nil, List.length_cons, List.length_nil, Nat.zero_add, Nat.add_zero, Nat.reduceAdd] at hS) | ((with_reducible refine wpList_storerow_st 1 hS rfl rfl rfl rfl (by kernel_rfl) rfl rfl rfl rfl ?_); intro w1 hS1; clear hS; replace hS := hS1; clear hS1; try simp only [List.set_cons_zero, List.set_cons_succ, List.setIfInBounds_toArray, List.take_succ_cons, List.take_zero, List.drop_succ_cons, List.drop_zero, List.nil_append, List.cons_append, List.append_nil, List.drop_nil, List.take_nil, List.length_cons, List.length_nil, Nat.zero_add, Nat.add_zero, Nat.reduceAdd] at hS))
    clear ez
    go_loopg [18] 2 (fun gk vx wr => ∃ (j : Nat) (b : Rt), j + gk = 2 ∧ vx = .int .i64 j ∧ Hid (b = d.best j) ∧ St w F (Ch.blk g1 50 #[.int .i64 b.seq, .int .i64 b.life, .int .i64 b.head] :: Ch.blk gr 50 #[.int .i64 0, .int .i64 0, .int .i64 0] :: (dks bd sv wv d ++ [])) wr)
    case atStart => exact ⟨0, Rt.none, rfl, rfl, Lib.hid rfl, hS⟩
    case round =>
      clear hS
      obtain ⟨j, b, hj, rfl, hb, hS⟩ := hrel
      have ez := elem_root
      by_cases hlt : j < 2
      · obtain ⟨s, e, hr⟩ : ∃ s e, d.read j = (s, e) := ⟨_, _, rfl⟩
        have hsl := hrl.out j
        have cRj := fun W hh => cR.out j W hh
        rw [hr] at hsl cRj
        simp only at hsl cRj
        obtain ⟨y, ok, hg⟩ : ∃ y ok, Rt.getB s = (y, ok) := ⟨_, _, rfl⟩
        have cGj := fun W => cG.out s W hsl
        rw [hg] at cGj
        simp only at cGj
        have hnx := best_next d j s e y ok hr hg
        rw [← hb.out] at hnx
        clear hr hg hsl hb cR cG hrl hld
        replace cRj := Lib.hid cRj
        replace cGj := Lib.hid cGj
        by_cases he : e = 0
        · subst he
          cases ok with
          | false =>
            rw [if_neg (by simp)] at hnx
            replace hnx := Lib.hid hnx
            go_wp2_with (first
              | (go_at_call 22; have hP := hS.preM (A := [_, _]) (B := dks bd sv wv d) (R := []); (with_reducible refine (cRj.out _ hP).mono ?_); rintro _ w5 ⟨rfl, hk⟩; clear hP; have hS1 := hS.callM (A := [_, _]) (R := []) hk; clear hS hk; simp only [List.cons_append, List.nil_append] at hS1; have hS := hS1; clear hS1)
              | (go_at_call 27; (with_reducible refine (cGj.out _).mono ?_); rintro _ w6 ⟨rfl, hb6⟩; have hS1 := hS.keepB hb6; clear hb6 hS; have hS := hS1; clear hS1)
              | ((with_reducible refine wpList_alloc_st hS rfl rfl ez ?_); intro gx w1 hS1; clear hS; have hS := hS1; clear hS1)
              | ((with_reducible refine wpList_storerow_st 0 hS rfl rfl rfl rfl (by kernel_rfl) rfl rfl rfl rfl ?_); intro w1 hS1; clear hS; have hS := hS1; clear hS1; try simp only [List.set_cons_zero, List.set_cons_succ, List.setIfInBounds_toArray, List.take_succ_cons, List.take_zero, List.drop_succ_cons, List.drop_zero, List.nil_append, List.cons_append, List.append_nil, List.drop_nil, List.take_nil, List.length_cons, List.length_nil, Nat.zero_add, Nat.add_zero, Nat.reduceAdd] at hS; have hcl := hS.cell 0 rfl; have hcm := hS.cell 1 rfl)
              | (with_reducible refine wpList_box_st hS rfl rfl rfl ?_; intro g1 w1 hS1; clear hS; replace hS := hS1; clear hS1) | (with_reducible refine wpList_box1_st hS rfl rfl rfl ?_; intro g1 w1 hS1; clear hS; replace hS := hS1; clear hS1) | (with_reducible refine wpList_alloc_st hS rfl rfl (by assumption) ?_; intro g1 w1 hS1; clear hS; replace hS := hS1; clear hS1) | (with_reducible refine wpList_alloc1_st hS rfl rfl (by assumption) rfl ?_; intro g1 w1 hS1; clear hS; replace hS := hS1; clear hS1) | ((with_reducible refine wpList_load_st 0 hS rfl rfl rfl rfl ?_ rfl ?_); focus (simp [scalarB, go_sem]; done)) | ((with_reducible refine wpList_loadall_st 0 hS rfl rfl rfl rfl ?_ (by kernel_rfl) ?_); focus (simp [rowB, go_sem]; done)) | ((with_reducible refine wpList_store_st 0 hS rfl rfl rfl rfl (by kernel_rfl) rfl rfl ?_); intro w1 hS1; clear hS; replace hS := hS1; clear hS1; try simp only [List.set_cons_zero, List.set_cons_succ, List.setIfInBounds_toArray, List.take_succ_cons, List.take_zero, List.drop_succ_cons, List.drop_zero, List.nil_append, List.cons_append, List.append_nil, List.drop_nil, List.take_nil, List.length_cons, List.length_nil, Nat.zero_add, Nat.add_zero, Nat.reduceAdd] at hS) | ((with_reducible refine wpList_storerow_st 0 hS rfl rfl rfl rfl (by kernel_rfl) rfl rfl rfl rfl ?_); intro w1 hS1; clear hS; replace hS := hS1; clear hS1; try simp only [List.set_cons_zero, List.set_cons_succ, List.setIfInBounds_toArray, List.take_succ_cons, List.take_zero, List.drop_succ_cons, List.drop_zero, List.nil_append, List.cons_append, List.append_nil, List.drop_nil, List.take_nil, List.length_cons, List.length_nil, Nat.zero_add, Nat.add_zero, Nat.reduceAdd] at hS) | ((with_reducible refine wpList_load_st 1 hS rfl rfl rfl rfl ?_ rfl ?_); focus (simp [scalarB, go_sem]; done)) | ((with_reducible refine wpList_loadall_st 1 hS rfl rfl rfl rfl ?_ (by kernel_rfl) ?_); focus (simp [rowB, go_sem]; done)) | ((with_reducible refine wpList_store_st 1 hS rfl rfl rfl rfl (by kernel_rfl) rfl rfl ?_); intro w1 hS1; clear hS; replace hS := hS1; clear hS1; try simp only [List.set_cons_zero, List.set_cons_succ, List.setIfInBounds_toArray, List.take_succ_cons, List.take_zero, List.drop_succ_cons, List.drop_zero, List.nil_append, List.cons_append, List.append_nil, List.drop_nil, List.take_nil, List.length_cons, List.length_nil, Nat.zero_add, Nat.add_zero, Nat.reduceAdd] at hS) | ((with_reducible refine wpList_storerow_st 1 hS rfl rfl rfl rfl (by kernel_rfl) rfl rfl rfl rfl ?_); intro w1 hS1; clear hS; replace hS := hS1; clear hS1; try simp only [List.set_cons_zero, List.set_cons_succ, List.setIfInBounds_toArray, List.take_succ_cons, List.take_zero, List.drop_succ_cons, List.drop_zero, List.nil_append, List.cons_append, List.append_nil, List.drop_nil, List.take_nil, List.length_cons, List.length_nil, Nat.zero_add, Nat.add_zero, Nat.reduceAdd] at hS) | ((with_reducible refine wpList_load_st 2 hS rfl rfl rfl rfl ?_ rfl ?_); focus (simp [scalarB, go_sem]; done)) | ((with_reducible refine wpList_loadall_st 2 hS rfl rfl rfl rfl ?_ (by kernel_rfl) ?_); focus (simp [rowB, go_sem]; done)) | ((with_reducible refine wpList_store_st 2 hS rfl rfl rfl rfl (by kernel_rfl) rfl rfl ?_); intro w1 hS1; clear hS; replace hS := hS1; clear hS1; try simp only [List.set_cons_zero, List.set_cons_succ, List.setIfInBounds_toArray, List.take_succ_cons, List.take_zero, List.drop_succ_cons, List.drop_zero, List.nil_append, List.cons_append, List.append_nil, List.drop_nil, List.take_nil, List.length_cons, List.length_nil, Nat.zero_add, Nat.add_zero, Nat.reduceAdd] at hS) | ((with_reducible refine wpList_storerow_st 2 hS rfl rfl rfl rfl (by kernel_rfl) rfl rfl rfl rfl ?_); intro w1 hS1; clear hS; replace hS := hS1; clear hS1; try simp only [List.set_cons_zero, List.set_cons_succ, List.setIfInBounds_toArray, List.take_succ_cons, List.take_zero, List.drop_succ_cons, List.drop_zero, List.nil_append, List.cons_append, List.append_nil, List.drop_nil, List.take_nil, List.length_cons, List.length_nil, Nat.zero_add, Nat.add_zero, Nat.reduceAdd] at hS))
            go_roundg (2 - (j + 1))
            case measure => omega
            case rel => exact ⟨j + 1, b, by omega, by go_num, Lib.hid hnx.out.symm, hS.drop⟩
          | true =>
            by_cases hs : b.seq < y.seq
            · rw [if_pos ⟨rfl, rfl, hs⟩] at hnx
              replace hnx := Lib.hid hnx
              go_wp2_with (first
                | (go_at_call 22; have hP := hS.preM (A := [_, _]) (B := dks bd sv wv d) (R := []); (with_reducible refine (cRj.out _ hP).mono ?_); rintro _ w5 ⟨rfl, hk⟩; clear hP; have hS1 := hS.callM (A := [_, _]) (R := []) hk; clear hS hk; simp only [List.cons_append, List.nil_append] at hS1; have hS := hS1; clear hS1)
                | (go_at_call 27; (with_reducible refine (cGj.out _).mono ?_); rintro _ w6 ⟨rfl, hb6⟩; have hS1 := hS.keepB hb6; clear hb6 hS; have hS := hS1; clear hS1)
                | ((with_reducible refine wpList_alloc_st hS rfl rfl ez ?_); intro gx w1 hS1; clear hS; have hS := hS1; clear hS1)
                | ((with_reducible refine wpList_storerow_st 0 hS rfl rfl rfl rfl (by kernel_rfl) rfl rfl rfl rfl ?_); intro w1 hS1; clear hS; have hS := hS1; clear hS1; try simp only [List.set_cons_zero, List.set_cons_succ, List.setIfInBounds_toArray, List.take_succ_cons, List.take_zero, List.drop_succ_cons, List.drop_zero, List.nil_append, List.cons_append, List.append_nil, List.drop_nil, List.take_nil, List.length_cons, List.length_nil, Nat.zero_add, Nat.add_zero, Nat.reduceAdd] at hS; have hcl := hS.cell 0 rfl; have hcm := hS.cell 1 rfl)
                | (with_reducible refine wpList_box_st hS rfl rfl rfl ?_; intro g1 w1 hS1; clear hS; replace hS := hS1; clear hS1) | (with_reducible refine wpList_box1_st hS rfl rfl rfl ?_; intro g1 w1 hS1; clear hS; replace hS := hS1; clear hS1) | (with_reducible refine wpList_alloc_st hS rfl rfl (by assumption) ?_; intro g1 w1 hS1; clear hS; replace hS := hS1; clear hS1) | (with_reducible refine wpList_alloc1_st hS rfl rfl (by assumption) rfl ?_; intro g1 w1 hS1; clear hS; replace hS := hS1; clear hS1) | ((with_reducible refine wpList_load_st 0 hS rfl rfl rfl rfl ?_ rfl ?_); focus (simp [scalarB, go_sem]; done)) | ((with_reducible refine wpList_loadall_st 0 hS rfl rfl rfl rfl ?_ (by kernel_rfl) ?_); focus (simp [rowB, go_sem]; done)) | ((with_reducible refine wpList_store_st 0 hS rfl rfl rfl rfl (by kernel_rfl) rfl rfl ?_); intro w1 hS1; clear hS; replace hS := hS1; clear hS1; try simp only [List.set_cons_zero, List.set_cons_succ, List.setIfInBounds_toArray, List.take_succ_cons, List.take_zero, List.drop_succ_cons, List.drop_zero, List.nil_append, List.cons_append, List.append_nil, List.drop_nil, List.take_nil, List.length_cons, List.length_nil, Nat.zero_add, Nat.add_zero, Nat.reduceAdd] at hS) | ((with_reducible refine wpList_storerow_st 0 hS rfl rfl rfl rfl (by kernel_rfl) rfl rfl rfl rfl ?_); intro w1 hS1; clear hS; replace hS := hS1; clear hS1; try simp only [List.set_cons_zero, List.set_cons_succ, List.setIfInBounds_toArray, List.take_succ_cons, List.take_zero, List.drop_succ_cons, List.drop_zero, List.nil_append, List.cons_append, List.append_nil, List.drop_nil, List.take_nil, List.length_cons, List.length_nil, Nat.zero_add, Nat.add_zero, Nat.reduceAdd] at hS) | ((with_reducible refine wpList_load_st 1 hS rfl rfl rfl rfl ?_ rfl ?_); focus (simp [scalarB, go_sem]; done)) | ((with_reducible refine wpList_loadall_st 1 hS rfl rfl rfl rfl ?_ (by kernel_rfl) ?_); focus (simp [rowB, go_sem]; done)) | ((with_reducible refine wpList_store_st 1 hS rfl rfl rfl rfl (by kernel_rfl) rfl rfl ?_); intro w1 hS1; clear hS; replace hS := hS1; clear hS1; try simp only [List.set_cons_zero, List.set_cons_succ, List.setIfInBounds_toArray, List.take_succ_cons, List.take_zero, List.drop_succ_cons, List.drop_zero, List.nil_append, List.cons_append, List.append_nil, List.drop_nil, List.take_nil, List.length_cons, List.length_nil, Nat.zero_add, Nat.add_zero, Nat.reduceAdd] at hS) | ((with_reducible refine wpList_storerow_st 1 hS rfl rfl rfl rfl (by kernel_rfl) rfl rfl rfl rfl ?_); intro w1 hS1; clear hS; replace hS := hS1; clear hS1; try simp only [List.set_cons_zero, List.set_cons_succ, List.setIfInBounds_toArray, List.take_succ_cons, List.take_zero, List.drop_succ_cons, List.drop_zero, List.nil_append, List.cons_append, List.append_nil, List.drop_nil, List.take_nil, List.length_cons, List.length_nil, Nat.zero_add, Nat.add_zero, Nat.reduceAdd] at hS) | ((with_reducible refine wpList_load_st 2 hS rfl rfl rfl rfl ?_ rfl ?_); focus (simp [scalarB, go_sem]; done)) | ((with_reducible refine wpList_loadall_st 2 hS rfl rfl rfl rfl ?_ (by kernel_rfl) ?_); focus (simp [rowB, go_sem]; done)) | ((with_reducible refine wpList_store_st 2 hS rfl rfl rfl rfl (by kernel_rfl) rfl rfl ?_); intro w1 hS1; clear hS; replace hS := hS1; clear hS1; try simp only [List.set_cons_zero, List.set_cons_succ, List.setIfInBounds_toArray, List.take_succ_cons, List.take_zero, List.drop_succ_cons, List.drop_zero, List.nil_append, List.cons_append, List.append_nil, List.drop_nil, List.take_nil, List.length_cons, List.length_nil, Nat.zero_add, Nat.add_zero, Nat.reduceAdd] at hS) | ((with_reducible refine wpList_storerow_st 2 hS rfl rfl rfl rfl (by kernel_rfl) rfl rfl rfl rfl ?_); intro w1 hS1; clear hS; replace hS := hS1; clear hS1; try simp only [List.set_cons_zero, List.set_cons_succ, List.setIfInBounds_toArray, List.take_succ_cons, List.take_zero, List.drop_succ_cons, List.drop_zero, List.nil_append, List.cons_append, List.append_nil, List.drop_nil, List.take_nil, List.length_cons, List.length_nil, Nat.zero_add, Nat.add_zero, Nat.reduceAdd] at hS))
              go_roundg (2 - (j + 1))
              case measure => omega
              case rel => exact ⟨j + 1, y, by omega, by go_num, Lib.hid hnx.out.symm, hS.drop⟩
            · rw [if_neg (by simp [hs])] at hnx
              replace hnx := Lib.hid hnx
              replace hs : y.seq ≤ b.seq := by omega
              go_wp2_with (first
                | (go_at_call 22; have hP := hS.preM (A := [_, _]) (B := dks bd sv wv d) (R := []); (with_reducible refine (cRj.out _ hP).mono ?_); rintro _ w5 ⟨rfl, hk⟩; clear hP; have hS1 := hS.callM (A := [_, _]) (R := []) hk; clear hS hk; simp only [List.cons_append, List.nil_append] at hS1; have hS := hS1; clear hS1)
                | (go_at_call 27; (with_reducible refine (cGj.out _).mono ?_); rintro _ w6 ⟨rfl, hb6⟩; have hS1 := hS.keepB hb6; clear hb6 hS; have hS := hS1; clear hS1)
                | ((with_reducible refine wpList_alloc_st hS rfl rfl ez ?_); intro gx w1 hS1; clear hS; have hS := hS1; clear hS1)
                | ((with_reducible refine wpList_storerow_st 0 hS rfl rfl rfl rfl (by kernel_rfl) rfl rfl rfl rfl ?_); intro w1 hS1; clear hS; have hS := hS1; clear hS1; try simp only [List.set_cons_zero, List.set_cons_succ, List.setIfInBounds_toArray, List.take_succ_cons, List.take_zero, List.drop_succ_cons, List.drop_zero, List.nil_append, List.cons_append, List.append_nil, List.drop_nil, List.take_nil, List.length_cons, List.length_nil, Nat.zero_add, Nat.add_zero, Nat.reduceAdd] at hS; have hcl := hS.cell 0 rfl; have hcm := hS.cell 1 rfl)
                | (with_reducible refine wpList_box_st hS rfl rfl rfl ?_; intro g1 w1 hS1; clear hS; replace hS := hS1; clear hS1) | (with_reducible refine wpList_box1_st hS rfl rfl rfl ?_; intro g1 w1 hS1; clear hS; replace hS := hS1; clear hS1) | (with_reducible refine wpList_alloc_st hS rfl rfl (by assumption) ?_; intro g1 w1 hS1; clear hS; replace hS := hS1; clear hS1) | (with_reducible refine wpList_alloc1_st hS rfl rfl (by assumption) rfl ?_; intro g1 w1 hS1; clear hS; replace hS := hS1; clear hS1) | ((with_reducible refine wpList_load_st 0 hS rfl rfl rfl rfl ?_ rfl ?_); focus (simp [scalarB, go_sem]; done)) | ((with_reducible refine wpList_loadall_st 0 hS rfl rfl rfl rfl ?_ (by kernel_rfl) ?_); focus (simp [rowB, go_sem]; done)) | ((with_reducible refine wpList_store_st 0 hS rfl rfl rfl rfl (by kernel_rfl) rfl rfl ?_); intro w1 hS1; clear hS; replace hS := hS1; clear hS1; try simp only [List.set_cons_zero, List.set_cons_succ, List.setIfInBounds_toArray, List.take_succ_cons, List.take_zero, List.drop_succ_cons, List.drop_zero, List.nil_append, List.cons_append, List.append_nil, List.drop_nil, List.take_nil, List.length_cons, List.length_nil, Nat.zero_add, Nat.add_zero, Nat.reduceAdd] at hS) | ((with_reducible refine wpList_storerow_st 0 hS rfl rfl rfl rfl (by kernel_rfl) rfl rfl rfl rfl ?_); intro w1 hS1; clear hS; replace hS := hS1; clear hS1; try simp only [List.set_cons_zero, List.set_cons_succ, List.setIfInBounds_toArray, List.take_succ_cons, List.take_zero, List.drop_succ_cons, List.drop_zero, List.nil_append, List.cons_append, List.append_nil, List.drop_nil, List.take_nil, List.length_cons, List.length_nil, Nat.zero_add, Nat.add_zero, Nat.reduceAdd] at hS) | ((with_reducible refine wpList_load_st 1 hS rfl rfl rfl rfl ?_ rfl ?_); focus (simp [scalarB, go_sem]; done)) | ((with_reducible refine wpList_loadall_st 1 hS rfl rfl rfl rfl ?_ (by kernel_rfl) ?_); focus (simp [rowB, go_sem]; done)) | ((with_reducible refine wpList_store_st 1 hS rfl rfl rfl rfl (by kernel_rfl) rfl rfl ?_); intro w1 hS1; clear hS; replace hS := hS1; clear hS1; try simp only [List.set_cons_zero, List.set_cons_succ, List.setIfInBounds_toArray, List.take_succ_cons, List.take_zero, List.drop_succ_cons, List.drop_zero, List.nil_append, List.cons_append, List.append_nil, List.drop_nil, List.take_nil, List.length_cons, List.length_nil, Nat.zero_add, Nat.add_zero, Nat.reduceAdd] at hS) | ((with_reducible refine wpList_storerow_st 1 hS rfl rfl rfl rfl (by kernel_rfl) rfl rfl rfl rfl ?_); intro w1 hS1; clear hS; replace hS := hS1; clear hS1; try simp only [List.set_cons_zero, List.set_cons_succ, List.setIfInBounds_toArray, List.take_succ_cons, List.take_zero, List.drop_succ_cons, List.drop_zero, List.nil_append, List.cons_append, List.append_nil, List.drop_nil, List.take_nil, List.length_cons, List.length_nil, Nat.zero_add, Nat.add_zero, Nat.reduceAdd] at hS) | ((with_reducible refine wpList_load_st 2 hS rfl rfl rfl rfl ?_ rfl ?_); focus (simp [scalarB, go_sem]; done)) | ((with_reducible refine wpList_loadall_st 2 hS rfl rfl rfl rfl ?_ (by kernel_rfl) ?_); focus (simp [rowB, go_sem]; done)) | ((with_reducible refine wpList_store_st 2 hS rfl rfl rfl rfl (by kernel_rfl) rfl rfl ?_); intro w1 hS1; clear hS; replace hS := hS1; clear hS1; try simp only [List.set_cons_zero, List.set_cons_succ, List.setIfInBounds_toArray, List.take_succ_cons, List.take_zero, List.drop_succ_cons, List.drop_zero, List.nil_append, List.cons_append, List.append_nil, List.drop_nil, List.take_nil, List.length_cons, List.length_nil, Nat.zero_add, Nat.add_zero, Nat.reduceAdd] at hS) | ((with_reducible refine wpList_storerow_st 2 hS rfl rfl rfl rfl (by kernel_rfl) rfl rfl rfl rfl ?_); intro w1 hS1; clear hS; replace hS := hS1; clear hS1; try simp only [List.set_cons_zero, List.set_cons_succ, List.setIfInBounds_toArray, List.take_succ_cons, List.take_zero, List.drop_succ_cons, List.drop_zero, List.nil_append, List.cons_append, List.append_nil, List.drop_nil, List.take_nil, List.length_cons, List.length_nil, Nat.zero_add, Nat.add_zero, Nat.reduceAdd] at hS))
              go_roundg (2 - (j + 1))
              case measure => omega
              case rel => exact ⟨j + 1, b, by omega, by go_num, Lib.hid hnx.out.symm, hS.drop⟩
        · rw [if_neg (by simp [he])] at hnx
          have heb : (e == 0) = false := by rw [beq_eq_false_iff_ne]; exact he
          have heb2 : (e != 0) = true := by simp [he]
          replace hnx := Lib.hid hnx
          clear he
          go_wp2_with (first
            | (go_at_call 22; have hP := hS.preM (A := [_, _]) (B := dks bd sv wv d) (R := []); (with_reducible refine (cRj.out _ hP).mono ?_); rintro _ w5 ⟨rfl, hk⟩; clear hP; have hS1 := hS.callM (A := [_, _]) (R := []) hk; clear hS hk; simp only [List.cons_append, List.nil_append] at hS1; have hS := hS1; clear hS1)
            | (go_at_call 27; (with_reducible refine (cGj.out _).mono ?_); rintro _ w6 ⟨rfl, hb6⟩; have hS1 := hS.keepB hb6; clear hb6 hS; have hS := hS1; clear hS1)
            | ((with_reducible refine wpList_alloc_st hS rfl rfl ez ?_); intro gx w1 hS1; clear hS; have hS := hS1; clear hS1)
            | ((with_reducible refine wpList_storerow_st 0 hS rfl rfl rfl rfl (by kernel_rfl) rfl rfl rfl rfl ?_); intro w1 hS1; clear hS; have hS := hS1; clear hS1; try simp only [List.set_cons_zero, List.set_cons_succ, List.setIfInBounds_toArray, List.take_succ_cons, List.take_zero, List.drop_succ_cons, List.drop_zero, List.nil_append, List.cons_append, List.append_nil, List.drop_nil, List.take_nil, List.length_cons, List.length_nil, Nat.zero_add, Nat.add_zero, Nat.reduceAdd] at hS; have hcl := hS.cell 0 rfl; have hcm := hS.cell 1 rfl)
            | (with_reducible refine wpList_box_st hS rfl rfl rfl ?_; intro g1 w1 hS1; clear hS; replace hS := hS1; clear hS1) | (with_reducible refine wpList_box1_st hS rfl rfl rfl ?_; intro g1 w1 hS1; clear hS; replace hS := hS1; clear hS1) | (with_reducible refine wpList_alloc_st hS rfl rfl (by assumption) ?_; intro g1 w1 hS1; clear hS; replace hS := hS1; clear hS1) | (with_reducible refine wpList_alloc1_st hS rfl rfl (by assumption) rfl ?_; intro g1 w1 hS1; clear hS; replace hS := hS1; clear hS1) | ((with_reducible refine wpList_load_st 0 hS rfl rfl rfl rfl ?_ rfl ?_); focus (simp [scalarB, go_sem]; done)) | ((with_reducible refine wpList_loadall_st 0 hS rfl rfl rfl rfl ?_ (by kernel_rfl) ?_); focus (simp [rowB, go_sem]; done)) | ((with_reducible refine wpList_store_st 0 hS rfl rfl rfl rfl (by kernel_rfl) rfl rfl ?_); intro w1 hS1; clear hS; replace hS := hS1; clear hS1; try simp only [List.set_cons_zero, List.set_cons_succ, List.setIfInBounds_toArray, List.take_succ_cons, List.take_zero, List.drop_succ_cons, List.drop_zero, List.nil_append, List.cons_append, List.append_nil, List.drop_nil, List.take_nil, List.length_cons, List.length_nil, Nat.zero_add, Nat.add_zero, Nat.reduceAdd] at hS) | ((with_reducible refine wpList_storerow_st 0 hS rfl rfl rfl rfl (by kernel_rfl) rfl rfl rfl rfl ?_); intro w1 hS1; clear hS; replace hS := hS1; clear hS1; try simp only [List.set_cons_zero, List.set_cons_succ, List.setIfInBounds_toArray, List.take_succ_cons, List.take_zero, List.drop_succ_cons, List.drop_zero, List.nil_append, List.cons_append, List.append_nil, List.drop_nil, List.take_nil, List.length_cons, List.length_nil, Nat.zero_add, Nat.add_zero, Nat.reduceAdd] at hS) | ((with_reducible refine wpList_load_st 1 hS rfl rfl rfl rfl ?_ rfl ?_); focus (simp [scalarB, go_sem]; done)) | ((with_reducible refine wpList_loadall_st 1 hS rfl rfl rfl rfl ?_ (by kernel_rfl) ?_); focus (simp [rowB, go_sem]; done)) | ((with_reducible refine wpList_store_st 1 hS rfl rfl rfl rfl (by kernel_rfl) rfl rfl ?_); intro w1 hS1; clear hS; replace hS := hS1; clear hS1; try simp only [List.set_cons_zero, List.set_cons_succ, List.setIfInBounds_toArray, List.take_succ_cons, List.take_zero, List.drop_succ_cons, List.drop_zero, List.nil_append, List.cons_append, List.append_nil, List.drop_nil, List.take_nil, List.length_cons, List.length_nil, Nat.zero_add, Nat.add_zero, Nat.reduceAdd] at hS) | ((with_reducible refine wpList_storerow_st 1 hS rfl rfl rfl rfl (by kernel_rfl) rfl rfl rfl rfl ?_); intro w1 hS1; clear hS; replace hS := hS1; clear hS1; try simp only [List.set_cons_zero, List.set_cons_succ, List.setIfInBounds_toArray, List.take_succ_cons, List.take_zero, List.drop_succ_cons, List.drop_zero, List.nil_append, List.cons_append, List.append_nil, List.drop_nil, List.take_nil, List.length_cons, List.length_nil, Nat.zero_add, Nat.add_zero, Nat.reduceAdd] at hS) | ((with_reducible refine wpList_load_st 2 hS rfl rfl rfl rfl ?_ rfl ?_); focus (simp [scalarB, go_sem]; done)) | ((with_reducible refine wpList_loadall_st 2 hS rfl rfl rfl rfl ?_ (by kernel_rfl) ?_); focus (simp [rowB, go_sem]; done)) | ((with_reducible refine wpList_store_st 2 hS rfl rfl rfl rfl (by kernel_rfl) rfl rfl ?_); intro w1 hS1; clear hS; replace hS := hS1; clear hS1; try simp only [List.set_cons_zero, List.set_cons_succ, List.setIfInBounds_toArray, List.take_succ_cons, List.take_zero, List.drop_succ_cons, List.drop_zero, List.nil_append, List.cons_append, List.append_nil, List.drop_nil, List.take_nil, List.length_cons, List.length_nil, Nat.zero_add, Nat.add_zero, Nat.reduceAdd] at hS) | ((with_reducible refine wpList_storerow_st 2 hS rfl rfl rfl rfl (by kernel_rfl) rfl rfl rfl rfl ?_); intro w1 hS1; clear hS; replace hS := hS1; clear hS1; try simp only [List.set_cons_zero, List.set_cons_succ, List.setIfInBounds_toArray, List.take_succ_cons, List.take_zero, List.drop_succ_cons, List.drop_zero, List.nil_append, List.cons_append, List.append_nil, List.drop_nil, List.take_nil, List.length_cons, List.length_nil, Nat.zero_add, Nat.add_zero, Nat.reduceAdd] at hS))
          go_roundg (2 - (j + 1))
          case measure => omega
          case rel => exact ⟨j + 1, b, by omega, by go_num, Lib.hid hnx.out.symm, hS⟩
      · have hj2 : j = 2 := by omega
        subst hj2
        rw [← hb.out] at hld
        clear hb cR cG hrl
        by_cases h0 : b.seq = 0
        · have hl2 : d.load = (Rt.none, 16) := hld.out.trans (if_pos h0)
          have hbz : (b.seq == 0) = true := by simp [h0]
          clear hld h0
          have hld := Lib.hid hl2
          clear hl2
          go_wp2_with (first | (with_reducible refine wpList_box_st hS rfl rfl rfl ?_; intro g1 w1 hS1; clear hS; replace hS := hS1; clear hS1) | (with_reducible refine wpList_box1_st hS rfl rfl rfl ?_; intro g1 w1 hS1; clear hS; replace hS := hS1; clear hS1) | (with_reducible refine wpList_alloc_st hS rfl rfl (by assumption) ?_; intro g1 w1 hS1; clear hS; replace hS := hS1; clear hS1) | (with_reducible refine wpList_alloc1_st hS rfl rfl (by assumption) rfl ?_; intro g1 w1 hS1; clear hS; replace hS := hS1; clear hS1) | ((with_reducible refine wpList_load_st 0 hS rfl rfl rfl rfl ?_ rfl ?_); focus (simp [scalarB, go_sem]; done)) | ((with_reducible refine wpList_loadall_st 0 hS rfl rfl rfl rfl ?_ (by kernel_rfl) ?_); focus (simp [rowB, go_sem]; done)) | ((with_reducible refine wpList_store_st 0 hS rfl rfl rfl rfl (by kernel_rfl) rfl rfl ?_); intro w1 hS1; clear hS; replace hS := hS1; clear hS1; try simp only [List.set_cons_zero, List.set_cons_succ, List.setIfInBounds_toArray, List.take_succ_cons, List.take_zero, List.drop_succ_cons, List.drop_zero, List.nil_append, List.cons_append, List.append_nil, List.drop_nil, List.take_nil, List.length_cons, List.length_nil, Nat.zero_add, Nat.add_zero, Nat.reduceAdd] at hS) | ((with_reducible refine wpList_storerow_st 0 hS rfl rfl rfl rfl (by kernel_rfl) rfl rfl rfl rfl ?_); intro w1 hS1; clear hS; replace hS := hS1; clear hS1; try simp only [List.set_cons_zero, List.set_cons_succ, List.setIfInBounds_toArray, List.take_succ_cons, List.take_zero, List.drop_succ_cons, List.drop_zero, List.nil_append, List.cons_append, List.append_nil, List.drop_nil, List.take_nil, List.length_cons, List.length_nil, Nat.zero_add, Nat.add_zero, Nat.reduceAdd] at hS) | ((with_reducible refine wpList_load_st 1 hS rfl rfl rfl rfl ?_ rfl ?_); focus (simp [scalarB, go_sem]; done)) | ((with_reducible refine wpList_loadall_st 1 hS rfl rfl rfl rfl ?_ (by kernel_rfl) ?_); focus (simp [rowB, go_sem]; done)) | ((with_reducible refine wpList_store_st 1 hS rfl rfl rfl rfl (by kernel_rfl) rfl rfl ?_); intro w1 hS1; clear hS; replace hS := hS1; clear hS1; try simp only [List.set_cons_zero, List.set_cons_succ, List.setIfInBounds_toArray, List.take_succ_cons, List.take_zero, List.drop_succ_cons, List.drop_zero, List.nil_append, List.cons_append, List.append_nil, List.drop_nil, List.take_nil, List.length_cons, List.length_nil, Nat.zero_add, Nat.add_zero, Nat.reduceAdd] at hS) | ((with_reducible refine wpList_storerow_st 1 hS rfl rfl rfl rfl (by kernel_rfl) rfl rfl rfl rfl ?_); intro w1 hS1; clear hS; replace hS := hS1; clear hS1; try simp only [List.set_cons_zero, List.set_cons_succ, List.setIfInBounds_toArray, List.take_succ_cons, List.take_zero, List.drop_succ_cons, List.drop_zero, List.nil_append, List.cons_append, List.append_nil, List.drop_nil, List.take_nil, List.length_cons, List.length_nil, Nat.zero_add, Nat.add_zero, Nat.reduceAdd] at hS))
          have c := hS.cell 1 rfl
          exact bodyPost_ret (v := .tuple #[.agg #[.int .i64 0, .int .i64 0, .int .i64 0], .int .i64 16]) (by simp [results, Try.results39, go_sem, c]) rfl ⟨by first | (rw [hld.out]; done) | (rw [hld.out]; rfl), by simpa using hS.drop.drop⟩
        · have hl2 : d.load = (b, 0) := hld.out.trans (if_neg h0)
          have hbz : (b.seq == 0) = false := by simp [h0]
          clear hld h0
          have hld := Lib.hid hl2
          clear hl2
          go_wp2_with (first | (with_reducible refine wpList_box_st hS rfl rfl rfl ?_; intro g1 w1 hS1; clear hS; replace hS := hS1; clear hS1) | (with_reducible refine wpList_box1_st hS rfl rfl rfl ?_; intro g1 w1 hS1; clear hS; replace hS := hS1; clear hS1) | (with_reducible refine wpList_alloc_st hS rfl rfl (by assumption) ?_; intro g1 w1 hS1; clear hS; replace hS := hS1; clear hS1) | (with_reducible refine wpList_alloc1_st hS rfl rfl (by assumption) rfl ?_; intro g1 w1 hS1; clear hS; replace hS := hS1; clear hS1) | ((with_reducible refine wpList_load_st 0 hS rfl rfl rfl rfl ?_ rfl ?_); focus (simp [scalarB, go_sem]; done)) | ((with_reducible refine wpList_loadall_st 0 hS rfl rfl rfl rfl ?_ (by kernel_rfl) ?_); focus (simp [rowB, go_sem]; done)) | ((with_reducible refine wpList_store_st 0 hS rfl rfl rfl rfl (by kernel_rfl) rfl rfl ?_); intro w1 hS1; clear hS; replace hS := hS1; clear hS1; try simp only [List.set_cons_zero, List.set_cons_succ, List.setIfInBounds_toArray, List.take_succ_cons, List.take_zero, List.drop_succ_cons, List.drop_zero, List.nil_append, List.cons_append, List.append_nil, List.drop_nil, List.take_nil, List.length_cons, List.length_nil, Nat.zero_add, Nat.add_zero, Nat.reduceAdd] at hS) | ((with_reducible refine wpList_storerow_st 0 hS rfl rfl rfl rfl (by kernel_rfl) rfl rfl rfl rfl ?_); intro w1 hS1; clear hS; replace hS := hS1; clear hS1; try simp only [List.set_cons_zero, List.set_cons_succ, List.setIfInBounds_toArray, List.take_succ_cons, List.take_zero, List.drop_succ_cons, List.drop_zero, List.nil_append, List.cons_append, List.append_nil, List.drop_nil, List.take_nil, List.length_cons, List.length_nil, Nat.zero_add, Nat.add_zero, Nat.reduceAdd] at hS) | ((with_reducible refine wpList_load_st 1 hS rfl rfl rfl rfl ?_ rfl ?_); focus (simp [scalarB, go_sem]; done)) | ((with_reducible refine wpList_loadall_st 1 hS rfl rfl rfl rfl ?_ (by kernel_rfl) ?_); focus (simp [rowB, go_sem]; done)) | ((with_reducible refine wpList_store_st 1 hS rfl rfl rfl rfl (by kernel_rfl) rfl rfl ?_); intro w1 hS1; clear hS; replace hS := hS1; clear hS1; try simp only [List.set_cons_zero, List.set_cons_succ, List.setIfInBounds_toArray, List.take_succ_cons, List.take_zero, List.drop_succ_cons, List.drop_zero, List.nil_append, List.cons_append, List.append_nil, List.drop_nil, List.take_nil, List.length_cons, List.length_nil, Nat.zero_add, Nat.add_zero, Nat.reduceAdd] at hS) | ((with_reducible refine wpList_storerow_st 1 hS rfl rfl rfl rfl (by kernel_rfl) rfl rfl rfl rfl ?_); intro w1 hS1; clear hS; replace hS := hS1; clear hS1; try simp only [List.set_cons_zero, List.set_cons_succ, List.setIfInBounds_toArray, List.take_succ_cons, List.take_zero, List.drop_succ_cons, List.drop_zero, List.nil_append, List.cons_append, List.append_nil, List.drop_nil, List.take_nil, List.length_cons, List.length_nil, Nat.zero_add, Nat.add_zero, Nat.reduceAdd] at hS))
          have c := hS.cell 1 rfl
          exact bodyPost_ret (v := .tuple #[.agg #[.int .i64 b.seq, .int .i64 b.life, .int .i64 b.head], .int .i64 0]) (by simp [results, Try.results39, go_sem, c]) rfl ⟨by first | (rw [hld.out]; done) | (rw [hld.out]; rfl), by simpa using hS.drop.drop⟩
end Go.Proofs.Ytlhpibniecfofaa
end

section
/- Roots: Store, in the program and in the reference. -/
set_option linter.unusedSimpArgs false
set_option linter.unusedVariables false
namespace Go.Proofs.Ytlhpibniecfofaa
open Go.RowKit Go.Ofp
set_option linter.unusedVariables false
set_option maxRecDepth 100000
set_option maxHeartbeats 4000000

theorem and_one (z : Int) (h : 1 ≤ z) (h2 : z < 4294967296) : bits .and .i64 z 1 = z % 2 := by
  obtain ⟨n, rfl⟩ := Int.eq_ofNat_of_zero_le (show 0 ≤ z by omega)
  have e := i64_and_nat n 1 (by omega) (by decide)
  rw [Nat.and_one_is_mod] at e
  exact e

theorem tstore_any (bd : Nat) (sv wv : Value) (d : Dk) (n k : Nat) (x : Rt) (w : World) (h : St w (feet (dks bd sv wv d)) (dks bd sv wv d) w) (hfit : d.Fit n k) (hn : n ≤ 100000) (hk : k ≤ 99999) :
    Calls Try.prog 35 #[.pointer (some ⟨bd, 0, none⟩), .agg #[.int .i64 x.seq, .int .i64 x.life, .int .i64 x.head]] w fun e w' => e = .returned (.int .i64 (d.store x).2) ∧ ∃ wv', St w (feet (dks bd sv wv d)) (dks bd sv wv' (d.store x).1) w' := by
  have hS := h
  have hok := hfit.ok
  have hl : d.sec.length ≤ 100000 := by have := hfit.sec; omega
  have hw : d.wait.length ≤ 100000 := by have := hfit.wait; omega
  have cK := fun W => tcheck_any x W
  have cP := fun W => tput_any x W
  have cZ := fun W hh => size_any bd sv wv d W hh
  generalize feet (dks bd sv wv d) = F at hS h ⊢
  clear h
  have hS1 : St w F (dks bd sv wv d ++ []) w := by rw [List.append_nil]; exact hS
  clear hS
  have hS := hS1
  clear hS1
  replace cP := Lib.hid cP
  by_cases hxo : x.ok = true
  · rw [hxo] at cK
    replace cK := Lib.hid cK
    by_cases hs2 : d.sec.length < 2
    · have hd : d.store x = (d, 1) := by rw [Dk.store, if_pos (.inr hs2)]
      have ds2 : decide ((d.sec.length : Int) < 2) = true := decide_eq_true (by omega)
      clear hs2 hfit hok hl hw hxo
      replace hd := Lib.hid hd
      replace cZ := Lib.hid cZ
      go_enter Try.func35, Try.ntmps35
      go_wp2_with (first
        | (go_at_call 29; (with_reducible refine (cK.out _).mono ?_); rintro _ w3 ⟨rfl, hb3⟩; have hS1 := hS.keepB hb3; clear hb3 hS; have hS := hS1; clear hS1)
        | (go_at_call 23; (with_reducible refine (cZ.out _ hS.pre1).mono ?_); rintro _ _ ⟨rfl, rfl⟩)
        | (with_reducible refine wpList_box_st hS rfl rfl rfl ?_; intro g1 w1 hS1; clear hS; replace hS := hS1; clear hS1) | (with_reducible refine wpList_box1_st hS rfl rfl rfl ?_; intro g1 w1 hS1; clear hS; replace hS := hS1; clear hS1) | (with_reducible refine wpList_alloc_st hS rfl rfl (by assumption) ?_; intro g1 w1 hS1; clear hS; replace hS := hS1; clear hS1) | (with_reducible refine wpList_alloc1_st hS rfl rfl (by assumption) rfl ?_; intro g1 w1 hS1; clear hS; replace hS := hS1; clear hS1) | ((with_reducible refine wpList_load_st 0 hS rfl rfl rfl rfl ?_ rfl ?_); focus (simp [scalarB, go_sem]; done)) | ((with_reducible refine wpList_loadall_st 0 hS rfl rfl rfl rfl ?_ (by kernel_rfl) ?_); focus (simp [rowB, go_sem]; done)) | ((with_reducible refine wpList_store_st 0 hS rfl rfl rfl rfl (by kernel_rfl) rfl rfl ?_); intro w1 hS1; clear hS; replace hS := hS1; clear hS1; try simp only [List.set_cons_zero, List.set_cons_succ, List.setIfInBounds_toArray, List.take_succ_cons, List.take_zero, List.drop_succ_cons, List.drop_zero, List.nil_append, List.cons_append, List.append_nil, List.drop_nil, List.take_nil, List.length_cons, List.length_nil, Nat.zero_add, Nat.add_zero, Nat.reduceAdd] at hS) | ((with_reducible refine wpList_storerow_st 0 hS rfl rfl rfl rfl (by kernel_rfl) rfl rfl rfl rfl ?_); intro w1 hS1; clear hS; replace hS := hS1; clear hS1; try simp only [List.set_cons_zero, List.set_cons_succ, List.setIfInBounds_toArray, List.take_succ_cons, List.take_zero, List.drop_succ_cons, List.drop_zero, List.nil_append, List.cons_append, List.append_nil, List.drop_nil, List.take_nil, List.length_cons, List.length_nil, Nat.zero_add, Nat.add_zero, Nat.reduceAdd] at hS))
      go_ret
      exact ⟨by first | (rw [hd.out]; done) | (rw [hd.out]; rfl), _, by rw [hd.out]; simpa using hS.drop⟩
    · obtain ⟨q1, q2, -⟩ := (Rt.ok_iff x).1 hxo
      have hseq := and_one x.seq q1 q2
      have ds2 : decide ((d.sec.length : Int) < 2) = false := decide_eq_false (by omega)
      have hpl : (str x.putB).size ≤ maxLen := by rw [str_size, Rt.putB, if_pos hxo, Rt.secB_length]; unfold maxLen; omega
      have cW := fun W hh => write_any bd sv wv d (x.seq % 2) (str x.putB) W hh hpl hw hfit.fuse
      rw [str_data] at cW
      have hfw := hfit.write (x.seq % 2) x.putB
      have hd : d.store x = if (d.write (x.seq % 2) x.putB).2 = 0 then (d.write (x.seq % 2) x.putB).1.sync else ((d.write (x.seq % 2) x.putB).1, (d.write (x.seq % 2) x.putB).2) := by
        rw [Dk.store, if_neg]
        intro hh
        rcases hh with hh | hh
        · rw [hxo] at hh; cases hh
        · exact hs2 hh
      obtain ⟨d1, e1, hde⟩ : ∃ d1 e1, d.write (x.seq % 2) x.putB = (d1, e1) := ⟨_, _, rfl⟩
      rw [hde] at cW hfw hd
      simp only at cW hfw hd
      have cS := fun (wv' : Value) W hh => sync_any bd sv wv' d1 W hh hfw.ok (by have := hfw.wait; omega) hfw.fuse
      clear hfit hok hl hw hxo hs2 hfw hde hpl q1 q2
      replace cW := Lib.hid cW
      replace cS := Lib.hid cS
      replace cZ := Lib.hid cZ
      go_enter Try.func35, Try.ntmps35
      go_wp2_with (first
        | (go_at_call 29; (with_reducible refine (cK.out _).mono ?_); rintro _ w3 ⟨rfl, hb3⟩; have hS1 := hS.keepB hb3; clear hb3 hS; have hS := hS1; clear hS1)
        | (go_at_call 23; (with_reducible refine (cZ.out _ hS.pre1).mono ?_); rintro _ _ ⟨rfl, rfl⟩)
        | (with_reducible refine wpList_box_st hS rfl rfl rfl ?_; intro g1 w1 hS1; clear hS; replace hS := hS1; clear hS1) | (with_reducible refine wpList_box1_st hS rfl rfl rfl ?_; intro g1 w1 hS1; clear hS; replace hS := hS1; clear hS1) | (with_reducible refine wpList_alloc_st hS rfl rfl (by assumption) ?_; intro g1 w1 hS1; clear hS; replace hS := hS1; clear hS1) | (with_reducible refine wpList_alloc1_st hS rfl rfl (by assumption) rfl ?_; intro g1 w1 hS1; clear hS; replace hS := hS1; clear hS1) | ((with_reducible refine wpList_load_st 0 hS rfl rfl rfl rfl ?_ rfl ?_); focus (simp [scalarB, go_sem]; done)) | ((with_reducible refine wpList_loadall_st 0 hS rfl rfl rfl rfl ?_ (by kernel_rfl) ?_); focus (simp [rowB, go_sem]; done)) | ((with_reducible refine wpList_store_st 0 hS rfl rfl rfl rfl (by kernel_rfl) rfl rfl ?_); intro w1 hS1; clear hS; replace hS := hS1; clear hS1; try simp only [List.set_cons_zero, List.set_cons_succ, List.setIfInBounds_toArray, List.take_succ_cons, List.take_zero, List.drop_succ_cons, List.drop_zero, List.nil_append, List.cons_append, List.append_nil, List.drop_nil, List.take_nil, List.length_cons, List.length_nil, Nat.zero_add, Nat.add_zero, Nat.reduceAdd] at hS) | ((with_reducible refine wpList_storerow_st 0 hS rfl rfl rfl rfl (by kernel_rfl) rfl rfl rfl rfl ?_); intro w1 hS1; clear hS; replace hS := hS1; clear hS1; try simp only [List.set_cons_zero, List.set_cons_succ, List.setIfInBounds_toArray, List.take_succ_cons, List.take_zero, List.drop_succ_cons, List.drop_zero, List.nil_append, List.cons_append, List.append_nil, List.drop_nil, List.take_nil, List.length_cons, List.length_nil, Nat.zero_add, Nat.add_zero, Nat.reduceAdd] at hS))
      refine mixs_beginC 0 (by kernel_rfl) hS rfl ?_
      clear hS
      intro w2 hS hC
      have kC := hC.kblk 0 rfl
      refine mixs_take 0 (v := ?_) rfl (by kernel_rfl) (fun _ _ _ h => h) (by kernel_rfl) (by assumption) (fun s => ?hy) ?_; case hy => (go_simp <;> with_reducible rfl)
      try simp only [List.getElem_toArray, List.getElem_cons_succ, List.getElem_cons_zero, Act.put, List.setIfInBounds_toArray, List.set_cons_zero, List.set_cons_succ]
      refine mixs_take 1 (v := ?_) rfl (by kernel_rfl) (fun _ _ _ h => h) (by kernel_rfl) (by assumption) (fun s => ?hy) ?_; case hy => (go_simp <;> with_reducible rfl)
      try simp only [List.getElem_toArray, List.getElem_cons_succ, List.getElem_cons_zero, Act.put, List.setIfInBounds_toArray, List.set_cons_zero, List.set_cons_succ]
      refine mixs_take 2 (v := ?_) rfl (by kernel_rfl) (fun _ _ _ h => h) (by kernel_rfl) (by assumption) (fun s => ?hy) ?_; case hy => (go_simp <;> with_reducible rfl)
      try simp only [List.getElem_toArray, List.getElem_cons_succ, List.getElem_cons_zero, Act.put, List.setIfInBounds_toArray, List.set_cons_zero, List.set_cons_succ]
      refine mixs_take 3 (v := ?_) rfl (by kernel_rfl) (fun _ _ _ h => h) (by kernel_rfl) (by assumption) (fun s => ?hy) ?_; case hy => (go_simp <;> with_reducible rfl)
      try simp only [List.getElem_toArray, List.getElem_cons_succ, List.getElem_cons_zero, Act.put, List.setIfInBounds_toArray, List.set_cons_zero, List.set_cons_succ]
      refine mixs_take 4 (v := ?_) rfl (by kernel_rfl) (fun _ _ _ h => h) (by kernel_rfl) (by assumption) (fun s => ?hy) ?_; case hy => (go_simp <;> with_reducible rfl)
      try simp only [List.getElem_toArray, List.getElem_cons_succ, List.getElem_cons_zero, Act.put, List.setIfInBounds_toArray, List.set_cons_zero, List.set_cons_succ]
      refine mixs_one 5 (by kernel_rfl) rfl (fun K hK => ?_)
      go_simp
      ( first | (go_at_call 32; (with_reducible refine (cP.out _).mono ?_); rintro _ w4 ⟨rfl, hb4⟩; have hS1 := hS.keepB hb4; clear hb4 hS; have hS := hS1; clear hS1) | (go_at_call 17; (with_reducible refine (cW.out _ hS.pre1).mono ?_); rintro _ w5 ⟨rfl, wv5, hk⟩; have hS1 := hS.call1 hk; clear hS hk; have hS := hS1; clear hS1) )
      try clear hC
      refine hK.out _ _ _ (fun _ h => h) (by first | exact hS | exact hS.drop | exact hS.drop.drop | exact hS.drop.drop.drop | exact hS.drop.drop.drop.drop | exact hS.empty | exact hS.one 0 rfl | exact hS.one 1 rfl | exact hS.one 2 rfl | exact hS.one 3 rfl | exact hS.one 4 rfl | exact hS.one 5 rfl | exact hS.one 6 rfl | exact hS.one 7 rfl | exact hS.one 8 rfl | exact hS.one 9 rfl | exact hS.one 10 rfl | exact hS.one 11 rfl) (fun hC => ?_)
      clear hK K
      try simp only [List.getElem_toArray, List.getElem_cons_succ, List.getElem_cons_zero, Act.put, List.setIfInBounds_toArray, List.set_cons_zero, List.set_cons_succ]
      refine mixs_one 6 (by kernel_rfl) rfl (fun K hK => ?_)
      go_simp
      ( first | (go_at_call 32; (with_reducible refine (cP.out _).mono ?_); rintro _ w4 ⟨rfl, hb4⟩; have hS1 := hS.keepB hb4; clear hb4 hS; have hS := hS1; clear hS1) | (go_at_call 17; (with_reducible refine (cW.out _ hS.pre1).mono ?_); rintro _ w5 ⟨rfl, wv5, hk⟩; have hS1 := hS.call1 hk; clear hS hk; have hS := hS1; clear hS1) )
      try clear hC
      refine hK.out _ _ _ (fun _ h => h) (by first | exact hS | exact hS.drop | exact hS.drop.drop | exact hS.drop.drop.drop | exact hS.drop.drop.drop.drop | exact hS.empty | exact hS.one 0 rfl | exact hS.one 1 rfl | exact hS.one 2 rfl | exact hS.one 3 rfl | exact hS.one 4 rfl | exact hS.one 5 rfl | exact hS.one 6 rfl | exact hS.one 7 rfl | exact hS.one 8 rfl | exact hS.one 9 rfl | exact hS.one 10 rfl | exact hS.one 11 rfl) (fun hC => ?_)
      clear hK K
      try simp only [List.getElem_toArray, List.getElem_cons_succ, List.getElem_cons_zero, Act.put, List.setIfInBounds_toArray, List.set_cons_zero, List.set_cons_succ]
      refine mixs_take 7 (v := ?_) rfl (by kernel_rfl) (fun _ _ _ h => h) (by kernel_rfl) (by assumption) (fun s => ?hy) ?_; case hy => (go_simp <;> with_reducible rfl)
      try simp only [List.getElem_toArray, List.getElem_cons_succ, List.getElem_cons_zero, Act.put, List.setIfInBounds_toArray, List.set_cons_zero, List.set_cons_succ]
      refine wpAnyH_done (by kernel_rfl) ?_ _
      try clear hC
      try clear kC
      by_cases he : e1 = 0
      · have hd2 : d.store x = d1.sync := hd.trans (if_pos he)
        subst he
        replace hd2 := Lib.hid hd2
        clear hd
        go_wp2_with (first
          | (go_at_call 19; (with_reducible refine (cS.out _ _ hS.pre1).mono ?_); rintro _ w6 ⟨rfl, wv6, hk⟩; have hS1 := hS.call1 hk; clear hS hk; have hS := hS1; clear hS1))
        go_ret
        exact ⟨by first | (rw [hd2.out]; done) | (rw [hd2.out]; rfl), _, by rw [hd2.out]; simpa using hS.drop⟩
      · have hd2 : d.store x = (d1, e1) := hd.trans (if_neg he)
        have hen : (e1 != 0) = true := by simp [he]
        clear he
        replace hd2 := Lib.hid hd2
        clear hd
        go_wp2_with fail
        go_ret
        exact ⟨by first | (rw [hd2.out]; done) | (rw [hd2.out]; rfl), _, by rw [hd2.out]; simpa using hS.drop⟩
  · have hxf : x.ok = false := by simpa using hxo
    have hd : d.store x = (d, 1) := by rw [Dk.store, if_pos (.inl hxf)]
    rw [hxf] at cK
    clear hfit hok hl hw hxo hxf
    replace cK := Lib.hid cK
    replace hd := Lib.hid hd
    replace cZ := Lib.hid cZ
    go_enter Try.func35, Try.ntmps35
    go_wp2_with (first
      | (go_at_call 29; (with_reducible refine (cK.out _).mono ?_); rintro _ w3 ⟨rfl, hb3⟩; have hS1 := hS.keepB hb3; clear hb3 hS; have hS := hS1; clear hS1)
      | (with_reducible refine wpList_box_st hS rfl rfl rfl ?_; intro g1 w1 hS1; clear hS; replace hS := hS1; clear hS1) | (with_reducible refine wpList_box1_st hS rfl rfl rfl ?_; intro g1 w1 hS1; clear hS; replace hS := hS1; clear hS1) | (with_reducible refine wpList_alloc_st hS rfl rfl (by assumption) ?_; intro g1 w1 hS1; clear hS; replace hS := hS1; clear hS1) | (with_reducible refine wpList_alloc1_st hS rfl rfl (by assumption) rfl ?_; intro g1 w1 hS1; clear hS; replace hS := hS1; clear hS1) | ((with_reducible refine wpList_load_st 0 hS rfl rfl rfl rfl ?_ rfl ?_); focus (simp [scalarB, go_sem]; done)) | ((with_reducible refine wpList_loadall_st 0 hS rfl rfl rfl rfl ?_ (by kernel_rfl) ?_); focus (simp [rowB, go_sem]; done)) | ((with_reducible refine wpList_store_st 0 hS rfl rfl rfl rfl (by kernel_rfl) rfl rfl ?_); intro w1 hS1; clear hS; replace hS := hS1; clear hS1; try simp only [List.set_cons_zero, List.set_cons_succ, List.setIfInBounds_toArray, List.take_succ_cons, List.take_zero, List.drop_succ_cons, List.drop_zero, List.nil_append, List.cons_append, List.append_nil, List.drop_nil, List.take_nil, List.length_cons, List.length_nil, Nat.zero_add, Nat.add_zero, Nat.reduceAdd] at hS) | ((with_reducible refine wpList_storerow_st 0 hS rfl rfl rfl rfl (by kernel_rfl) rfl rfl rfl rfl ?_); intro w1 hS1; clear hS; replace hS := hS1; clear hS1; try simp only [List.set_cons_zero, List.set_cons_succ, List.setIfInBounds_toArray, List.take_succ_cons, List.take_zero, List.drop_succ_cons, List.drop_zero, List.nil_append, List.cons_append, List.append_nil, List.drop_nil, List.take_nil, List.length_cons, List.length_nil, Nat.zero_add, Nat.add_zero, Nat.reduceAdd] at hS))
    go_ret
    exact ⟨by first | (rw [hd.out]; done) | (rw [hd.out]; rfl), _, by rw [hd.out]; simpa using hS.drop⟩
end Go.Proofs.Ytlhpibniecfofaa
end

section
/- What was put is read: plain mathematics. -/
set_option linter.unusedSimpArgs false
set_option linter.unusedVariables false
namespace Go.Ofp

theorem numB_pos (n : Nat) : 0 < (numB n).length := by
  by_cases h : n < 128
  · rw [numB_lt n h]; simp
  · rw [numB_ge n h]; simp

theorem lead_numB (k n : Nat) (rest : List UInt8) (h : (numB n).length ≤ k) : lead k (numB n ++ rest) = (numB n).length - 1 := by
  induction k generalizing n with
  | zero => have := numB_pos n; omega
  | succ k ih =>
    by_cases h1 : n < 128
    · rw [numB_lt n h1]
      simp only [List.cons_append, List.nil_append, lead, List.length_singleton]
      rw [if_neg]
      rw [UInt8.toNat_ofNat']
      omega
    · rw [numB_ge n h1] at h ⊢
      simp only [List.length_cons] at h
      have hp := numB_pos (n / 128)
      simp only [List.cons_append, lead, List.length_cons]
      rw [if_pos (by rw [UInt8.toNat_ofNat']; omega), ih _ (by omega)]
      omega

theorem val7_numB (n : Nat) : val7 (numB n) = n := by
  induction n using Nat.strongRecOn with
  | _ n ih =>
    by_cases h1 : n < 128
    · rw [numB_lt n h1]
      simp only [val7, UInt8.toNat_ofNat']
      omega
    · rw [numB_ge n h1]
      simp only [val7, UInt8.toNat_ofNat']
      rw [ih (n / 128) (by omega)]
      omega

theorem last_numB (n : Nat) (h : 0 < n) (rest : List UInt8) : (numB n ++ rest).getD ((numB n).length - 1) 0 ≠ 0 := by
  induction n using Nat.strongRecOn with
  | _ n ih =>
    by_cases h1 : n < 128
    · rw [numB_lt n h1]
      simp only [List.cons_append, List.length_singleton, Nat.sub_self, List.getD_cons_zero]
      intro e
      have := congrArg UInt8.toNat e
      rw [UInt8.toNat_ofNat', UInt8.toNat_zero] at this
      omega
    · rw [numB_ge n h1]
      have hp := numB_pos (n / 128)
      simp only [List.cons_append, List.length_cons, Nat.add_sub_cancel]
      rw [show (numB (n / 128)).length = (numB (n / 128)).length - 1 + 1 by omega, List.getD_cons_succ]
      exact ih _ (by omega) (by omega)

theorem nextB_numB (n : Nat) (most : Int) (rest : List UInt8) (hn : n ≤ maxNum) (hm : (n : Int) ≤ most) : nextB (numB n ++ rest) most = (n, (numB n).length, 0) := by
  have hl := lead_numB 6 n rest (numB_six n hn)
  have hp := numB_pos n
  have h6 := numB_six n hn
  unfold nextB
  simp only [hl]
  rw [if_neg (by omega), if_neg (by simp; omega)]
  have ht : (numB n ++ rest).take ((numB n).length - 1 + 1) = numB n := by rw [show (numB n).length - 1 + 1 = (numB n).length by omega]; exact List.take_left
  rw [ht, val7_numB]
  rw [if_neg, if_neg (by omega), show (numB n).length - 1 + 1 = (numB n).length by omega]
  rintro ⟨h1, h2⟩
  refine last_numB n ?_ rest h2
  rcases Nat.eq_zero_or_pos n with rfl | h
  · rw [numB_lt 0 (by decide)] at h1; simp at h1
  · exact h

/-- All three read back. -/
theorem read_num (n : Nat) (rest : List UInt8) (hn : n ≤ maxNum) : rdNum (numB n ++ rest) 0 n = (n, rest, 0) := by
  unfold rdNum
  rw [if_neg (by simp), nextB_numB n n rest hn (Int.le_refl _)]
  simp

theorem read_str (s rest : List UInt8) (hs : s.length ≤ maxNum) : rdStr (numB s.length ++ s ++ rest) 0 s.length = (s, rest, 0) := by
  unfold rdStr
  rw [if_neg (by simp), List.append_assoc, nextB_numB s.length s.length (s ++ rest) hs (Int.le_refl _)]
  simp only [ne_eq, not_true_eq_false, if_false]
  rw [if_neg (by simp)]
  simp [List.drop_append]

theorem read_flag (b : Bool) (rest : List UInt8) : rdFlag ([if b then 1 else 0] ++ rest) 0 = (b, rest, 0) := by
  cases b
  · have := nextB_numB 0 1099511627776 rest (by decide) (by decide)
    rw [numB_lt 0 (by decide)] at this
    unfold rdFlag
    rw [if_neg (by simp)]
    have e : ([if false = true then (1 : UInt8) else 0] ++ rest) = [UInt8.ofNat 0] ++ rest := rfl
    rw [e, this]
    rfl
  · have := nextB_numB 1 1099511627776 rest (by decide) (by decide)
    rw [numB_lt 1 (by decide)] at this
    unfold rdFlag
    rw [if_neg (by simp)]
    have e : ([if true = true then (1 : UInt8) else 0] ++ rest) = [UInt8.ofNat 1] ++ rest := rfl
    rw [e, this]
    rfl

end Go.Ofp
end

section
/- Roots: the chapter's example; a root read back. -/
set_option linter.unusedSimpArgs false
set_option linter.unusedVariables false
namespace Go.Ofp
namespace Rt
theorem read_secB (x : Rt) (h : x.ok = true) : read x.secB = (x, 0) := by
  obtain ⟨h1, h2, h3, h4, h5, h6⟩ := x.ok_iff.1 h
  obtain ⟨a, b, c⟩ := x
  simp only at h1 h2 h3 h4 h5 h6
  obtain ⟨a, rfl⟩ := Int.eq_ofNat_of_zero_le (show 0 ≤ a by omega)
  obtain ⟨b, rfl⟩ := Int.eq_ofNat_of_zero_le (show 0 ≤ b by omega)
  obtain ⟨c, rfl⟩ := Int.eq_ofNat_of_zero_le (show 0 ≤ c by omega)
  have ca : clampN (a : Int) = a := by unfold clampN maxNum; omega
  have cb : clampN (b : Int) = b := by unfold clampN maxNum; omega
  have cc : clampN (c : Int) = c := by unfold clampN maxNum; omega
  have e : ∃ r, ((⟨a, b, c⟩ : Rt).secB).drop 4 = numB a ++ (numB b ++ (numB c ++ r)) := by
    refine ⟨List.replicate (60 - (front ⟨a, b, c⟩).length) 0 ++ le4 (crc (body ⟨a, b, c⟩)), ?_⟩
    rw [secB, sealed]
    generalize le4 (crc (body ⟨a, b, c⟩)) = cr
    rw [body]
    simp only [front, ca, cb, cc]
    simp
  obtain ⟨r, hr⟩ := e
  unfold read
  rw [hr]
  have n1 := nextB_numB a 4294967295 (numB b ++ (numB c ++ r)) (by unfold maxNum; omega) (by omega)
  have n2 := nextB_numB b 4294967295 (numB c ++ r) (by unfold maxNum; omega) (by omega)
  have n3 := nextB_numB c 1099511627775 r (by unfold maxNum; omega) (by omega)
  simp [rdNum, n1, n2, n3]
theorem get_secB (x : Rt) (h : x.ok = true) : getB x.secB = (x, true) := by
  have ht : x.secB.take 4 = [114, 111, 111, 116] := by
    rw [secB, sealed, body, front]
    simp
  rw [getB, isB, if_pos]
  · rw [read_secB x h]
  · rw [decide_eq_true_eq, read_secB x h]
    exact ⟨x.secB_length, ht, rfl, h, rfl⟩
end Rt
namespace Dk
/-- A disk of two sectors on which nothing waits. -/
def two (a b : Sc) : Dk := ⟨[a, b], [], -1, false⟩
theorem two_write0 (a b : Sc) (x : List UInt8) (hx : x.length = 64) : (two a b).write 0 x = (⟨[a, b], [⟨0, x⟩], -1, false⟩, 0) := by
  simp [write, two, ready, step, hx]
theorem two_write1 (a b : Sc) (x : List UInt8) (hx : x.length = 64) : (two a b).write 1 x = (⟨[a, b], [⟨1, x⟩], -1, false⟩, 0) := by
  simp [write, two, ready, step, hx]
theorem two_store1 (a b : Sc) (x : Rt) (h : x.ok = true) (hs : x.seq % 2 = 1) : (two a b).store x = (two a ⟨x.secB, false⟩, 0) := by
  have hp : x.putB = x.secB := if_pos h
  rw [store, if_neg (by simp [h, two]), hs, hp, two_write1 a b _ x.secB_length, if_pos rfl]
  simp [sync, ready, step, done, two]
theorem two_store0 (a b : Sc) (x : Rt) (h : x.ok = true) (hs : x.seq % 2 = 0) : (two a b).store x = (two ⟨x.secB, false⟩ b, 0) := by
  have hp : x.putB = x.secB := if_pos h
  rw [store, if_neg (by simp [h, two]), hs, hp, two_write0 a b _ x.secB_length, if_pos rfl]
  simp [sync, ready, step, done, two]
theorem two_read0 (a b : Sc) : (two a b).read 0 = if a.bad then ([], 16) else (a.b, 0) := by
  simp [read, two, ready, see]
theorem two_read1 (a b : Sc) : (two a b).read 1 = if b.bad then ([], 16) else (b.b, 0) := by
  simp [read, two, ready, see]
/-- The root of a sector, or none. -/
def rootOf (s : Sc) : Rt × Bool := if s.bad then (Rt.none, false) else Rt.getB s.b
def over1 (b : Rt) (g : Rt × Bool) : Rt := if g.2 = true ∧ b.seq < g.1.seq then g.1 else b
theorem better_of (d : Dk) (b : Rt) (i : Int) (s : Sc) (h : d.read i = if s.bad then ([], 16) else (s.b, 0)) : d.better b i = over1 b (rootOf s) := by
  unfold better over1 rootOf
  rw [h]
  cases s.bad with
  | true => simp
  | false => simp
theorem two_best (a b : Sc) : (two a b).best 2 = over1 (over1 Rt.none (rootOf a)) (rootOf b) := by
  show better _ (better _ Rt.none 0) 1 = _
  rw [better_of _ _ _ b (two_read1 a b), better_of _ _ _ a (two_read0 a b)]
theorem two_load (a b : Sc) : (two a b).load = if (over1 (over1 Rt.none (rootOf a)) (rootOf b)).seq = 0 then (Rt.none, 16) else (over1 (over1 Rt.none (rootOf a)) (rootOf b), 0) := by
  rw [load, if_neg (by simp [two]), two_best]
theorem rootOf_sec (x : Rt) (h : x.ok = true) : rootOf ⟨x.secB, false⟩ = (x, true) := by
  rw [rootOf, if_neg (by simp), Rt.get_secB x h]
theorem rootOf_bad (l : List UInt8) : rootOf ⟨l, true⟩ = (Rt.none, false) := by rw [rootOf, if_pos rfl]
theorem rootOf_zero : rootOf ⟨List.replicate 64 0, false⟩ = (Rt.none, false) := by
  rw [rootOf, if_neg (by simp), Rt.getB, Rt.isB, if_neg]
  rw [decide_eq_true_eq]
  intro h
  have := h.2.1
  simp at this
end Dk
end Go.Ofp
end

section
/- Roots: the chapter's example, walked; To and From. -/
set_option linter.unusedSimpArgs false
set_option linter.unusedVariables false
namespace Go.Proofs.Ytlhpibniecfofaa
open Go.RowKit Go.Ofp
set_option linter.unusedVariables false
set_option maxRecDepth 100000
set_option maxHeartbeats 4000000

theorem awake38_any (w : World) : Calls Try.prog 26 #[] w fun e w' => e = .returned (.bool true) ∧ Below w.heap.size w w' := by
  obtain ⟨r1, hr1⟩ : ∃ x : Rt, ⟨1, 1, 0⟩ = x := ⟨_, rfl⟩
  obtain ⟨r2, hr2⟩ : ∃ x : Rt, ⟨2, 1, 7⟩ = x := ⟨_, rfl⟩
  have k1 : r1.ok = true := by rw [← hr1]; rfl
  have k2 : r2.ok = true := by rw [← hr2]; rfl
  have q1 : r1.seq % 2 = 1 := by rw [← hr1]; rfl
  have q2 : r2.seq % 2 = 0 := by rw [← hr2]; rfl
  obtain ⟨Z, hZ⟩ : ∃ z : Sc, ⟨List.replicate 64 0, false⟩ = z := ⟨_, rfl⟩
  have hrz : Dk.rootOf Z = (Rt.none, false) := by rw [← hZ]; exact Dk.rootOf_zero
  have hn : Dk.new 2 = Dk.two Z Z := by rw [← hZ]; rfl
  have f0 := Dk.Fit.new 2 (by omega)
  rw [hn] at f0
  have s1 := Dk.two_store1 Z Z r1 k1 q1
  have s2 := Dk.two_store0 Z ⟨r1.secB, false⟩ r2 k2 q2
  have f1 := f0.store r1
  rw [s1] at f1
  have f2 := f1.store r2
  rw [s2] at f2
  have l2 : (Dk.two ⟨r2.secB, false⟩ ⟨r1.secB, false⟩).load = (r2, 0) := by
    rw [Dk.two_load, Dk.rootOf_sec _ k1, Dk.rootOf_sec _ k2, ← hr1, ← hr2]
    rfl
  obtain ⟨zs, hzs⟩ : ∃ z : List UInt8, List.replicate 64 0 = z := ⟨_, rfl⟩
  have hzl : zs.length = 64 := by rw [← hzs]; simp
  have w3 := Dk.two_write0 ⟨r2.secB, false⟩ ⟨r1.secB, false⟩ zs hzl
  have f3 := f2.write 0 zs
  rw [w3] at f3
  simp only at f1 f2 f3
  obtain ⟨d3, hd3⟩ : ∃ d : Dk, ⟨[⟨r2.secB, false⟩, ⟨r1.secB, false⟩], [⟨0, zs⟩], -1, false⟩ = d := ⟨_, rfl⟩
  rw [hd3] at w3 f3
  have f4 := f3.crash [2]
  have c4 : d3.crash [2] = Dk.two ⟨r2.secB, true⟩ ⟨r1.secB, false⟩ := by rw [← hd3]; rfl
  rw [c4] at f4
  have l4 : (Dk.two ⟨r2.secB, true⟩ ⟨r1.secB, false⟩).load = (r1, 0) := by
    rw [Dk.two_load, Dk.rootOf_sec _ k1, Dk.rootOf_bad, ← hr1]
    rfl
  have cN : Calls Try.prog 11 #[.int .i64 2] w fun e w' => ∃ bd sv wv, e = .returned (.pointer (some ⟨bd, 0, none⟩)) ∧ St w [] (dks bd sv wv (Dk.two Z Z)) w' := hn ▸ new_any 2 w (by omega) (by omega)
  have cA := fun bd sv wv W h => tstore_any bd sv wv (Dk.two Z Z) 2 _ r1 W h f0 (by omega) (by omega)
  have cB := fun bd sv wv W h => tstore_any bd sv wv (Dk.two Z ⟨r1.secB, false⟩) 2 _ r2 W h f1 (by omega) (by omega)
  have cL := fun bd sv wv W h => tload_any bd sv wv (Dk.two ⟨r2.secB, false⟩ ⟨r1.secB, false⟩) 2 _ W h f2 (by omega) (by omega)
  have cW := fun bd sv wv W h => write_any bd sv wv (Dk.two ⟨r2.secB, false⟩ ⟨r1.secB, false⟩) 0 (str zs) W h (by rw [str_size, hzl]; unfold maxLen; omega) (by have := f2.wait; omega) f2.fuse
  rw [str_data] at cW
  have cC := fun bd sv wv (ak : Option Addr) W h hks hap => crash_any bd sv wv d3 ak [2] 1 1 W h f3.ok (by have := f3.wait; omega) hks (by simp) rfl (by simp [maxLen]) hap
  rw [c4] at cC
  have cM := fun bd sv wv W h => tload_any bd sv wv (Dk.two ⟨r2.secB, true⟩ ⟨r1.secB, false⟩) 2 _ W h f4 (by omega) (by omega)
  rw [s1] at cA
  rw [s2] at cB
  rw [l2] at cL
  rw [w3] at cW
  rw [l4] at cM
  simp only at cA cB cL cW cM
  generalize Dk.two ⟨r2.secB, true⟩ ⟨r1.secB, false⟩ = d4 at *
  generalize Dk.two ⟨r2.secB, false⟩ ⟨r1.secB, false⟩ = d2 at *
  generalize Dk.two Z ⟨r1.secB, false⟩ = d1 at *
  generalize Dk.two Z Z = d0 at *
  rw [← hr1] at cA cM
  rw [← hr2] at cB cL
  simp only at cA cB cL cM
  clear hr1 hr2 k1 k2 q1 q2 hZ hrz hn f0 f1 f2 f3 f4 s1 s2 l2 l4 w3 hd3 c4
  have em : Elem Try.prog 5 (.int .u8 0) 1 1 := elem_byte
  have ez := elem_root
  have hmz : (madeCells (Value.int .u8 0).cells (64 * 1)).toList = zs.map vb := by
    rw [← hzs]
    have := made_rows [Value.int .u8 0] 64 (by decide)
    refine this.trans ?_
    simp [vb]
  clear hzs
  replace cN := Lib.hid cN
  replace cA := Lib.hid cA
  replace cB := Lib.hid cB
  replace cL := Lib.hid cL
  replace cW := Lib.hid cW
  replace cC := Lib.hid cC
  replace cM := Lib.hid cM
  replace hmz := Lib.hid hmz
  replace hzl := Lib.hid hzl
  go_enter Try.func26, Try.ntmps26
  go_wp2_with (first
    | (go_at_call 11; (with_reducible refine cN.out.mono ?_); rintro _ w2 ⟨bd, sv, wv, rfl, hS⟩)
    | (go_at_call 35; (with_reducible refine (cA.out _ _ _ _ hS.pre0).mono ?_); rintro _ w3 ⟨rfl, wv3, hk⟩; have hS1 := hS.call0 hk; clear hS hk; have hS := hS1; clear hS1)
    | (go_at_call 35; (with_reducible refine (cB.out _ _ _ _ hS.pre0).mono ?_); rintro _ w3 ⟨rfl, wv3, hk⟩; have hS1 := hS.call0 hk; clear hS hk; have hS := hS1; clear hS1; have hS1 : St w [] (dks bd sv wv3 d2 ++ []) w3 := by { rw [List.append_nil]; exact hS }; clear hS; have hS := hS1; clear hS1)
    | (go_at_call 39; have hP := hS.pre _ [] rfl; (with_reducible refine (cL.out _ _ _ _ hP).mono ?_); clear hP; rintro _ w4 ⟨rfl, hk⟩; have hS1 := hS.call _ [] rfl hk; clear hS hk; have hS := hS1; clear hS1)
    | ((with_reducible refine wpList_alloc_st hS rfl rfl ez ?_); intro g4 w5 hS1; clear hS; have hS := hS1; clear hS1)
    | ((with_reducible refine wpList_storerow_st 0 hS rfl rfl rfl rfl (by kernel_rfl) rfl rfl rfl rfl ?_); intro w1 hS1; clear hS; have hS := hS1; clear hS1; try simp only [List.set_cons_zero, List.set_cons_succ, List.setIfInBounds_toArray, List.take_succ_cons, List.take_zero, List.drop_succ_cons, List.drop_zero, List.nil_append, List.cons_append, List.append_nil, List.drop_nil, List.take_nil, List.length_cons, List.length_nil, Nat.zero_add, Nat.add_zero, Nat.reduceAdd] at hS; have hcl := hS.cell 0 rfl; have hcm := hS.cell 1 rfl)
    | (at_make; refine wpList_mkfull_st hS rfl rfl Try.underlying127 em rfl rfl 64 rfl rfl (by omega) (by unfold maxLen; omega) ?_; intro g7 w7 hS1; clear hS; rw [hmz.out] at hS1; have hS := hS1; clear hS1)
    | ((with_reducible refine wpList_bts (l := zs) rfl rfl Try.underlying127 Try.underlying5 Try.underlying9 rfl (hS.rowsl 0 rfl) hzl.out.symm ?_); have hS1 := hS.drop; clear hS; have hS := hS1; clear hS1)
    | (go_at_call 17; (with_reducible refine (cW.out _ _ _ _ hS.pre1).mono ?_); rintro _ w8 ⟨rfl, wv8, hk⟩; have hS1 := hS.call1 hk; clear hS hk; have hS := hS1; clear hS1)
    | (go_at_call 21; have hA := hS.alloc #[.int .i64 2] 3; have hkb := hA.blksl 0 rfl; have hko : w8.heap.size ∉ feet (dks bd sv wv8 d3 ++ []) := (feet_off (A := [Ch.blk g4 _ _]) (hA.off0 w8.heap.size (by simp [Ch.blk]))).2; have hko2 := (feet_off hko).1; clear hS hko; have hS := hA.drop; clear hA; (refine (cC.out _ _ _ _ _ hS.pre1 hkb (by rintro _ b o e; cases e; exact hko2)).mono ?_); rintro _ w9 ⟨rfl, wv9, hk⟩; have hS1 := hS.call1 hk; clear hS hk hkb hko2; have hS := hS1; clear hS1)
    | (go_at_call 39; (with_reducible refine (cM.out _ _ _ _ hS.pre1).mono ?_); rintro _ w4 ⟨rfl, hk⟩; have hS1 := hS.call1 hk; clear hS hk; have hS := hS1; clear hS1))
  go_ret
  exact ⟨rfl, hS.below⟩
end Go.Proofs.Ytlhpibniecfofaa
end

section
/- The walks of octet's Reader: texts; a reader that is not there; and of the reference's Reader. -/
set_option linter.unusedSimpArgs false
set_option linter.unusedVariables false
namespace Go.Proofs.Ytlhpibniecfofaa
open Go.RowKit Go.Ofp

/-! ### A reader that is not there -/
theorem nil_num (most : Int) (w : World) : Calls Try.prog 74 #[.pointer none, .int .i64 most] w fun x w' => x = .returned (.int .i64 0) ∧ w = w' := by
  go_enter Try.func74, Try.ntmps74
  go_wp2_with fail
  go_ret
  exact ⟨rfl, rfl⟩
theorem nil_err (w : World) : Calls Try.prog 75 #[.pointer none] w fun x w' => x = .returned (.int .i64 1) ∧ w = w' := by
  go_enter Try.func75, Try.ntmps75
  go_wp2_with fail
  go_ret
  exact ⟨rfl, rfl⟩
/-! ### The reference's reader -/
def RRd (w : World) (g : Nat) (r : List UInt8) (e : Int) : Prop := Whole w g 134 #[.string (str r), .int .i64 e] ∧ r.length ≤ 1000000

theorem RRd.keep {w w' : World} {g : Nat} {r : List UInt8} {e : Int} (h : RRd w g r e) (hb : Below w.heap.size w w') : RRd w' g r e := ⟨h.1.below hb h.1.lt, h.2⟩
theorem RRd.keepG {w w' : World} {g g' : Nat} {r : List UInt8} {e : Int} (h : RRd w g r e) (hb : w.grownBy w' (some g')) (hne : g ≠ g') : RRd w' g r e := ⟨h.1.keep hb (by simpa using hne), h.2⟩

theorem str_extract_from (r : List UInt8) (n : Nat) : (str r).extract n r.length = str (r.drop n) := by
  apply ByteArray.ext
  apply Array.ext'
  simp [str]
  exact List.take_of_length_le (by simp)

theorem str_extract_to (r : List UInt8) (n m : Nat) : (str r).extract n m = str ((r.take m).drop n) := by
  apply ByteArray.ext
  apply Array.ext'
  simp [str, List.drop_take]

set_option maxRecDepth 10000 in
theorem rr_num (g : Nat) (r : List UInt8) (e most : Int) (w : World) (h : RRd w g r e) :
    Calls Try.prog 77 #[.pointer (some ⟨g, 0, none⟩), .int .i64 most] w fun x w' =>
      x = .returned (.int .i64 (rdNum r e most).1) ∧ RRd w' g (rdNum r e most).2.1 (rdNum r e most).2.2 ∧ w.grownBy w' (some g) := by
  obtain ⟨hw, hl⟩ := h
  have c0 := hw.cell 0
  have c1 := hw.cell 1
  have f0 := hw.frozen 0
  have f1 := hw.frozen 1
  simp at c0 c1
  have hW := Lib.hid hw
  clear hw
  by_cases he : e = 0
  · subst he
    obtain ⟨⟨v, n, y⟩, hV⟩ : ∃ V, V = nextB r most := ⟨_, rfl⟩
    have hnc := nextB_cases r most
    have e1 : rdNum r 0 most = ((nextB r most).1, r.drop (nextB r most).2.1, (nextB r most).2.2) := rfl
    rw [← hV] at hnc e1
    rw [e1]
    simp only at hnc
    have hle : n ≤ r.length := by omega
    clear hnc e1
    replace hV := Lib.hid hV
    go_enter Try.func77, Try.ntmps77
    go_wp2_with fail
    refine (rnext_any _ most _ (by rw [str_size]; unfold maxLen; omega)).mono ?_
    rintro z w1 ⟨rfl, rfl⟩
    rw [str_data, ← hV.out]
    go_wp2_with fail
    go_ret
    have h2 := (hW.out.set 1 (.int .i64 y)).set 0 (.string (str (r.drop n)))
    refine ⟨rfl, ⟨?_, by rw [List.length_drop]; omega⟩, grown_trans (grown_set _ _ _ _) (grown_set _ _ _ _)⟩
    simpa [str_extract_from] using h2
  · have e1 : rdNum r e most = (0, r, e) := by rw [rdNum, if_pos he]
    rw [e1]
    have hne : (e != 0) = true := by rw [bne_iff_ne]; exact he
    clear he
    go_enter Try.func77, Try.ntmps77
    go_wp2_with fail
    go_ret
    exact ⟨rfl, ⟨hW.out, hl⟩, grown_refl _ _⟩

end Go.Proofs.Ytlhpibniecfofaa
end

section
/- Roots: Get, in the reference. -/
set_option linter.unusedSimpArgs false
set_option linter.unusedVariables false
namespace Go.Proofs.Ytlhpibniecfofaa
open Go.RowKit Go.Ofp
set_option linter.unusedVariables false
set_option maxRecDepth 100000
set_option maxHeartbeats 4000000

theorem rdNum_length (r : List UInt8) (e m : Int) : (rdNum r e m).2.1.length ≤ r.length := by
  unfold rdNum
  split
  · exact Nat.le_refl _
  · simp
theorem rrnum_blk (g : Nat) (r : List UInt8) (e most : Int) (w : World) (hw : Whole w g 134 #[.string (str r), .int .i64 e]) (hl : r.length ≤ 1000000) :
    Calls Try.prog 77 #[.pointer (some ⟨g, 0, none⟩), .int .i64 most] w fun x w' =>
      x = .returned (.int .i64 (rdNum r e most).1) ∧ Whole w' g 134 #[.string (str (rdNum r e most).2.1), .int .i64 (rdNum r e most).2.2] ∧ w.grownBy w' (some g) :=
  (rr_num g r e most w ⟨hw, hl⟩).mono fun _ _ h => ⟨h.1, h.2.1.1, h.2.2⟩
theorem elem_rroot : Elem Try.prog 49 (.agg #[.int .i64 0, .int .i64 0, .int .i64 0]) 3 24 := Elem.mk (by kernel_rfl) (by rfl) (by decide)
theorem build_rroot (a : Int) (w : World) : (Instr.build 49 #[(0, .int .i64 a)]).run Try.prog w = .ok (.agg #[.int .i64 a, .int .i64 0, .int .i64 0]) w := by kernel_rfl
theorem build_rrd (a : ByteArray) (w : World) : (Instr.build 134 #[(0, .string a)]).run Try.prog w = .ok (.agg #[.string a, .int .i64 0]) w := by kernel_rfl

theorem rtget_no (s : ByteArray) (w : World) (hs : s.size ≤ maxLen) (h : ¬ (s.data.toList.length = 64 ∧ s.data.toList.take 4 = [114, 111, 111, 116])) :
    Calls Try.prog 28 #[.string s] w fun e w' => e = .returned (.tuple #[.agg #[.int .i64 0, .int .i64 0, .int .i64 0], .bool false]) ∧ Below w.heap.size w w' := by
  have hS := St.start w
  have ez := elem_rroot
  unfold maxLen at hs
  rw [← ba_size] at h
  by_cases h64 : s.size = 64
  · have hp : ¬ (s.extract 0 4).data.toList = [114, 111, 111, 116] := by
      intro e
      refine h ⟨h64, ?_⟩
      rw [← e, extract_list]
      simp
    clear h
    have hi : ((s.size : Int) != 64) = false := by simp [h64]
    have hpb : ((s.extract 0 4).toList == [114, 111, 111, 116]) = false := by rw [beq_eq_false_iff_ne, ByteArray.toList_eq]; exact hp
    clear hp
    go_enter Try.func28, Try.ntmps28
    go_wp2_with (first | (with_reducible refine wpList_box_st hS rfl rfl rfl ?_; intro g1 w1 hS1; clear hS; replace hS := hS1; clear hS1) | (with_reducible refine wpList_box1_st hS rfl rfl rfl ?_; intro g1 w1 hS1; clear hS; replace hS := hS1; clear hS1) | (with_reducible refine wpList_alloc_st hS rfl rfl (by assumption) ?_; intro g1 w1 hS1; clear hS; replace hS := hS1; clear hS1) | (with_reducible refine wpList_alloc1_st hS rfl rfl (by assumption) rfl ?_; intro g1 w1 hS1; clear hS; replace hS := hS1; clear hS1) | ((with_reducible refine wpList_load_st 0 hS rfl rfl rfl rfl ?_ rfl ?_); focus (simp [scalarB, go_sem]; done)) | ((with_reducible refine wpList_loadall_st 0 hS rfl rfl rfl rfl ?_ (by kernel_rfl) ?_); focus (simp [rowB, go_sem]; done)) | ((with_reducible refine wpList_store_st 0 hS rfl rfl rfl rfl (by kernel_rfl) rfl rfl ?_); intro w1 hS1; clear hS; replace hS := hS1; clear hS1; try simp only [List.set_cons_zero, List.set_cons_succ, List.setIfInBounds_toArray, List.take_succ_cons, List.take_zero, List.drop_succ_cons, List.drop_zero, List.nil_append, List.cons_append, List.append_nil, List.drop_nil, List.take_nil, List.length_cons, List.length_nil, Nat.zero_add, Nat.add_zero, Nat.reduceAdd] at hS) | ((with_reducible refine wpList_storerow_st 0 hS rfl rfl rfl rfl (by kernel_rfl) rfl rfl rfl rfl ?_); intro w1 hS1; clear hS; replace hS := hS1; clear hS1; try simp only [List.set_cons_zero, List.set_cons_succ, List.setIfInBounds_toArray, List.take_succ_cons, List.take_zero, List.drop_succ_cons, List.drop_zero, List.nil_append, List.cons_append, List.append_nil, List.drop_nil, List.take_nil, List.length_cons, List.length_nil, Nat.zero_add, Nat.add_zero, Nat.reduceAdd] at hS))
    have c := hS.cell 0 rfl
    exact bodyPost_ret (by simp [results, Try.results28, go_sem, c]) rfl ⟨rfl, hS.below⟩
  · clear h
    have hi : ((s.size : Int) != 64) = true := by simp; omega
    go_enter Try.func28, Try.ntmps28
    go_wp2_with (first | (with_reducible refine wpList_box_st hS rfl rfl rfl ?_; intro g1 w1 hS1; clear hS; replace hS := hS1; clear hS1) | (with_reducible refine wpList_box1_st hS rfl rfl rfl ?_; intro g1 w1 hS1; clear hS; replace hS := hS1; clear hS1) | (with_reducible refine wpList_alloc_st hS rfl rfl (by assumption) ?_; intro g1 w1 hS1; clear hS; replace hS := hS1; clear hS1) | (with_reducible refine wpList_alloc1_st hS rfl rfl (by assumption) rfl ?_; intro g1 w1 hS1; clear hS; replace hS := hS1; clear hS1) | ((with_reducible refine wpList_load_st 0 hS rfl rfl rfl rfl ?_ rfl ?_); focus (simp [scalarB, go_sem]; done)) | ((with_reducible refine wpList_loadall_st 0 hS rfl rfl rfl rfl ?_ (by kernel_rfl) ?_); focus (simp [rowB, go_sem]; done)) | ((with_reducible refine wpList_store_st 0 hS rfl rfl rfl rfl (by kernel_rfl) rfl rfl ?_); intro w1 hS1; clear hS; replace hS := hS1; clear hS1; try simp only [List.set_cons_zero, List.set_cons_succ, List.setIfInBounds_toArray, List.take_succ_cons, List.take_zero, List.drop_succ_cons, List.drop_zero, List.nil_append, List.cons_append, List.append_nil, List.drop_nil, List.take_nil, List.length_cons, List.length_nil, Nat.zero_add, Nat.add_zero, Nat.reduceAdd] at hS) | ((with_reducible refine wpList_storerow_st 0 hS rfl rfl rfl rfl (by kernel_rfl) rfl rfl rfl rfl ?_); intro w1 hS1; clear hS; replace hS := hS1; clear hS1; try simp only [List.set_cons_zero, List.set_cons_succ, List.setIfInBounds_toArray, List.take_succ_cons, List.take_zero, List.drop_succ_cons, List.drop_zero, List.nil_append, List.cons_append, List.append_nil, List.drop_nil, List.take_nil, List.length_cons, List.length_nil, Nat.zero_add, Nat.add_zero, Nat.reduceAdd] at hS))
    have c := hS.cell 0 rfl
    exact bodyPost_ret (by simp [results, Try.results28, go_sem, c]) rfl ⟨rfl, hS.below⟩

theorem rtget_yes (s : ByteArray) (w : World) (h64 : s.size = 64) (hp : s.data.toList.take 4 = [114, 111, 111, 116]) :
    Calls Try.prog 28 #[.string s] w fun e w' => e = .returned (.tuple #[.agg #[.int .i64 (Rt.getB s.data.toList).1.seq, .int .i64 (Rt.getB s.data.toList).1.life, .int .i64 (Rt.getB s.data.toList).1.head], .bool (Rt.getB s.data.toList).2]) ∧ Below w.heap.size w w' := by
  have hS := St.start w
  have ez := elem_rroot
  have hpb : ((s.extract 0 4).toList == [114, 111, 111, 116]) = true := by rw [beq_iff_eq, ByteArray.toList_eq, extract_list]; simpa using hp
  have hi : ((s.size : Int) != 64) = false := by simp [h64]
  have hex : s.extract 4 64 = str (s.data.toList.drop 4) := by
    apply ba_ext
    rw [extract_list, str_data]
    exact List.take_of_length_le (by rw [List.length_drop, ← ba_size]; omega)
  have hLl : s.data.toList.length = 64 := by rw [← ba_size]; exact h64
  obtain ⟨a1, r1, e1, h1⟩ : ∃ a r e, rdNum (s.data.toList.drop 4) 0 4294967295 = (a, r, e) := ⟨_, _, _, rfl⟩
  obtain ⟨a2, r2, e2, h2⟩ : ∃ a r e, rdNum r1 e1 4294967295 = (a, r, e) := ⟨_, _, _, rfl⟩
  obtain ⟨a3, r3, e3, h3⟩ : ∃ a r e, rdNum r2 e2 1099511627775 = (a, r, e) := ⟨_, _, _, rfl⟩
  have hrd : Rt.read s.data.toList = (⟨a1, a2, a3⟩, e3) := by simp only [Rt.read, h1, h2, h3]
  have hg : Rt.getB s.data.toList = if e3 = 0 ∧ (⟨a1, a2, a3⟩ : Rt).putB = s.data.toList then (⟨a1, a2, a3⟩, true) else (Rt.none, false) := by
    rw [Rt.getB, Rt.isB, hrd]
    unfold Rt.putB
    cases hok : (⟨a1, a2, a3⟩ : Rt).ok with
    | true => simp [hLl, hp]
    | false =>
      have : ¬ (([] : List UInt8) = s.data.toList) := by intro e; rw [← e] at hLl; simp at hLl
      simp only [Bool.false_eq_true, if_false, false_and, and_false, decide_false]
      rw [if_neg]
      exact fun h => this h.2
  have l0 : (s.data.toList.drop 4).length ≤ 1000000 := by rw [List.length_drop]; omega
  have l1 : r1.length ≤ 1000000 := by have := rdNum_length (s.data.toList.drop 4) 0 4294967295; rw [h1] at this; simp only at this; omega
  have l2 : r2.length ≤ 1000000 := by have := rdNum_length r1 e1 4294967295; rw [h2] at this; simp only at this; omega
  have c1 := fun g W h => rrnum_blk g (s.data.toList.drop 4) 0 4294967295 W h l0
  have c2 := fun g W h => rrnum_blk g r1 e1 4294967295 W h l1
  have c3 := fun g W h => rrnum_blk g r2 e2 1099511627775 W h l2
  rw [h1] at c1
  rw [h2] at c2
  rw [h3] at c3
  simp only at c1 c2 c3
  have cP := fun W => rtput_any ⟨a1, a2, a3⟩ W
  simp only at cP
  have hPs : ((⟨a1, a2, a3⟩ : Rt).putB = s.data.toList) ↔ ((str (⟨a1, a2, a3⟩ : Rt).putB).toList == s.toList) = true := by
    rw [beq_iff_eq, str_toList, ByteArray.toList_eq]
  generalize (⟨a1, a2, a3⟩ : Rt).putB = PB at *
  generalize str PB = PS at *
  generalize s.data.toList.drop 4 = D4 at *
  generalize hLL : s.data.toList = LL at *
  replace hex := Lib.hid hex
  clear h1 h2 h3 hrd hp hLl l0 l1 l2
  replace c1 := Lib.hid c1
  replace c2 := Lib.hid c2
  replace c3 := Lib.hid c3
  replace cP := Lib.hid cP
  replace hLL := Lib.hid hLL
  have hzz : ∀ (W : World) (a : Int), (Instr.build 49 #[(0, .int .i64 a)]).run Try.prog W = .ok (.agg #[.int .i64 a, .int .i64 0, .int .i64 0]) W := fun W a => build_rroot a W
  have hzr : ∀ (W : World) (a : ByteArray), (Instr.build 134 #[(0, .string a)]).run Try.prog W = .ok (.agg #[.string a, .int .i64 0]) W := fun W a => build_rrd a W
  have hmain : ∀ (b : Bool), (PS.toList == s.toList) = b → Hid (Rt.getB LL = if e3 = 0 ∧ b = true then (⟨a1, a2, a3⟩, true) else (Rt.none, false)) := fun b hb => Lib.hid (by rw [hg, ← hb]; simp only [hPs])
  clear hg hPs
  obtain ⟨b, hb⟩ : ∃ b, (PS.toList == s.toList) = b := ⟨_, rfl⟩
  have hg := hmain b hb
  clear hmain
  by_cases he : e3 = 0
  · subst he
    cases b with
    | true =>
      have hg2 : Rt.getB LL = (⟨a1, a2, a3⟩, true) := by rw [hg.out, if_pos ⟨rfl, rfl⟩]
      clear hg
      replace hg2 := Lib.hid hg2
      go_enter Try.func28, Try.ntmps28
      go_wp2_with (first
        | (go_at_call 77; (with_reducible refine (c1.out _ _ (hS.get 0 rfl)).mono ?_); rintro _ w6 ⟨rfl, hR6, hg6⟩; have hS1 := hS.upd (d := Ch.blk _ _ _) 0 rfl (Fr.of_grown hg6) (by simp [Ch.blk]) hR6 (by simp [Ch.blk]); clear hS hR6 hg6; simp only [List.set_cons_zero, List.set_cons_succ] at hS1; have hS := hS1; clear hS1)
        | (go_at_call 77; (with_reducible refine (c2.out _ _ (hS.get 1 rfl)).mono ?_); rintro _ w6 ⟨rfl, hR6, hg6⟩; have hS1 := hS.upd (d := Ch.blk _ _ _) 1 rfl (Fr.of_grown hg6) (by simp [Ch.blk]) hR6 (by simp [Ch.blk]); clear hS hR6 hg6; simp only [List.set_cons_zero, List.set_cons_succ] at hS1; have hS := hS1; clear hS1)
        | (go_at_call 77; (with_reducible refine (c3.out _ _ (hS.get 1 rfl)).mono ?_); rintro _ w6 ⟨rfl, hR6, hg6⟩; have hS1 := hS.upd (d := Ch.blk _ _ _) 1 rfl (Fr.of_grown hg6) (by simp [Ch.blk]) hR6 (by simp [Ch.blk]); clear hS hR6 hg6; simp only [List.set_cons_zero, List.set_cons_succ] at hS1; have hS := hS1; clear hS1)
        | (go_at_call 33; (with_reducible refine (cP.out _).mono ?_); rintro _ w7 ⟨rfl, hb7⟩; have hS1 := hS.keepB hb7; clear hb7 hS; have hS := hS1; clear hS1)
        | ((with_reducible refine wpList_box_st hS rfl rfl rfl ?_); intro g1 w1 hS1; clear hS; rw [hex.out] at hS1; have hS := hS1; clear hS1)
        | ((with_reducible refine wpList_store_st 0 hS rfl rfl rfl rfl (by kernel_rfl) rfl rfl ?_); intro w1 hS1; clear hS; have hS := hS1; clear hS1; try simp only [List.set_cons_zero, List.set_cons_succ, List.setIfInBounds_toArray, List.take_succ_cons, List.take_zero, List.drop_succ_cons, List.drop_zero, List.nil_append, List.cons_append, List.append_nil, List.drop_nil, List.take_nil, List.length_cons, List.length_nil, Nat.zero_add, Nat.add_zero, Nat.reduceAdd] at hS; have hcl := hS.cell 0 rfl)
        | (with_reducible refine wpList_box_st hS rfl rfl rfl ?_; intro g1 w1 hS1; clear hS; replace hS := hS1; clear hS1) | (with_reducible refine wpList_box1_st hS rfl rfl rfl ?_; intro g1 w1 hS1; clear hS; replace hS := hS1; clear hS1) | (with_reducible refine wpList_alloc_st hS rfl rfl (by assumption) ?_; intro g1 w1 hS1; clear hS; replace hS := hS1; clear hS1) | (with_reducible refine wpList_alloc1_st hS rfl rfl (by assumption) rfl ?_; intro g1 w1 hS1; clear hS; replace hS := hS1; clear hS1) | ((with_reducible refine wpList_load_st 0 hS rfl rfl rfl rfl ?_ rfl ?_); focus (simp [scalarB, go_sem]; done)) | ((with_reducible refine wpList_loadall_st 0 hS rfl rfl rfl rfl ?_ (by kernel_rfl) ?_); focus (simp [rowB, go_sem]; done)) | ((with_reducible refine wpList_store_st 0 hS rfl rfl rfl rfl (by kernel_rfl) rfl rfl ?_); intro w1 hS1; clear hS; replace hS := hS1; clear hS1; try simp only [List.set_cons_zero, List.set_cons_succ, List.setIfInBounds_toArray, List.take_succ_cons, List.take_zero, List.drop_succ_cons, List.drop_zero, List.nil_append, List.cons_append, List.append_nil, List.drop_nil, List.take_nil, List.length_cons, List.length_nil, Nat.zero_add, Nat.add_zero, Nat.reduceAdd] at hS) | ((with_reducible refine wpList_storerow_st 0 hS rfl rfl rfl rfl (by kernel_rfl) rfl rfl rfl rfl ?_); intro w1 hS1; clear hS; replace hS := hS1; clear hS1; try simp only [List.set_cons_zero, List.set_cons_succ, List.setIfInBounds_toArray, List.take_succ_cons, List.take_zero, List.drop_succ_cons, List.drop_zero, List.nil_append, List.cons_append, List.append_nil, List.drop_nil, List.take_nil, List.length_cons, List.length_nil, Nat.zero_add, Nat.add_zero, Nat.reduceAdd] at hS) | ((with_reducible refine wpList_load_st 1 hS rfl rfl rfl rfl ?_ rfl ?_); focus (simp [scalarB, go_sem]; done)) | ((with_reducible refine wpList_loadall_st 1 hS rfl rfl rfl rfl ?_ (by kernel_rfl) ?_); focus (simp [rowB, go_sem]; done)) | ((with_reducible refine wpList_store_st 1 hS rfl rfl rfl rfl (by kernel_rfl) rfl rfl ?_); intro w1 hS1; clear hS; replace hS := hS1; clear hS1; try simp only [List.set_cons_zero, List.set_cons_succ, List.setIfInBounds_toArray, List.take_succ_cons, List.take_zero, List.drop_succ_cons, List.drop_zero, List.nil_append, List.cons_append, List.append_nil, List.drop_nil, List.take_nil, List.length_cons, List.length_nil, Nat.zero_add, Nat.add_zero, Nat.reduceAdd] at hS) | ((with_reducible refine wpList_storerow_st 1 hS rfl rfl rfl rfl (by kernel_rfl) rfl rfl rfl rfl ?_); intro w1 hS1; clear hS; replace hS := hS1; clear hS1; try simp only [List.set_cons_zero, List.set_cons_succ, List.setIfInBounds_toArray, List.take_succ_cons, List.take_zero, List.drop_succ_cons, List.drop_zero, List.nil_append, List.cons_append, List.append_nil, List.drop_nil, List.take_nil, List.length_cons, List.length_nil, Nat.zero_add, Nat.add_zero, Nat.reduceAdd] at hS) | ((with_reducible refine wpList_load_st 2 hS rfl rfl rfl rfl ?_ rfl ?_); focus (simp [scalarB, go_sem]; done)) | ((with_reducible refine wpList_loadall_st 2 hS rfl rfl rfl rfl ?_ (by kernel_rfl) ?_); focus (simp [rowB, go_sem]; done)) | ((with_reducible refine wpList_store_st 2 hS rfl rfl rfl rfl (by kernel_rfl) rfl rfl ?_); intro w1 hS1; clear hS; replace hS := hS1; clear hS1; try simp only [List.set_cons_zero, List.set_cons_succ, List.setIfInBounds_toArray, List.take_succ_cons, List.take_zero, List.drop_succ_cons, List.drop_zero, List.nil_append, List.cons_append, List.append_nil, List.drop_nil, List.take_nil, List.length_cons, List.length_nil, Nat.zero_add, Nat.add_zero, Nat.reduceAdd] at hS) | ((with_reducible refine wpList_storerow_st 2 hS rfl rfl rfl rfl (by kernel_rfl) rfl rfl rfl rfl ?_); intro w1 hS1; clear hS; replace hS := hS1; clear hS1; try simp only [List.set_cons_zero, List.set_cons_succ, List.setIfInBounds_toArray, List.take_succ_cons, List.take_zero, List.drop_succ_cons, List.drop_zero, List.nil_append, List.cons_append, List.append_nil, List.drop_nil, List.take_nil, List.length_cons, List.length_nil, Nat.zero_add, Nat.add_zero, Nat.reduceAdd] at hS))
      have c := hS.cell 2 rfl
      exact bodyPost_ret (v := .tuple #[.agg #[.int .i64 a1, .int .i64 a2, .int .i64 a3], .bool true]) (by simp [results, Try.results28, go_sem, c]) rfl ⟨by first | (rw [hg2.out]; done) | (rw [hg2.out]; rfl), hS.below⟩
    | false =>
      have hg2 : Rt.getB LL = (Rt.none, false) := by rw [hg.out, if_neg (by simp)]
      clear hg
      replace hg2 := Lib.hid hg2
      go_enter Try.func28, Try.ntmps28
      go_wp2_with (first
        | (go_at_call 77; (with_reducible refine (c1.out _ _ (hS.get 0 rfl)).mono ?_); rintro _ w6 ⟨rfl, hR6, hg6⟩; have hS1 := hS.upd (d := Ch.blk _ _ _) 0 rfl (Fr.of_grown hg6) (by simp [Ch.blk]) hR6 (by simp [Ch.blk]); clear hS hR6 hg6; simp only [List.set_cons_zero, List.set_cons_succ] at hS1; have hS := hS1; clear hS1)
        | (go_at_call 77; (with_reducible refine (c2.out _ _ (hS.get 1 rfl)).mono ?_); rintro _ w6 ⟨rfl, hR6, hg6⟩; have hS1 := hS.upd (d := Ch.blk _ _ _) 1 rfl (Fr.of_grown hg6) (by simp [Ch.blk]) hR6 (by simp [Ch.blk]); clear hS hR6 hg6; simp only [List.set_cons_zero, List.set_cons_succ] at hS1; have hS := hS1; clear hS1)
        | (go_at_call 77; (with_reducible refine (c3.out _ _ (hS.get 1 rfl)).mono ?_); rintro _ w6 ⟨rfl, hR6, hg6⟩; have hS1 := hS.upd (d := Ch.blk _ _ _) 1 rfl (Fr.of_grown hg6) (by simp [Ch.blk]) hR6 (by simp [Ch.blk]); clear hS hR6 hg6; simp only [List.set_cons_zero, List.set_cons_succ] at hS1; have hS := hS1; clear hS1)
        | (go_at_call 33; (with_reducible refine (cP.out _).mono ?_); rintro _ w7 ⟨rfl, hb7⟩; have hS1 := hS.keepB hb7; clear hb7 hS; have hS := hS1; clear hS1)
        | ((with_reducible refine wpList_box_st hS rfl rfl rfl ?_); intro g1 w1 hS1; clear hS; rw [hex.out] at hS1; have hS := hS1; clear hS1)
        | ((with_reducible refine wpList_store_st 0 hS rfl rfl rfl rfl (by kernel_rfl) rfl rfl ?_); intro w1 hS1; clear hS; have hS := hS1; clear hS1; try simp only [List.set_cons_zero, List.set_cons_succ, List.setIfInBounds_toArray, List.take_succ_cons, List.take_zero, List.drop_succ_cons, List.drop_zero, List.nil_append, List.cons_append, List.append_nil, List.drop_nil, List.take_nil, List.length_cons, List.length_nil, Nat.zero_add, Nat.add_zero, Nat.reduceAdd] at hS; have hcl := hS.cell 0 rfl)
        | (with_reducible refine wpList_box_st hS rfl rfl rfl ?_; intro g1 w1 hS1; clear hS; replace hS := hS1; clear hS1) | (with_reducible refine wpList_box1_st hS rfl rfl rfl ?_; intro g1 w1 hS1; clear hS; replace hS := hS1; clear hS1) | (with_reducible refine wpList_alloc_st hS rfl rfl (by assumption) ?_; intro g1 w1 hS1; clear hS; replace hS := hS1; clear hS1) | (with_reducible refine wpList_alloc1_st hS rfl rfl (by assumption) rfl ?_; intro g1 w1 hS1; clear hS; replace hS := hS1; clear hS1) | ((with_reducible refine wpList_load_st 0 hS rfl rfl rfl rfl ?_ rfl ?_); focus (simp [scalarB, go_sem]; done)) | ((with_reducible refine wpList_loadall_st 0 hS rfl rfl rfl rfl ?_ (by kernel_rfl) ?_); focus (simp [rowB, go_sem]; done)) | ((with_reducible refine wpList_store_st 0 hS rfl rfl rfl rfl (by kernel_rfl) rfl rfl ?_); intro w1 hS1; clear hS; replace hS := hS1; clear hS1; try simp only [List.set_cons_zero, List.set_cons_succ, List.setIfInBounds_toArray, List.take_succ_cons, List.take_zero, List.drop_succ_cons, List.drop_zero, List.nil_append, List.cons_append, List.append_nil, List.drop_nil, List.take_nil, List.length_cons, List.length_nil, Nat.zero_add, Nat.add_zero, Nat.reduceAdd] at hS) | ((with_reducible refine wpList_storerow_st 0 hS rfl rfl rfl rfl (by kernel_rfl) rfl rfl rfl rfl ?_); intro w1 hS1; clear hS; replace hS := hS1; clear hS1; try simp only [List.set_cons_zero, List.set_cons_succ, List.setIfInBounds_toArray, List.take_succ_cons, List.take_zero, List.drop_succ_cons, List.drop_zero, List.nil_append, List.cons_append, List.append_nil, List.drop_nil, List.take_nil, List.length_cons, List.length_nil, Nat.zero_add, Nat.add_zero, Nat.reduceAdd] at hS) | ((with_reducible refine wpList_load_st 1 hS rfl rfl rfl rfl ?_ rfl ?_); focus (simp [scalarB, go_sem]; done)) | ((with_reducible refine wpList_loadall_st 1 hS rfl rfl rfl rfl ?_ (by kernel_rfl) ?_); focus (simp [rowB, go_sem]; done)) | ((with_reducible refine wpList_store_st 1 hS rfl rfl rfl rfl (by kernel_rfl) rfl rfl ?_); intro w1 hS1; clear hS; replace hS := hS1; clear hS1; try simp only [List.set_cons_zero, List.set_cons_succ, List.setIfInBounds_toArray, List.take_succ_cons, List.take_zero, List.drop_succ_cons, List.drop_zero, List.nil_append, List.cons_append, List.append_nil, List.drop_nil, List.take_nil, List.length_cons, List.length_nil, Nat.zero_add, Nat.add_zero, Nat.reduceAdd] at hS) | ((with_reducible refine wpList_storerow_st 1 hS rfl rfl rfl rfl (by kernel_rfl) rfl rfl rfl rfl ?_); intro w1 hS1; clear hS; replace hS := hS1; clear hS1; try simp only [List.set_cons_zero, List.set_cons_succ, List.setIfInBounds_toArray, List.take_succ_cons, List.take_zero, List.drop_succ_cons, List.drop_zero, List.nil_append, List.cons_append, List.append_nil, List.drop_nil, List.take_nil, List.length_cons, List.length_nil, Nat.zero_add, Nat.add_zero, Nat.reduceAdd] at hS) | ((with_reducible refine wpList_load_st 2 hS rfl rfl rfl rfl ?_ rfl ?_); focus (simp [scalarB, go_sem]; done)) | ((with_reducible refine wpList_loadall_st 2 hS rfl rfl rfl rfl ?_ (by kernel_rfl) ?_); focus (simp [rowB, go_sem]; done)) | ((with_reducible refine wpList_store_st 2 hS rfl rfl rfl rfl (by kernel_rfl) rfl rfl ?_); intro w1 hS1; clear hS; replace hS := hS1; clear hS1; try simp only [List.set_cons_zero, List.set_cons_succ, List.setIfInBounds_toArray, List.take_succ_cons, List.take_zero, List.drop_succ_cons, List.drop_zero, List.nil_append, List.cons_append, List.append_nil, List.drop_nil, List.take_nil, List.length_cons, List.length_nil, Nat.zero_add, Nat.add_zero, Nat.reduceAdd] at hS) | ((with_reducible refine wpList_storerow_st 2 hS rfl rfl rfl rfl (by kernel_rfl) rfl rfl rfl rfl ?_); intro w1 hS1; clear hS; replace hS := hS1; clear hS1; try simp only [List.set_cons_zero, List.set_cons_succ, List.setIfInBounds_toArray, List.take_succ_cons, List.take_zero, List.drop_succ_cons, List.drop_zero, List.nil_append, List.cons_append, List.append_nil, List.drop_nil, List.take_nil, List.length_cons, List.length_nil, Nat.zero_add, Nat.add_zero, Nat.reduceAdd] at hS))
      have c := hS.cell 2 rfl
      exact bodyPost_ret (v := .tuple #[.agg #[.int .i64 0, .int .i64 0, .int .i64 0], .bool false]) (by simp [results, Try.results28, go_sem, c]) rfl ⟨by first | (rw [hg2.out]; done) | (rw [hg2.out]; rfl), hS.below⟩
  · have hg2 : Rt.getB LL = (Rt.none, false) := by rw [hg.out, if_neg (by simp [he])]
    have heb : (e3 != 0) = true := by simp [he]
    clear hg he
    replace hg2 := Lib.hid hg2
    go_enter Try.func28, Try.ntmps28
    go_wp2_with (first
      | (go_at_call 77; (with_reducible refine (c1.out _ _ (hS.get 0 rfl)).mono ?_); rintro _ w6 ⟨rfl, hR6, hg6⟩; have hS1 := hS.upd (d := Ch.blk _ _ _) 0 rfl (Fr.of_grown hg6) (by simp [Ch.blk]) hR6 (by simp [Ch.blk]); clear hS hR6 hg6; simp only [List.set_cons_zero, List.set_cons_succ] at hS1; have hS := hS1; clear hS1)
      | (go_at_call 77; (with_reducible refine (c2.out _ _ (hS.get 1 rfl)).mono ?_); rintro _ w6 ⟨rfl, hR6, hg6⟩; have hS1 := hS.upd (d := Ch.blk _ _ _) 1 rfl (Fr.of_grown hg6) (by simp [Ch.blk]) hR6 (by simp [Ch.blk]); clear hS hR6 hg6; simp only [List.set_cons_zero, List.set_cons_succ] at hS1; have hS := hS1; clear hS1)
      | (go_at_call 77; (with_reducible refine (c3.out _ _ (hS.get 1 rfl)).mono ?_); rintro _ w6 ⟨rfl, hR6, hg6⟩; have hS1 := hS.upd (d := Ch.blk _ _ _) 1 rfl (Fr.of_grown hg6) (by simp [Ch.blk]) hR6 (by simp [Ch.blk]); clear hS hR6 hg6; simp only [List.set_cons_zero, List.set_cons_succ] at hS1; have hS := hS1; clear hS1)
      | (go_at_call 33; (with_reducible refine (cP.out _).mono ?_); rintro _ w7 ⟨rfl, hb7⟩; have hS1 := hS.keepB hb7; clear hb7 hS; have hS := hS1; clear hS1)
      | ((with_reducible refine wpList_box_st hS rfl rfl rfl ?_); intro g1 w1 hS1; clear hS; rw [hex.out] at hS1; have hS := hS1; clear hS1)
      | ((with_reducible refine wpList_store_st 0 hS rfl rfl rfl rfl (by kernel_rfl) rfl rfl ?_); intro w1 hS1; clear hS; have hS := hS1; clear hS1; try simp only [List.set_cons_zero, List.set_cons_succ, List.setIfInBounds_toArray, List.take_succ_cons, List.take_zero, List.drop_succ_cons, List.drop_zero, List.nil_append, List.cons_append, List.append_nil, List.drop_nil, List.take_nil, List.length_cons, List.length_nil, Nat.zero_add, Nat.add_zero, Nat.reduceAdd] at hS; have hcl := hS.cell 0 rfl)
        | (with_reducible refine wpList_box_st hS rfl rfl rfl ?_; intro g1 w1 hS1; clear hS; replace hS := hS1; clear hS1) | (with_reducible refine wpList_box1_st hS rfl rfl rfl ?_; intro g1 w1 hS1; clear hS; replace hS := hS1; clear hS1) | (with_reducible refine wpList_alloc_st hS rfl rfl (by assumption) ?_; intro g1 w1 hS1; clear hS; replace hS := hS1; clear hS1) | (with_reducible refine wpList_alloc1_st hS rfl rfl (by assumption) rfl ?_; intro g1 w1 hS1; clear hS; replace hS := hS1; clear hS1) | ((with_reducible refine wpList_load_st 0 hS rfl rfl rfl rfl ?_ rfl ?_); focus (simp [scalarB, go_sem]; done)) | ((with_reducible refine wpList_loadall_st 0 hS rfl rfl rfl rfl ?_ (by kernel_rfl) ?_); focus (simp [rowB, go_sem]; done)) | ((with_reducible refine wpList_store_st 0 hS rfl rfl rfl rfl (by kernel_rfl) rfl rfl ?_); intro w1 hS1; clear hS; replace hS := hS1; clear hS1; try simp only [List.set_cons_zero, List.set_cons_succ, List.setIfInBounds_toArray, List.take_succ_cons, List.take_zero, List.drop_succ_cons, List.drop_zero, List.nil_append, List.cons_append, List.append_nil, List.drop_nil, List.take_nil, List.length_cons, List.length_nil, Nat.zero_add, Nat.add_zero, Nat.reduceAdd] at hS) | ((with_reducible refine wpList_storerow_st 0 hS rfl rfl rfl rfl (by kernel_rfl) rfl rfl rfl rfl ?_); intro w1 hS1; clear hS; replace hS := hS1; clear hS1; try simp only [List.set_cons_zero, List.set_cons_succ, List.setIfInBounds_toArray, List.take_succ_cons, List.take_zero, List.drop_succ_cons, List.drop_zero, List.nil_append, List.cons_append, List.append_nil, List.drop_nil, List.take_nil, List.length_cons, List.length_nil, Nat.zero_add, Nat.add_zero, Nat.reduceAdd] at hS) | ((with_reducible refine wpList_load_st 1 hS rfl rfl rfl rfl ?_ rfl ?_); focus (simp [scalarB, go_sem]; done)) | ((with_reducible refine wpList_loadall_st 1 hS rfl rfl rfl rfl ?_ (by kernel_rfl) ?_); focus (simp [rowB, go_sem]; done)) | ((with_reducible refine wpList_store_st 1 hS rfl rfl rfl rfl (by kernel_rfl) rfl rfl ?_); intro w1 hS1; clear hS; replace hS := hS1; clear hS1; try simp only [List.set_cons_zero, List.set_cons_succ, List.setIfInBounds_toArray, List.take_succ_cons, List.take_zero, List.drop_succ_cons, List.drop_zero, List.nil_append, List.cons_append, List.append_nil, List.drop_nil, List.take_nil, List.length_cons, List.length_nil, Nat.zero_add, Nat.add_zero, Nat.reduceAdd] at hS) | ((with_reducible refine wpList_storerow_st 1 hS rfl rfl rfl rfl (by kernel_rfl) rfl rfl rfl rfl ?_); intro w1 hS1; clear hS; replace hS := hS1; clear hS1; try simp only [List.set_cons_zero, List.set_cons_succ, List.setIfInBounds_toArray, List.take_succ_cons, List.take_zero, List.drop_succ_cons, List.drop_zero, List.nil_append, List.cons_append, List.append_nil, List.drop_nil, List.take_nil, List.length_cons, List.length_nil, Nat.zero_add, Nat.add_zero, Nat.reduceAdd] at hS) | ((with_reducible refine wpList_load_st 2 hS rfl rfl rfl rfl ?_ rfl ?_); focus (simp [scalarB, go_sem]; done)) | ((with_reducible refine wpList_loadall_st 2 hS rfl rfl rfl rfl ?_ (by kernel_rfl) ?_); focus (simp [rowB, go_sem]; done)) | ((with_reducible refine wpList_store_st 2 hS rfl rfl rfl rfl (by kernel_rfl) rfl rfl ?_); intro w1 hS1; clear hS; replace hS := hS1; clear hS1; try simp only [List.set_cons_zero, List.set_cons_succ, List.setIfInBounds_toArray, List.take_succ_cons, List.take_zero, List.drop_succ_cons, List.drop_zero, List.nil_append, List.cons_append, List.append_nil, List.drop_nil, List.take_nil, List.length_cons, List.length_nil, Nat.zero_add, Nat.add_zero, Nat.reduceAdd] at hS) | ((with_reducible refine wpList_storerow_st 2 hS rfl rfl rfl rfl (by kernel_rfl) rfl rfl rfl rfl ?_); intro w1 hS1; clear hS; replace hS := hS1; clear hS1; try simp only [List.set_cons_zero, List.set_cons_succ, List.setIfInBounds_toArray, List.take_succ_cons, List.take_zero, List.drop_succ_cons, List.drop_zero, List.nil_append, List.cons_append, List.append_nil, List.drop_nil, List.take_nil, List.length_cons, List.length_nil, Nat.zero_add, Nat.add_zero, Nat.reduceAdd] at hS))
    have c := hS.cell 2 rfl
    exact bodyPost_ret (v := .tuple #[.agg #[.int .i64 0, .int .i64 0, .int .i64 0], .bool false]) (by simp [results, Try.results28, go_sem, c]) rfl ⟨by first | (rw [hg2.out]; done) | (rw [hg2.out]; rfl), hS.below⟩

theorem rtget_any (s : ByteArray) (w : World) (hs : s.size ≤ maxLen) :
    Calls Try.prog 28 #[.string s] w fun e w' => e = .returned (.tuple #[.agg #[.int .i64 (Rt.getB s.data.toList).1.seq, .int .i64 (Rt.getB s.data.toList).1.life, .int .i64 (Rt.getB s.data.toList).1.head], .bool (Rt.getB s.data.toList).2]) ∧ Below w.heap.size w w' := by
  by_cases h : s.data.toList.length = 64 ∧ s.data.toList.take 4 = [114, 111, 111, 116]
  · exact rtget_yes s w (by rw [ba_size]; exact h.1) h.2
  · have hg : Rt.getB s.data.toList = (Rt.none, false) := by
      rw [Rt.getB, Rt.isB, if_neg]
      rw [decide_eq_true_eq]
      intro k
      exact h ⟨k.1, k.2.1⟩
    rw [hg]
    exact rtget_no s w hs h
end Go.Proofs.Ytlhpibniecfofaa
end

section
/- Structs whose fields are integers, strings, bools: their cells. -/
set_option linter.unusedSimpArgs false
set_option linter.unusedVariables false
namespace Go.Ofp
open Go.RowKit Go.WideShapes

section
variable {H : Type} {enc : TypeId × Value → H} {P : Program} {w : World} {base : Nat} {spare : Nat → Bool} {held : Bool}

/-- A field of a struct, read. -/
theorem field_read {t : TypeId} {fs : Array Field} {fuel : Nat} {cs : List Value} {x : DataW H × List MemPlace} (ht : P.underlying t = some (.struct fs)) (h : DataW.trod enc P w base spare held fuel t cs = some x) :
    cs.length = P.cellsOf t ∧ ∀ (i : Nat) (f : Field), fs[i]? = some f → ∃ n y, DataW.trod enc P w base spare held n f.type ((cs.drop f.offset).take (P.cellsOf f.type)) = some y := by
  obtain ⟨xs, n, _, rfl, hl, hlen, hf⟩ := DataW.trod_struct ht h
  refine ⟨hl, fun i f hi => ?_⟩
  have hi' : i < xs.length := by
    have := (Array.getElem?_eq_some_iff.1 hi).1
    omega
  refine ⟨n, xs[i], ?_⟩
  rw [hf i f hi, List.getElem?_eq_getElem hi']

theorem field_int {f : TypeId} {k : IntKind} {o n : Nat} {cs : List Value} {y : DataW H × List MemPlace} (hf : P.underlying f = some (.int k)) (hc : P.cellsOf f = 1) (ho : o < cs.length)
    (h : DataW.trod enc P w base spare held n f ((cs.drop o).take (P.cellsOf f)) = some y) : ∃ z, cs[o]? = some (.int k z) ∧ (Lit.int k z).wf = true := by
  obtain ⟨z, hz, _, hw⟩ := DataW.trod_int hf h
  rw [hc, List.drop_eq_getElem_cons ho] at hz
  simp only [List.take_succ_cons, List.take_zero, List.cons.injEq, and_true] at hz
  exact ⟨z, by rw [List.getElem?_eq_getElem ho, hz], hw⟩
end
end Go.Ofp
end
