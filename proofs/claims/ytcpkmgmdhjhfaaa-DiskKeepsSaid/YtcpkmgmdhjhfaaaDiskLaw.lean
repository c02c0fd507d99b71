/- The law DiskKeeps: the walk of it. -/
import Derived.Test.YtcpkmgmdhjhfaaaDiskOpen
set_option linter.unusedSimpArgs false
set_option linter.unusedVariables false
namespace Go.Ofp
open Go.RowKit
theorem St.toEnd {w0 w : World} {F : List Nat} {A : List Ch} {c : Ch} (h : St w0 F (c :: A) w) : St w0 F (A ++ [c]) w := by
  refine h.pick (fun i => if i = A.length then 0 else i + 1) ?_ ?_
  · intro i d hd
    by_cases e : i = A.length
    · subst e
      simpa using hd
    · have hi : i < A.length := by
        have := (List.getElem?_eq_some_iff.1 hd).1
        simp at this
        omega
      rw [List.getElem?_append_left hi] at hd
      simpa [e] using hd
  · intro i j _ _ hij
    split <;> split <;> omega
namespace Dk
theorem waits_mem (l : List Ac) : ∀ x ∈ waits l, 0 ≤ x.place ∧ x.place < 8 ∧ x.b.length = 64 := by
  intro x hx
  unfold waits at hx
  obtain ⟨a, ha, h⟩ := List.mem_filterMap.1 hx
  split at h
  · rename_i h2; cases h; exact ⟨h2.1, h2.2, by simp⟩
  · cases h
theorem was_ok (l : List Ac) : ∀ ws : List (List UInt8), ws.length = 8 → (∀ b ∈ ws, b.length = 64) → (l.foldl was1 ws).length = 8 ∧ ∀ b ∈ l.foldl was1 ws, b.length = 64 := by
  induction l with
  | nil => intro ws h1 h2; exact ⟨h1, h2⟩
  | cons a l ih =>
    intro ws h1 h2
    rw [List.foldl_cons]
    unfold was1
    split
    · refine ih _ (by rw [List.length_set]; exact h1) fun b hb => ?_
      rcases List.mem_or_eq_of_mem_set hb with hb | rfl
      · exact h2 b hb
      · simp
    · exact ih _ h1 h2
theorem dk_ok (ws : List (List UInt8)) (h1 : ws.length = 8) (h2 : ∀ b ∈ ws, b.length = 64) (l : List Ac) : (dk (ws.map clean) (waits l)).Ok := by
  refine ⟨by simp [dk, h1], ?_, ?_⟩
  · intro s hs
    obtain ⟨b, hb, rfl⟩ := List.mem_map.1 hs
    exact h2 b hb
  · intro x hx
    obtain ⟨h3, h4, h5⟩ := waits_mem l x hx
    exact ⟨h3, by simp [dk, h1]; omega, h5⟩
theorem waits_len (l : List Ac) (n : Nat) (h : l.length ≤ n) : (waits l).length ≤ n := Nat.le_trans (List.length_filterMap_le _ _) h
end Dk
theorem St.old_off {w0 w : World} {A R : List Ch} (h : St w0 [] (A ++ R) w) {b : Nat} (hb : b < w0.heap.size) : b ∉ feet A := by
  intro hA
  obtain ⟨i, c, hc, hg⟩ := mem_feet.1 hA
  rcases (h.own i c (by rw [List.getElem?_append_left (List.getElem?_eq_some_iff.1 hc).1]; exact hc)).2 b hg with h | h
  · cases h
  · omega
end Go.Ofp
namespace Go.Proofs.Ytcpkmgmdhjhfaaa
open Go.RowKit Go.Ofp
set_option linter.unusedVariables false
set_option maxRecDepth 100000
set_option maxHeartbeats 4000000

def wsC (ws : List (List UInt8)) : Array Value := (ws.map fun b => Value.string (str b)).toArray
theorem wsC_size (ws : List (List UInt8)) : (wsC ws).size = ws.length := by simp [wsC]
theorem wsC_set (ws : List (List UInt8)) (i : Nat) (b : List UInt8) : (wsC ws).setIfInBounds i (.string (str b)) = wsC (ws.set i b) := by simp [wsC, List.map_set]
theorem wsC_get (ws : List (List UInt8)) (i : Nat) (hi : i < ws.length) : (wsC ws)[i]? = some (.string (str ws[i])) := by simp [wsC, hi]
theorem build_was (w : World) : (Instr.build 81 #[]).run Try.prog w = .ok (.agg (wsC (List.replicate 8 []))) w := by kernel_rfl
theorem elem_was : Elem Try.prog 81 (.agg (wsC (List.replicate 8 []))) 8 128 := Elem.mk (by kernel_rfl) (by rfl) (by decide)

theorem keeps_main (a1 a2 a3 : Option Addr) (n1 c1 n2 c2 n3 c3 : Nat) (l1 l2 : List Ac) (keep : List Int) (w : World) (h1 : Acs w a1 n1 c1 l1) (h2 : Acs w a2 n2 c2 l2) (h3 : Sl w a3 (keep.map vi)) (hk : keep.length = n3) (hkm : n3 ≤ maxLen) (hkb : ∀ z ∈ keep, z ≤ 9223372036854775807) (hn1 : n1 ≤ 40) (hn2 : n2 ≤ 40) :
    Calls Try.prog 11 #[.slice a1 n1 c1, .slice a2 n2 c2, .slice a3 n3 c3] w fun e w' => e = .returned (.bool true) ∧ Below w.heap.size w w' := by
  have cN : Calls Try.prog 54 #[.int .i64 8] w fun e w' => ∃ bd sv wv, e = .returned (.pointer (some ⟨bd, 0, none⟩)) ∧ St w [] (dks bd sv wv (Dk.new 8)) w' := new_any 8 w (by omega) (by omega)
  have cZ : ∀ W : World, Calls Try.prog 56 #[.int .u8 0, .int .i64 0] W fun e w' => e = .returned (.string (str (List.replicate 64 0))) ∧ Below W.heap.size W w' := fun W => sector_any 0 0 W
  have cT : ∀ (c : UInt8) (W : World), Calls Try.prog 56 #[.int .u8 c.toNat, .int .i64 0] W fun e w' => e = .returned (.string (str (List.replicate 64 c))) ∧ Below W.heap.size W w' := fun c W => sector_any c 0 W
  have ez := elem_was
  obtain ⟨z64, hz64⟩ : ∃ z : List UInt8, List.replicate 64 0 = z := ⟨_, rfl⟩
  rw [hz64] at cZ
  obtain ⟨S0, hS0⟩ : ∃ S, (Dk.new 8).sec = S := ⟨_, rfl⟩
  have hnew : Dk.new 8 = Dk.dk S0 [] := by rw [← hS0]; rfl
  have hS0l : S0.length = 8 := by rw [← hS0]; simp [Dk.new]
  have hS0c : S0 = (List.replicate 8 z64).map Dk.clean := by rw [← hS0, ← hz64]; simp [Dk.new, Dk.clean]
  obtain ⟨ws0, hw0⟩ : ∃ x, List.replicate 8 z64 = x := ⟨_, rfl⟩
  rw [hw0] at hS0c
  have hw0l : ws0.length = 8 := by rw [← hw0]; simp
  rw [hnew] at cN
  replace hw0 := Lib.hid hw0
  replace hw0l := Lib.hid hw0l
  clear hS0 hnew
  replace cN := Lib.hid cN
  replace cZ := Lib.hid cZ
  replace cT := Lib.hid cT
  replace h1 := Lib.hid h1
  replace h2 := Lib.hid h2
  replace h3 := Lib.hid h3
  replace hk := Lib.hid hk
  replace hkb := Lib.hid hkb
  replace hz64 := Lib.hid hz64
  replace hS0l := Lib.hid hS0l
  replace hS0c := Lib.hid hS0c
  go_enter Try.func11, Try.ntmps11
  go_wp2_with (first
    | (go_at_call 54; (with_reducible refine cN.out.mono ?_); rintro _ w2 ⟨bd, sv, wv, rfl, hS⟩)
    | (with_reducible refine wpList_box_st hS rfl rfl rfl ?_; intro g1 w1 hS1; clear hS; replace hS := hS1; clear hS1) | (with_reducible refine wpList_box1_st hS rfl rfl rfl ?_; intro g1 w1 hS1; clear hS; replace hS := hS1; clear hS1) | (with_reducible refine wpList_alloc_st hS rfl rfl (by assumption) ?_; intro g1 w1 hS1; clear hS; replace hS := hS1; clear hS1) | (with_reducible refine wpList_alloc1_st hS rfl rfl (by assumption) rfl ?_; intro g1 w1 hS1; clear hS; replace hS := hS1; clear hS1) | ((with_reducible refine wpList_load_st 0 hS rfl rfl rfl rfl ?_ rfl ?_); focus (simp [scalarB, go_sem]; done)) | ((with_reducible refine wpList_loadall_st 0 hS rfl rfl rfl rfl ?_ (by kernel_rfl) ?_); focus (simp [rowB, go_sem]; done)) | ((with_reducible refine wpList_store_st 0 hS rfl rfl rfl rfl (by kernel_rfl) rfl rfl ?_); intro w1 hS1; clear hS; replace hS := hS1; clear hS1; try simp only [List.set_cons_zero, List.set_cons_succ, List.setIfInBounds_toArray, List.take_succ_cons, List.take_zero, List.drop_succ_cons, List.drop_zero, List.nil_append, List.cons_append, List.append_nil, List.drop_nil, List.take_nil, List.length_cons, List.length_nil, Nat.zero_add, Nat.add_zero, Nat.reduceAdd] at hS) | ((with_reducible refine wpList_storerow_st 0 hS rfl rfl rfl rfl (by kernel_rfl) rfl rfl rfl rfl ?_); intro w1 hS1; clear hS; replace hS := hS1; clear hS1; try simp only [List.set_cons_zero, List.set_cons_succ, List.setIfInBounds_toArray, List.take_succ_cons, List.take_zero, List.drop_succ_cons, List.drop_zero, List.nil_append, List.cons_append, List.append_nil, List.drop_nil, List.take_nil, List.length_cons, List.length_nil, Nat.zero_add, Nat.add_zero, Nat.reduceAdd] at hS))
  rename_i gw _ _
  clear ez cN
  go_loopg [9] 8 (fun gk vx wr => ∃ (i : Nat) (ws : List (List UInt8)), i + gk = 8 ∧ vx = .int .i64 i ∧ Hid (ws.length = 8 ∧ ∀ k, k < i → ws[k]? = some z64) ∧ St w [] (Ch.blk g1 81 (wsC ws) :: dks bd sv wv (Dk.dk S0 [])) wr)
  case atStart => exact ⟨0, List.replicate 8 [], rfl, rfl, Lib.hid ⟨rfl, by omega⟩, hS⟩
  case round =>
    clear hS
    obtain ⟨i, ws, hi, rfl, hws, hS⟩ := hrel
    by_cases hlt : i < 8
    · have hbl : Nat.ble (i + 1) (wsC ws).size = true := by rw [wsC_size, hws.out.1]; exact Nat.ble_eq_true_of_le (by omega)
      replace hbl := Lib.hid hbl
      go_wp2_with (first
        | (go_at_call 56; (with_reducible refine (cZ.out _).mono ?_); rintro _ w5 ⟨rfl, hb5⟩; have hS1 := hS.keepB hb5; clear hb5 hS; have hS := hS1; clear hS1)
        | ((with_reducible refine wpList_store_st 0 hS rfl rfl rfl rfl (by kernel_rfl) rfl hbl.out ?_); intro w6 hS1; clear hS; simp only [List.set_cons_zero, wsC_set] at hS1; have hS := hS1; clear hS1))
      go_roundg (8 - (i + 1))
      case measure => omega
      case rel => exact ⟨i + 1, ws.set i z64, by omega, by go_num, Lib.hid ⟨by rw [List.length_set]; exact hws.out.1, fun k hk => by
        rw [List.getElem?_set]
        split
        · rename_i e; subst e; rw [if_pos (by rw [hws.out.1]; exact hlt)]
        · exact hws.out.2 k (by omega)⟩, hS⟩
    · have hwr : ws = ws0 := by
        rw [← hw0.out]
        apply List.ext_getElem (by rw [hws.out.1, List.length_replicate])
        intro k h4 h5
        have := hws.out.2 k (by rw [hws.out.1] at h4; omega)
        rw [List.getElem?_eq_getElem h4] at this
        rw [List.getElem_replicate]
        exact Option.some.inj this
      rw [hwr] at hS
      clear hws hwr
      have hS1 := hS.toEnd
      clear hS
      have hS := hS1
      clear hS1
      go_wp2_with fail
      go_loopg [10] n1 (fun gk vx wr => ∃ (j : Nat) (wv' : Value) (W0 : List Wt) (ws : List (List UInt8)), j + gk = n1 ∧ vx = .int .i64 j ∧ Hid (W0 = Dk.waits (l1.take j) ∧ ws = (l1.take j).foldl Dk.was1 ws0) ∧ St w [] (dks bd sv wv' (Dk.dk S0 W0) ++ [Ch.blk g1 81 (wsC ws)]) wr)
      case atStart => exact ⟨0, wv, [], ws0, Nat.zero_add _, rfl, Lib.hid ⟨rfl, rfl⟩, hS⟩
      case round =>
        clear hS
        obtain ⟨j, wv', W0, ws, hj, rfl, hW, hS⟩ := hrel
        by_cases hlt1 : j < n1
        · have hjl : j < l1.length := by rw [h1.out.len]; exact hlt1
          obtain ⟨b, off, rfl, hc⟩ := h1.out.get j hjl
          have hcp : w.cell? ⟨b, off + j * 5 + 1, none⟩ = some (.int .i64 l1[j].place) := by rw [Nat.add_assoc]; exact hc 1 _ rfl
          have hcc : w.cell? ⟨b, off + j * 5 + 3, none⟩ = some (.int .u8 l1[j].c.toNat) := by rw [Nat.add_assoc]; exact hc 3 _ rfl
          clear hc
          have hWn := Dk.waits_snoc (l1.take j) l1[j]
          rw [← List.take_succ_eq_append_getElem hjl, ← hW.out.1] at hWn
          have hwn : (l1.take (j + 1)).foldl Dk.was1 ws0 = Dk.was1 ws l1[j] := by rw [List.take_succ_eq_append_getElem hjl, List.foldl_append, ← hW.out.2]; rfl
          unfold Dk.was1 at hwn
          have hWl : W0.length ≤ 100000 := by
            rw [hW.out.1]
            refine Nat.le_trans (List.length_filterMap_le _ _) ?_
            rw [List.length_take]
            omega
          have hwsl : ws.length = 8 := by
            rw [hW.out.2]
            have : ∀ (l : List Ac) (x : List (List UInt8)), (l.foldl Dk.was1 x).length = x.length := by
              intro l
              induction l with
              | nil => intro x; rfl
              | cons a l ih => intro x; rw [List.foldl_cons, ih]; unfold Dk.was1; split <;> simp
            rw [this, hw0l.out]
          have cW := fun (wvx : Value) (W : World) (h : St W (feet (dks bd sv wvx (Dk.dk S0 W0))) (dks bd sv wvx (Dk.dk S0 W0)) W) => write_any bd sv wvx (Dk.dk S0 W0) l1[j].place (str (List.replicate 64 l1[j].c)) W h (by rw [str_size]; simp [maxLen]) hWl (by simp [Dk.dk])
          rw [str_data, Dk.dk_write hS0l.out] at cW
          have hcT := cT.out l1[j].c
          generalize l1[j].place = p at *
          generalize l1[j].c = c at *
          generalize List.replicate 64 c = cb at *
          replace hcT := Lib.hid hcT
          have k0 := hS.empty.kold0 hcp
          have k1 := hS.empty.kold0 hcc
          clear hW hWl cZ h2 h3 hk hkb hw0 hz64
          by_cases hin : 0 ≤ p ∧ p < 8
          · rw [if_pos hin] at cW hWn hwn
            obtain ⟨q, rfl⟩ := Int.eq_ofNat_of_zero_le hin.1
            obtain ⟨hp1, hp2⟩ := hin
            rw [Int.toNat_natCast] at hwn
            have hq8 : q < 8 := by omega
            replace cW := Lib.hid cW
            replace hWn := Lib.hid hWn
            replace hwn := Lib.hid hwn
            go_wp2_with fail
            refine mixs_beginE (by kernel_rfl) hS ?_
            clear hS
            intro w2 hS hC
            refine mixs_take 0 (v := ?_) rfl (by kernel_rfl) (fun _ _ _ h => h) (by kernel_rfl) (by assumption) (fun s => ?hy) ?_; case hy => (go_simp <;> with_reducible rfl)
            try simp only [List.getElem_toArray, List.getElem_cons_succ, List.getElem_cons_zero, Act.put, List.setIfInBounds_toArray, List.set_cons_zero, List.set_cons_succ]
            refine mixs_take 1 (v := ?_) rfl (by kernel_rfl) (fun _ _ _ h => h) (by kernel_rfl) (by assumption) (fun s => ?hy) ?_; case hy => (go_simp <;> with_reducible rfl)
            try simp only [List.getElem_toArray, List.getElem_cons_succ, List.getElem_cons_zero, Act.put, List.setIfInBounds_toArray, List.set_cons_zero, List.set_cons_succ]
            refine mixs_take 2 (v := ?_) rfl (by kernel_rfl) (fun _ _ _ h => h) (by kernel_rfl) (by assumption) (fun s => ?hy) ?_; case hy => (go_simp <;> with_reducible rfl)
            try simp only [List.getElem_toArray, List.getElem_cons_succ, List.getElem_cons_zero, Act.put, List.setIfInBounds_toArray, List.set_cons_zero, List.set_cons_succ]
            refine mixs_take 3 (v := ?_) rfl (by kernel_rfl) (fun _ _ _ h => h) (by kernel_rfl) (by assumption) (fun s => ?hy) ?_; case hy => (go_simp <;> with_reducible rfl)
            try simp only [List.getElem_toArray, List.getElem_cons_succ, List.getElem_cons_zero, Act.put, List.setIfInBounds_toArray, List.set_cons_zero, List.set_cons_succ]
            refine mixs_take 4 (v := ?_) rfl (by kernel_rfl) (fun _ _ _ h => h) (by kernel_rfl) (by assumption) (fun s => ?hy) ?_; case hy => (go_simp <;> with_reducible rfl)
            try simp only [List.getElem_toArray, List.getElem_cons_succ, List.getElem_cons_zero, Act.put, List.setIfInBounds_toArray, List.set_cons_zero, List.set_cons_succ]
            refine mixs_take 5 (v := ?_) rfl (by kernel_rfl) (fun _ _ _ h => h) (by kernel_rfl) (by assumption) (fun s => ?hy) ?_; case hy => (go_simp <;> with_reducible rfl)
            try simp only [List.getElem_toArray, List.getElem_cons_succ, List.getElem_cons_zero, Act.put, List.setIfInBounds_toArray, List.set_cons_zero, List.set_cons_succ]
            refine mixs_take 6 (v := ?_) rfl (by kernel_rfl) (fun _ _ _ h => h) (by kernel_rfl) (by assumption) (fun s => ?hy) ?_; case hy => (go_simp <;> with_reducible rfl)
            try simp only [List.getElem_toArray, List.getElem_cons_succ, List.getElem_cons_zero, Act.put, List.setIfInBounds_toArray, List.set_cons_zero, List.set_cons_succ]
            refine mixs_take 7 (v := ?_) rfl (by kernel_rfl) (fun _ _ _ h => h) (by kernel_rfl) (by assumption) (fun s => ?hy) ?_; case hy => (go_simp <;> with_reducible rfl)
            try simp only [List.getElem_toArray, List.getElem_cons_succ, List.getElem_cons_zero, Act.put, List.setIfInBounds_toArray, List.set_cons_zero, List.set_cons_succ]
            refine mixs_take 8 (v := ?_) rfl (by kernel_rfl) (fun _ _ _ h => h) (by kernel_rfl) (by assumption) (fun s => ?hy) ?_; case hy => (go_simp <;> with_reducible rfl)
            try simp only [List.getElem_toArray, List.getElem_cons_succ, List.getElem_cons_zero, Act.put, List.setIfInBounds_toArray, List.set_cons_zero, List.set_cons_succ]
            refine mixs_take 9 (v := ?_) rfl (by kernel_rfl) (fun _ _ _ h => h) (by kernel_rfl) (by assumption) (fun s => ?hy) ?_; case hy => (go_simp <;> with_reducible rfl)
            try simp only [List.getElem_toArray, List.getElem_cons_succ, List.getElem_cons_zero, Act.put, List.setIfInBounds_toArray, List.set_cons_zero, List.set_cons_succ]
            refine mixs_take 10 (v := ?_) rfl (by kernel_rfl) (fun _ _ _ h => h) (by kernel_rfl) (by assumption) (fun s => ?hy) ?_; case hy => (go_simp <;> with_reducible rfl)
            try simp only [List.getElem_toArray, List.getElem_cons_succ, List.getElem_cons_zero, Act.put, List.setIfInBounds_toArray, List.set_cons_zero, List.set_cons_succ]
            refine mixs_take 11 (v := ?_) rfl (by kernel_rfl) (fun _ _ _ h => h) (by kernel_rfl) (by assumption) (fun s => ?hy) ?_; case hy => (go_simp <;> with_reducible rfl)
            try simp only [List.getElem_toArray, List.getElem_cons_succ, List.getElem_cons_zero, Act.put, List.setIfInBounds_toArray, List.set_cons_zero, List.set_cons_succ]
            refine mixs_take 12 (v := ?_) rfl (by kernel_rfl) (fun _ _ _ h => h) (by kernel_rfl) (by assumption) (fun s => ?hy) ?_; case hy => (go_simp <;> with_reducible rfl)
            try simp only [List.getElem_toArray, List.getElem_cons_succ, List.getElem_cons_zero, Act.put, List.setIfInBounds_toArray, List.set_cons_zero, List.set_cons_succ]
            refine mixs_take 13 (v := ?_) rfl (by kernel_rfl) (fun _ _ _ h => h) (by kernel_rfl) (by assumption) (fun s => ?hy) ?_; case hy => (go_simp <;> with_reducible rfl)
            try simp only [List.getElem_toArray, List.getElem_cons_succ, List.getElem_cons_zero, Act.put, List.setIfInBounds_toArray, List.set_cons_zero, List.set_cons_succ]
            refine mixs_take 14 (v := ?_) rfl (by kernel_rfl) (fun _ _ _ h => h) (by kernel_rfl) (by assumption) (fun s => ?hy) ?_; case hy => (go_simp <;> with_reducible rfl)
            try simp only [List.getElem_toArray, List.getElem_cons_succ, List.getElem_cons_zero, Act.put, List.setIfInBounds_toArray, List.set_cons_zero, List.set_cons_succ]
            refine mixs_take 15 (v := ?_) rfl (by kernel_rfl) (fun _ _ _ h => h) (by kernel_rfl) (by assumption) (fun s => ?hy) ?_; case hy => (go_simp <;> with_reducible rfl)
            try simp only [List.getElem_toArray, List.getElem_cons_succ, List.getElem_cons_zero, Act.put, List.setIfInBounds_toArray, List.set_cons_zero, List.set_cons_succ]
            refine mixs_take 16 (v := ?_) rfl (by kernel_rfl) (fun _ _ _ h => h) (by kernel_rfl) (by assumption) (fun s => ?hy) ?_; case hy => (go_simp <;> with_reducible rfl)
            try simp only [List.getElem_toArray, List.getElem_cons_succ, List.getElem_cons_zero, Act.put, List.setIfInBounds_toArray, List.set_cons_zero, List.set_cons_succ]
            refine mixs_take 17 (v := ?_) rfl (by kernel_rfl) (fun _ _ _ h => h) (by kernel_rfl) (by assumption) (fun s => ?hy) ?_; case hy => (go_simp <;> with_reducible rfl)
            try simp only [List.getElem_toArray, List.getElem_cons_succ, List.getElem_cons_zero, Act.put, List.setIfInBounds_toArray, List.set_cons_zero, List.set_cons_succ]
            refine mixs_take 18 (v := ?_) rfl (by kernel_rfl) (fun _ _ _ h => h) (by kernel_rfl) (by assumption) (fun s => ?hy) ?_; case hy => (go_simp <;> with_reducible rfl)
            try simp only [List.getElem_toArray, List.getElem_cons_succ, List.getElem_cons_zero, Act.put, List.setIfInBounds_toArray, List.set_cons_zero, List.set_cons_succ]
            refine mixs_take 19 (v := ?_) rfl (by kernel_rfl) (fun _ _ _ h => h) (by kernel_rfl) (by assumption) (fun s => ?hy) ?_; case hy => (go_simp <;> with_reducible rfl)
            try simp only [List.getElem_toArray, List.getElem_cons_succ, List.getElem_cons_zero, Act.put, List.setIfInBounds_toArray, List.set_cons_zero, List.set_cons_succ]
            refine mixs_take 20 (v := ?_) rfl (by kernel_rfl) (fun _ _ _ h => h) (by kernel_rfl) (by assumption) (fun s => ?hy) ?_; case hy => (go_simp <;> with_reducible rfl)
            try simp only [List.getElem_toArray, List.getElem_cons_succ, List.getElem_cons_zero, Act.put, List.setIfInBounds_toArray, List.set_cons_zero, List.set_cons_succ]
            refine mixs_take 21 (v := ?_) rfl (by kernel_rfl) (fun _ _ _ h => h) (by kernel_rfl) (by assumption) (fun s => ?hy) ?_; case hy => (go_simp <;> with_reducible rfl)
            try simp only [List.getElem_toArray, List.getElem_cons_succ, List.getElem_cons_zero, Act.put, List.setIfInBounds_toArray, List.set_cons_zero, List.set_cons_succ]
            refine mixs_take 22 (v := ?_) rfl (by kernel_rfl) (fun _ _ _ h => h) (by kernel_rfl) (by assumption) (fun s => ?hy) ?_; case hy => (go_simp <;> with_reducible rfl)
            try simp only [List.getElem_toArray, List.getElem_cons_succ, List.getElem_cons_zero, Act.put, List.setIfInBounds_toArray, List.set_cons_zero, List.set_cons_succ]
            refine mixs_take 23 (v := ?_) rfl (by kernel_rfl) (fun _ _ _ h => h) (by kernel_rfl) (by assumption) (fun s => ?hy) ?_; case hy => (go_simp <;> with_reducible rfl)
            try simp only [List.getElem_toArray, List.getElem_cons_succ, List.getElem_cons_zero, Act.put, List.setIfInBounds_toArray, List.set_cons_zero, List.set_cons_succ]
            refine mixs_take 24 (v := ?_) rfl (by kernel_rfl) (fun _ _ _ h => h) (by kernel_rfl) (by assumption) (fun s => ?hy) ?_; case hy => (go_simp <;> with_reducible rfl)
            try simp only [List.getElem_toArray, List.getElem_cons_succ, List.getElem_cons_zero, Act.put, List.setIfInBounds_toArray, List.set_cons_zero, List.set_cons_succ]
            refine mixs_take 25 (v := ?_) rfl (by kernel_rfl) (fun _ _ _ h => h) (by kernel_rfl) (by assumption) (fun s => ?hy) ?_; case hy => (go_simp <;> with_reducible rfl)
            try simp only [List.getElem_toArray, List.getElem_cons_succ, List.getElem_cons_zero, Act.put, List.setIfInBounds_toArray, List.set_cons_zero, List.set_cons_succ]
            refine mixs_one 26 (by kernel_rfl) rfl (fun K hK => ?_)
            go_simp
            ( first | (go_at_call 56; (with_reducible refine (hcT.out _).mono ?_); rintro _ w5 ⟨rfl, hb5⟩; have hS1 := hS.keepB hb5; clear hb5 hS; have hS := hS1; clear hS1) | (go_at_call 57; (with_reducible refine (cW.out _ _ (hS.pre _ [_] rfl)).mono ?_); rintro _ w5 ⟨rfl, wv5, hk5⟩; have hS1 := hS.call _ [_] rfl hk5; clear hS hk5; have hS := hS1; clear hS1) )
            try clear hC
            refine hK.out _ _ _ (fun _ h => h) (by first | exact hS | exact hS.drop | exact hS.drop.drop | exact hS.drop.drop.drop | exact hS.drop.drop.drop.drop | exact hS.empty) (fun hC => ?_)
            clear hK K
            try simp only [List.getElem_toArray, List.getElem_cons_succ, List.getElem_cons_zero, Act.put, List.setIfInBounds_toArray, List.set_cons_zero, List.set_cons_succ]
            refine mixs_one 27 (by kernel_rfl) rfl (fun K hK => ?_)
            go_simp
            ( first | (go_at_call 56; (with_reducible refine (hcT.out _).mono ?_); rintro _ w5 ⟨rfl, hb5⟩; have hS1 := hS.keepB hb5; clear hb5 hS; have hS := hS1; clear hS1) | (go_at_call 57; (with_reducible refine (cW.out _ _ (hS.pre _ [_] rfl)).mono ?_); rintro _ w5 ⟨rfl, wv5, hk5⟩; have hS1 := hS.call _ [_] rfl hk5; clear hS hk5; have hS := hS1; clear hS1) )
            try clear hC
            refine hK.out _ _ _ (fun _ h => h) (by first | exact hS | exact hS.drop | exact hS.drop.drop | exact hS.drop.drop.drop | exact hS.drop.drop.drop.drop | exact hS.empty) (fun hC => ?_)
            clear hK K
            try simp only [List.getElem_toArray, List.getElem_cons_succ, List.getElem_cons_zero, Act.put, List.setIfInBounds_toArray, List.set_cons_zero, List.set_cons_succ]
            refine mixs_take 28 (v := ?_) rfl (by kernel_rfl) (fun _ _ _ h => h) (by kernel_rfl) (by assumption) (fun s => ?hy) ?_; case hy => (go_simp <;> with_reducible rfl)
            try simp only [List.getElem_toArray, List.getElem_cons_succ, List.getElem_cons_zero, Act.put, List.setIfInBounds_toArray, List.set_cons_zero, List.set_cons_succ]
            refine mixs_take 29 (v := ?_) rfl (by kernel_rfl) (fun _ _ _ h => h) (by kernel_rfl) (by assumption) (fun s => ?hy) ?_; case hy => (go_simp <;> with_reducible rfl)
            try simp only [List.getElem_toArray, List.getElem_cons_succ, List.getElem_cons_zero, Act.put, List.setIfInBounds_toArray, List.set_cons_zero, List.set_cons_succ]
            refine wpAnyH_done (by kernel_rfl) ?_ _
            try clear hC
            have hbl : Nat.ble (q + 1) (wsC ws).size = true := by rw [wsC_size, hwsl]; exact Nat.ble_eq_true_of_le (by omega)
            replace hbl := Lib.hid hbl
            go_wp2_with fail
            refine mixs_beginE (by kernel_rfl) hS ?_
            clear hS
            intro w8 hS hC
            refine mixs_take 0 (v := ?_) rfl (by kernel_rfl) (fun _ _ _ h => h) (by kernel_rfl) (by assumption) (fun s => ?hy) ?_; case hy => (go_simp <;> with_reducible rfl)
            try simp only [List.getElem_toArray, List.getElem_cons_succ, List.getElem_cons_zero, Act.put, List.setIfInBounds_toArray, List.set_cons_zero, List.set_cons_succ]
            refine mixs_take 1 (v := ?_) rfl (by kernel_rfl) (fun _ _ _ h => h) (by kernel_rfl) (by assumption) (fun s => ?hy) ?_; case hy => (go_simp <;> with_reducible rfl)
            try simp only [List.getElem_toArray, List.getElem_cons_succ, List.getElem_cons_zero, Act.put, List.setIfInBounds_toArray, List.set_cons_zero, List.set_cons_succ]
            refine mixs_take 2 (v := ?_) rfl (by kernel_rfl) (fun _ _ _ h => h) (by kernel_rfl) (by assumption) (fun s => ?hy) ?_; case hy => (go_simp <;> with_reducible rfl)
            try simp only [List.getElem_toArray, List.getElem_cons_succ, List.getElem_cons_zero, Act.put, List.setIfInBounds_toArray, List.set_cons_zero, List.set_cons_succ]
            refine mixs_take 3 (v := ?_) rfl (by kernel_rfl) (fun _ _ _ h => h) (by kernel_rfl) (by assumption) (fun s => ?hy) ?_; case hy => (go_simp <;> with_reducible rfl)
            try simp only [List.getElem_toArray, List.getElem_cons_succ, List.getElem_cons_zero, Act.put, List.setIfInBounds_toArray, List.set_cons_zero, List.set_cons_succ]
            refine mixs_take 4 (v := ?_) rfl (by kernel_rfl) (fun _ _ _ h => h) (by kernel_rfl) (by assumption) (fun s => ?hy) ?_; case hy => (go_simp <;> with_reducible rfl)
            try simp only [List.getElem_toArray, List.getElem_cons_succ, List.getElem_cons_zero, Act.put, List.setIfInBounds_toArray, List.set_cons_zero, List.set_cons_succ]
            refine mixs_take 5 (v := ?_) rfl (by kernel_rfl) (fun _ _ _ h => h) (by kernel_rfl) (by assumption) (fun s => ?hy) ?_; case hy => (go_simp <;> with_reducible rfl)
            try simp only [List.getElem_toArray, List.getElem_cons_succ, List.getElem_cons_zero, Act.put, List.setIfInBounds_toArray, List.set_cons_zero, List.set_cons_succ]
            refine mixs_take 6 (v := ?_) rfl (by kernel_rfl) (fun _ _ _ h => h) (by kernel_rfl) (by assumption) (fun s => ?hy) ?_; case hy => (go_simp <;> with_reducible rfl)
            try simp only [List.getElem_toArray, List.getElem_cons_succ, List.getElem_cons_zero, Act.put, List.setIfInBounds_toArray, List.set_cons_zero, List.set_cons_succ]
            refine mixs_take 7 (v := ?_) rfl (by kernel_rfl) (fun _ _ _ h => h) (by kernel_rfl) (by assumption) (fun s => ?hy) ?_; case hy => (go_simp <;> with_reducible rfl)
            try simp only [List.getElem_toArray, List.getElem_cons_succ, List.getElem_cons_zero, Act.put, List.setIfInBounds_toArray, List.set_cons_zero, List.set_cons_succ]
            refine mixs_take 8 (v := ?_) rfl (by kernel_rfl) (fun _ _ _ h => h) (by kernel_rfl) (by assumption) (fun s => ?hy) ?_; case hy => (go_simp <;> with_reducible rfl)
            try simp only [List.getElem_toArray, List.getElem_cons_succ, List.getElem_cons_zero, Act.put, List.setIfInBounds_toArray, List.set_cons_zero, List.set_cons_succ]
            refine mixs_take 9 (v := ?_) rfl (by kernel_rfl) (fun _ _ _ h => h) (by kernel_rfl) (by assumption) (fun s => ?hy) ?_; case hy => (go_simp <;> with_reducible rfl)
            try simp only [List.getElem_toArray, List.getElem_cons_succ, List.getElem_cons_zero, Act.put, List.setIfInBounds_toArray, List.set_cons_zero, List.set_cons_succ]
            refine mixs_one 10 (by kernel_rfl) rfl (fun K hK => ?_)
            go_simp
            (go_at_call 56; (with_reducible refine (hcT.out _).mono ?_); rintro _ w5 ⟨rfl, hb5⟩; have hS1 := hS.keepB hb5; clear hb5 hS; have hS := hS1; clear hS1)
            try clear hC
            refine hK.out _ _ _ (fun _ h => h) (by first | exact hS | exact hS.drop | exact hS.drop.drop | exact hS.drop.drop.drop | exact hS.drop.drop.drop.drop | exact hS.empty) (fun hC => ?_)
            clear hK K
            try simp only [List.getElem_toArray, List.getElem_cons_succ, List.getElem_cons_zero, Act.put, List.setIfInBounds_toArray, List.set_cons_zero, List.set_cons_succ]
            refine mixs_take 11 (v := ?_) rfl (by kernel_rfl) (fun _ _ _ h => h) (by kernel_rfl) (by assumption) (fun s => ?hy) ?_; case hy => (go_simp <;> with_reducible rfl)
            try simp only [List.getElem_toArray, List.getElem_cons_succ, List.getElem_cons_zero, Act.put, List.setIfInBounds_toArray, List.set_cons_zero, List.set_cons_succ]
            refine mixs_one 12 (by kernel_rfl) rfl (fun K hK => ?_)
            (refine op_store_st (by kernel_rfl) 3 hS rfl rfl rfl (by kernel_rfl) rfl hbl.out ?_; intro w6 hS1; rw [wsC_set] at hS1; clear hS; have hS : St w [] (dks bd sv wv5 (Dk.dk S0 (W0 ++ [⟨q, cb⟩])) ++ [Ch.blk g1 81 (wsC (ws.set q cb))]) w6 := hS1; clear hS1)
            try clear hC
            refine hK.out _ _ _ (fun _ h => h) (by first | exact hS | exact hS.drop | exact hS.drop.drop | exact hS.drop.drop.drop | exact hS.drop.drop.drop.drop | exact hS.empty) (fun hC => ?_)
            clear hK K
            try simp only [List.getElem_toArray, List.getElem_cons_succ, List.getElem_cons_zero, Act.put, List.setIfInBounds_toArray, List.set_cons_zero, List.set_cons_succ]
            refine wpAnyH_done (by kernel_rfl) ?_ _
            try clear hC
            go_wp2_with fail
            go_roundg (n1 - (j + 1))
            case measure => omega
            case rel => exact ⟨j + 1, wv5, _, _, by omega, by go_num, Lib.hid ⟨hWn.out.symm, hwn.out.symm⟩, hS⟩
          · rw [if_neg hin, List.append_nil] at hWn
            rw [if_neg hin] at hwn
            clear cW
            replace hWn := Lib.hid hWn
            replace hwn := Lib.hid hwn
            by_cases hp0 : p < 0
            · have dp : decide (0 ≤ p) = false := decide_eq_false (by omega)
              clear hin
              go_wp2_with fail
              refine mixs_beginE (by kernel_rfl) hS ?_
              clear hS
              intro w2 hS hC
              refine mixs_take 0 (v := ?_) rfl (by kernel_rfl) (fun _ _ _ h => h) (by kernel_rfl) (by assumption) (fun s => ?hy) ?_; case hy => (go_simp <;> with_reducible rfl)
              try simp only [List.getElem_toArray, List.getElem_cons_succ, List.getElem_cons_zero, Act.put, List.setIfInBounds_toArray, List.set_cons_zero, List.set_cons_succ]
              refine mixs_take 1 (v := ?_) rfl (by kernel_rfl) (fun _ _ _ h => h) (by kernel_rfl) (by assumption) (fun s => ?hy) ?_; case hy => (go_simp <;> with_reducible rfl)
              try simp only [List.getElem_toArray, List.getElem_cons_succ, List.getElem_cons_zero, Act.put, List.setIfInBounds_toArray, List.set_cons_zero, List.set_cons_succ]
              refine mixs_take 2 (v := ?_) rfl (by kernel_rfl) (fun _ _ _ h => h) (by kernel_rfl) (by assumption) (fun s => ?hy) ?_; case hy => (go_simp <;> with_reducible rfl)
              try simp only [List.getElem_toArray, List.getElem_cons_succ, List.getElem_cons_zero, Act.put, List.setIfInBounds_toArray, List.set_cons_zero, List.set_cons_succ]
              refine mixs_take 3 (v := ?_) rfl (by kernel_rfl) (fun _ _ _ h => h) (by kernel_rfl) (by assumption) (fun s => ?hy) ?_; case hy => (go_simp <;> with_reducible rfl)
              try simp only [List.getElem_toArray, List.getElem_cons_succ, List.getElem_cons_zero, Act.put, List.setIfInBounds_toArray, List.set_cons_zero, List.set_cons_succ]
              refine mixs_take 4 (v := ?_) rfl (by kernel_rfl) (fun _ _ _ h => h) (by kernel_rfl) (by assumption) (fun s => ?hy) ?_; case hy => (go_simp <;> with_reducible rfl)
              try simp only [List.getElem_toArray, List.getElem_cons_succ, List.getElem_cons_zero, Act.put, List.setIfInBounds_toArray, List.set_cons_zero, List.set_cons_succ]
              refine mixs_take 5 (v := ?_) rfl (by kernel_rfl) (fun _ _ _ h => h) (by kernel_rfl) (by assumption) (fun s => ?hy) ?_; case hy => (go_simp <;> with_reducible rfl)
              try simp only [List.getElem_toArray, List.getElem_cons_succ, List.getElem_cons_zero, Act.put, List.setIfInBounds_toArray, List.set_cons_zero, List.set_cons_succ]
              refine mixs_take 6 (v := ?_) rfl (by kernel_rfl) (fun _ _ _ h => h) (by kernel_rfl) (by assumption) (fun s => ?hy) ?_; case hy => (go_simp <;> with_reducible rfl)
              try simp only [List.getElem_toArray, List.getElem_cons_succ, List.getElem_cons_zero, Act.put, List.setIfInBounds_toArray, List.set_cons_zero, List.set_cons_succ]
              refine mixs_skip 7 rfl (by kernel_rfl) (fun _ _ _ h => h) (by kernel_rfl) (by assumption) ?_
              try simp only [List.getElem_toArray, List.getElem_cons_succ, List.getElem_cons_zero, Act.put, List.setIfInBounds_toArray, List.set_cons_zero, List.set_cons_succ]
              refine mixs_skip 8 rfl (by kernel_rfl) (fun _ _ _ h => h) (by kernel_rfl) (by assumption) ?_
              try simp only [List.getElem_toArray, List.getElem_cons_succ, List.getElem_cons_zero, Act.put, List.setIfInBounds_toArray, List.set_cons_zero, List.set_cons_succ]
              refine mixs_skip 9 rfl (by kernel_rfl) (fun _ _ _ h => h) (by kernel_rfl) (by assumption) ?_
              try simp only [List.getElem_toArray, List.getElem_cons_succ, List.getElem_cons_zero, Act.put, List.setIfInBounds_toArray, List.set_cons_zero, List.set_cons_succ]
              refine mixs_skip 10 rfl (by kernel_rfl) (fun _ _ _ h => h) (by kernel_rfl) (by assumption) ?_
              try simp only [List.getElem_toArray, List.getElem_cons_succ, List.getElem_cons_zero, Act.put, List.setIfInBounds_toArray, List.set_cons_zero, List.set_cons_succ]
              refine mixs_skip 11 rfl (by kernel_rfl) (fun _ _ _ h => h) (by kernel_rfl) (by assumption) ?_
              try simp only [List.getElem_toArray, List.getElem_cons_succ, List.getElem_cons_zero, Act.put, List.setIfInBounds_toArray, List.set_cons_zero, List.set_cons_succ]
              refine mixs_skip 12 rfl (by kernel_rfl) (fun _ _ _ h => h) (by kernel_rfl) (by assumption) ?_
              try simp only [List.getElem_toArray, List.getElem_cons_succ, List.getElem_cons_zero, Act.put, List.setIfInBounds_toArray, List.set_cons_zero, List.set_cons_succ]
              refine mixs_take 13 (v := ?_) rfl (by kernel_rfl) (fun _ _ _ h => h) (by kernel_rfl) (by assumption) (fun s => ?hy) ?_; case hy => (go_simp <;> with_reducible rfl)
              try simp only [List.getElem_toArray, List.getElem_cons_succ, List.getElem_cons_zero, Act.put, List.setIfInBounds_toArray, List.set_cons_zero, List.set_cons_succ]
              refine mixs_take 14 (v := ?_) rfl (by kernel_rfl) (fun _ _ _ h => h) (by kernel_rfl) (by assumption) (fun s => ?hy) ?_; case hy => (go_simp <;> with_reducible rfl)
              try simp only [List.getElem_toArray, List.getElem_cons_succ, List.getElem_cons_zero, Act.put, List.setIfInBounds_toArray, List.set_cons_zero, List.set_cons_succ]
              refine mixs_skip 15 rfl (by kernel_rfl) (fun _ _ _ h => h) (by kernel_rfl) (by assumption) ?_
              try simp only [List.getElem_toArray, List.getElem_cons_succ, List.getElem_cons_zero, Act.put, List.setIfInBounds_toArray, List.set_cons_zero, List.set_cons_succ]
              refine mixs_skip 16 rfl (by kernel_rfl) (fun _ _ _ h => h) (by kernel_rfl) (by assumption) ?_
              try simp only [List.getElem_toArray, List.getElem_cons_succ, List.getElem_cons_zero, Act.put, List.setIfInBounds_toArray, List.set_cons_zero, List.set_cons_succ]
              refine mixs_skip 17 rfl (by kernel_rfl) (fun _ _ _ h => h) (by kernel_rfl) (by assumption) ?_
              try simp only [List.getElem_toArray, List.getElem_cons_succ, List.getElem_cons_zero, Act.put, List.setIfInBounds_toArray, List.set_cons_zero, List.set_cons_succ]
              refine mixs_skip 18 rfl (by kernel_rfl) (fun _ _ _ h => h) (by kernel_rfl) (by assumption) ?_
              try simp only [List.getElem_toArray, List.getElem_cons_succ, List.getElem_cons_zero, Act.put, List.setIfInBounds_toArray, List.set_cons_zero, List.set_cons_succ]
              refine mixs_skip 19 rfl (by kernel_rfl) (fun _ _ _ h => h) (by kernel_rfl) (by assumption) ?_
              try simp only [List.getElem_toArray, List.getElem_cons_succ, List.getElem_cons_zero, Act.put, List.setIfInBounds_toArray, List.set_cons_zero, List.set_cons_succ]
              refine mixs_skip 20 rfl (by kernel_rfl) (fun _ _ _ h => h) (by kernel_rfl) (by assumption) ?_
              try simp only [List.getElem_toArray, List.getElem_cons_succ, List.getElem_cons_zero, Act.put, List.setIfInBounds_toArray, List.set_cons_zero, List.set_cons_succ]
              refine mixs_skip 21 rfl (by kernel_rfl) (fun _ _ _ h => h) (by kernel_rfl) (by assumption) ?_
              try simp only [List.getElem_toArray, List.getElem_cons_succ, List.getElem_cons_zero, Act.put, List.setIfInBounds_toArray, List.set_cons_zero, List.set_cons_succ]
              refine mixs_skip 22 rfl (by kernel_rfl) (fun _ _ _ h => h) (by kernel_rfl) (by assumption) ?_
              try simp only [List.getElem_toArray, List.getElem_cons_succ, List.getElem_cons_zero, Act.put, List.setIfInBounds_toArray, List.set_cons_zero, List.set_cons_succ]
              refine mixs_skip 23 rfl (by kernel_rfl) (fun _ _ _ h => h) (by kernel_rfl) (by assumption) ?_
              try simp only [List.getElem_toArray, List.getElem_cons_succ, List.getElem_cons_zero, Act.put, List.setIfInBounds_toArray, List.set_cons_zero, List.set_cons_succ]
              refine mixs_skip 24 rfl (by kernel_rfl) (fun _ _ _ h => h) (by kernel_rfl) (by assumption) ?_
              try simp only [List.getElem_toArray, List.getElem_cons_succ, List.getElem_cons_zero, Act.put, List.setIfInBounds_toArray, List.set_cons_zero, List.set_cons_succ]
              refine mixs_skip 25 rfl (by kernel_rfl) (fun _ _ _ h => h) (by kernel_rfl) (by assumption) ?_
              try simp only [List.getElem_toArray, List.getElem_cons_succ, List.getElem_cons_zero, Act.put, List.setIfInBounds_toArray, List.set_cons_zero, List.set_cons_succ]
              refine mixs_skip 26 rfl (by kernel_rfl) (fun _ _ _ h => h) (by kernel_rfl) (by assumption) ?_
              try simp only [List.getElem_toArray, List.getElem_cons_succ, List.getElem_cons_zero, Act.put, List.setIfInBounds_toArray, List.set_cons_zero, List.set_cons_succ]
              refine mixs_skip 27 rfl (by kernel_rfl) (fun _ _ _ h => h) (by kernel_rfl) (by assumption) ?_
              try simp only [List.getElem_toArray, List.getElem_cons_succ, List.getElem_cons_zero, Act.put, List.setIfInBounds_toArray, List.set_cons_zero, List.set_cons_succ]
              refine mixs_skip 28 rfl (by kernel_rfl) (fun _ _ _ h => h) (by kernel_rfl) (by assumption) ?_
              try simp only [List.getElem_toArray, List.getElem_cons_succ, List.getElem_cons_zero, Act.put, List.setIfInBounds_toArray, List.set_cons_zero, List.set_cons_succ]
              refine mixs_take 29 (v := ?_) rfl (by kernel_rfl) (fun _ _ _ h => h) (by kernel_rfl) (by assumption) (fun s => ?hy) ?_; case hy => (go_simp <;> with_reducible rfl)
              try simp only [List.getElem_toArray, List.getElem_cons_succ, List.getElem_cons_zero, Act.put, List.setIfInBounds_toArray, List.set_cons_zero, List.set_cons_succ]
              refine wpAnyH_done (by kernel_rfl) ?_ _
              go_wp2_with fail
              go_roundg (n1 - (j + 1))
              case measure => omega
              case rel => exact ⟨j + 1, wv', _, _, by omega, by go_num, Lib.hid ⟨hWn.out.symm, hwn.out.symm⟩, hS⟩
            · have hp1 : 0 ≤ p := by omega
              have hp2 : 8 ≤ p := by omega
              have dp : decide (p < 8) = false := decide_eq_false (by omega)
              clear hin hp0
              go_wp2_with fail
              refine mixs_beginE (by kernel_rfl) hS ?_
              clear hS
              intro w2 hS hC
              refine mixs_take 0 (v := ?_) rfl (by kernel_rfl) (fun _ _ _ h => h) (by kernel_rfl) (by assumption) (fun s => ?hy) ?_; case hy => (go_simp <;> with_reducible rfl)
              try simp only [List.getElem_toArray, List.getElem_cons_succ, List.getElem_cons_zero, Act.put, List.setIfInBounds_toArray, List.set_cons_zero, List.set_cons_succ]
              refine mixs_take 1 (v := ?_) rfl (by kernel_rfl) (fun _ _ _ h => h) (by kernel_rfl) (by assumption) (fun s => ?hy) ?_; case hy => (go_simp <;> with_reducible rfl)
              try simp only [List.getElem_toArray, List.getElem_cons_succ, List.getElem_cons_zero, Act.put, List.setIfInBounds_toArray, List.set_cons_zero, List.set_cons_succ]
              refine mixs_take 2 (v := ?_) rfl (by kernel_rfl) (fun _ _ _ h => h) (by kernel_rfl) (by assumption) (fun s => ?hy) ?_; case hy => (go_simp <;> with_reducible rfl)
              try simp only [List.getElem_toArray, List.getElem_cons_succ, List.getElem_cons_zero, Act.put, List.setIfInBounds_toArray, List.set_cons_zero, List.set_cons_succ]
              refine mixs_take 3 (v := ?_) rfl (by kernel_rfl) (fun _ _ _ h => h) (by kernel_rfl) (by assumption) (fun s => ?hy) ?_; case hy => (go_simp <;> with_reducible rfl)
              try simp only [List.getElem_toArray, List.getElem_cons_succ, List.getElem_cons_zero, Act.put, List.setIfInBounds_toArray, List.set_cons_zero, List.set_cons_succ]
              refine mixs_take 4 (v := ?_) rfl (by kernel_rfl) (fun _ _ _ h => h) (by kernel_rfl) (by assumption) (fun s => ?hy) ?_; case hy => (go_simp <;> with_reducible rfl)
              try simp only [List.getElem_toArray, List.getElem_cons_succ, List.getElem_cons_zero, Act.put, List.setIfInBounds_toArray, List.set_cons_zero, List.set_cons_succ]
              refine mixs_take 5 (v := ?_) rfl (by kernel_rfl) (fun _ _ _ h => h) (by kernel_rfl) (by assumption) (fun s => ?hy) ?_; case hy => (go_simp <;> with_reducible rfl)
              try simp only [List.getElem_toArray, List.getElem_cons_succ, List.getElem_cons_zero, Act.put, List.setIfInBounds_toArray, List.set_cons_zero, List.set_cons_succ]
              refine mixs_take 6 (v := ?_) rfl (by kernel_rfl) (fun _ _ _ h => h) (by kernel_rfl) (by assumption) (fun s => ?hy) ?_; case hy => (go_simp <;> with_reducible rfl)
              try simp only [List.getElem_toArray, List.getElem_cons_succ, List.getElem_cons_zero, Act.put, List.setIfInBounds_toArray, List.set_cons_zero, List.set_cons_succ]
              refine mixs_take 7 (v := ?_) rfl (by kernel_rfl) (fun _ _ _ h => h) (by kernel_rfl) (by assumption) (fun s => ?hy) ?_; case hy => (go_simp <;> with_reducible rfl)
              try simp only [List.getElem_toArray, List.getElem_cons_succ, List.getElem_cons_zero, Act.put, List.setIfInBounds_toArray, List.set_cons_zero, List.set_cons_succ]
              refine mixs_take 8 (v := ?_) rfl (by kernel_rfl) (fun _ _ _ h => h) (by kernel_rfl) (by assumption) (fun s => ?hy) ?_; case hy => (go_simp <;> with_reducible rfl)
              try simp only [List.getElem_toArray, List.getElem_cons_succ, List.getElem_cons_zero, Act.put, List.setIfInBounds_toArray, List.set_cons_zero, List.set_cons_succ]
              refine mixs_take 9 (v := ?_) rfl (by kernel_rfl) (fun _ _ _ h => h) (by kernel_rfl) (by assumption) (fun s => ?hy) ?_; case hy => (go_simp <;> with_reducible rfl)
              try simp only [List.getElem_toArray, List.getElem_cons_succ, List.getElem_cons_zero, Act.put, List.setIfInBounds_toArray, List.set_cons_zero, List.set_cons_succ]
              refine mixs_take 10 (v := ?_) rfl (by kernel_rfl) (fun _ _ _ h => h) (by kernel_rfl) (by assumption) (fun s => ?hy) ?_; case hy => (go_simp <;> with_reducible rfl)
              try simp only [List.getElem_toArray, List.getElem_cons_succ, List.getElem_cons_zero, Act.put, List.setIfInBounds_toArray, List.set_cons_zero, List.set_cons_succ]
              refine mixs_take 11 (v := ?_) rfl (by kernel_rfl) (fun _ _ _ h => h) (by kernel_rfl) (by assumption) (fun s => ?hy) ?_; case hy => (go_simp <;> with_reducible rfl)
              try simp only [List.getElem_toArray, List.getElem_cons_succ, List.getElem_cons_zero, Act.put, List.setIfInBounds_toArray, List.set_cons_zero, List.set_cons_succ]
              refine mixs_take 12 (v := ?_) rfl (by kernel_rfl) (fun _ _ _ h => h) (by kernel_rfl) (by assumption) (fun s => ?hy) ?_; case hy => (go_simp <;> with_reducible rfl)
              try simp only [List.getElem_toArray, List.getElem_cons_succ, List.getElem_cons_zero, Act.put, List.setIfInBounds_toArray, List.set_cons_zero, List.set_cons_succ]
              refine mixs_take 13 (v := ?_) rfl (by kernel_rfl) (fun _ _ _ h => h) (by kernel_rfl) (by assumption) (fun s => ?hy) ?_; case hy => (go_simp <;> with_reducible rfl)
              try simp only [List.getElem_toArray, List.getElem_cons_succ, List.getElem_cons_zero, Act.put, List.setIfInBounds_toArray, List.set_cons_zero, List.set_cons_succ]
              refine mixs_take 14 (v := ?_) rfl (by kernel_rfl) (fun _ _ _ h => h) (by kernel_rfl) (by assumption) (fun s => ?hy) ?_; case hy => (go_simp <;> with_reducible rfl)
              try simp only [List.getElem_toArray, List.getElem_cons_succ, List.getElem_cons_zero, Act.put, List.setIfInBounds_toArray, List.set_cons_zero, List.set_cons_succ]
              refine mixs_skip 15 rfl (by kernel_rfl) (fun _ _ _ h => h) (by kernel_rfl) (by assumption) ?_
              try simp only [List.getElem_toArray, List.getElem_cons_succ, List.getElem_cons_zero, Act.put, List.setIfInBounds_toArray, List.set_cons_zero, List.set_cons_succ]
              refine mixs_skip 16 rfl (by kernel_rfl) (fun _ _ _ h => h) (by kernel_rfl) (by assumption) ?_
              try simp only [List.getElem_toArray, List.getElem_cons_succ, List.getElem_cons_zero, Act.put, List.setIfInBounds_toArray, List.set_cons_zero, List.set_cons_succ]
              refine mixs_skip 17 rfl (by kernel_rfl) (fun _ _ _ h => h) (by kernel_rfl) (by assumption) ?_
              try simp only [List.getElem_toArray, List.getElem_cons_succ, List.getElem_cons_zero, Act.put, List.setIfInBounds_toArray, List.set_cons_zero, List.set_cons_succ]
              refine mixs_skip 18 rfl (by kernel_rfl) (fun _ _ _ h => h) (by kernel_rfl) (by assumption) ?_
              try simp only [List.getElem_toArray, List.getElem_cons_succ, List.getElem_cons_zero, Act.put, List.setIfInBounds_toArray, List.set_cons_zero, List.set_cons_succ]
              refine mixs_skip 19 rfl (by kernel_rfl) (fun _ _ _ h => h) (by kernel_rfl) (by assumption) ?_
              try simp only [List.getElem_toArray, List.getElem_cons_succ, List.getElem_cons_zero, Act.put, List.setIfInBounds_toArray, List.set_cons_zero, List.set_cons_succ]
              refine mixs_skip 20 rfl (by kernel_rfl) (fun _ _ _ h => h) (by kernel_rfl) (by assumption) ?_
              try simp only [List.getElem_toArray, List.getElem_cons_succ, List.getElem_cons_zero, Act.put, List.setIfInBounds_toArray, List.set_cons_zero, List.set_cons_succ]
              refine mixs_skip 21 rfl (by kernel_rfl) (fun _ _ _ h => h) (by kernel_rfl) (by assumption) ?_
              try simp only [List.getElem_toArray, List.getElem_cons_succ, List.getElem_cons_zero, Act.put, List.setIfInBounds_toArray, List.set_cons_zero, List.set_cons_succ]
              refine mixs_skip 22 rfl (by kernel_rfl) (fun _ _ _ h => h) (by kernel_rfl) (by assumption) ?_
              try simp only [List.getElem_toArray, List.getElem_cons_succ, List.getElem_cons_zero, Act.put, List.setIfInBounds_toArray, List.set_cons_zero, List.set_cons_succ]
              refine mixs_skip 23 rfl (by kernel_rfl) (fun _ _ _ h => h) (by kernel_rfl) (by assumption) ?_
              try simp only [List.getElem_toArray, List.getElem_cons_succ, List.getElem_cons_zero, Act.put, List.setIfInBounds_toArray, List.set_cons_zero, List.set_cons_succ]
              refine mixs_skip 24 rfl (by kernel_rfl) (fun _ _ _ h => h) (by kernel_rfl) (by assumption) ?_
              try simp only [List.getElem_toArray, List.getElem_cons_succ, List.getElem_cons_zero, Act.put, List.setIfInBounds_toArray, List.set_cons_zero, List.set_cons_succ]
              refine mixs_skip 25 rfl (by kernel_rfl) (fun _ _ _ h => h) (by kernel_rfl) (by assumption) ?_
              try simp only [List.getElem_toArray, List.getElem_cons_succ, List.getElem_cons_zero, Act.put, List.setIfInBounds_toArray, List.set_cons_zero, List.set_cons_succ]
              refine mixs_skip 26 rfl (by kernel_rfl) (fun _ _ _ h => h) (by kernel_rfl) (by assumption) ?_
              try simp only [List.getElem_toArray, List.getElem_cons_succ, List.getElem_cons_zero, Act.put, List.setIfInBounds_toArray, List.set_cons_zero, List.set_cons_succ]
              refine mixs_skip 27 rfl (by kernel_rfl) (fun _ _ _ h => h) (by kernel_rfl) (by assumption) ?_
              try simp only [List.getElem_toArray, List.getElem_cons_succ, List.getElem_cons_zero, Act.put, List.setIfInBounds_toArray, List.set_cons_zero, List.set_cons_succ]
              refine mixs_skip 28 rfl (by kernel_rfl) (fun _ _ _ h => h) (by kernel_rfl) (by assumption) ?_
              try simp only [List.getElem_toArray, List.getElem_cons_succ, List.getElem_cons_zero, Act.put, List.setIfInBounds_toArray, List.set_cons_zero, List.set_cons_succ]
              refine mixs_take 29 (v := ?_) rfl (by kernel_rfl) (fun _ _ _ h => h) (by kernel_rfl) (by assumption) (fun s => ?hy) ?_; case hy => (go_simp <;> with_reducible rfl)
              try simp only [List.getElem_toArray, List.getElem_cons_succ, List.getElem_cons_zero, Act.put, List.setIfInBounds_toArray, List.set_cons_zero, List.set_cons_succ]
              refine wpAnyH_done (by kernel_rfl) ?_ _
              go_wp2_with fail
              go_roundg (n1 - (j + 1))
              case measure => omega
              case rel => exact ⟨j + 1, wv', _, _, by omega, by go_num, Lib.hid ⟨hWn.out.symm, hwn.out.symm⟩, hS⟩
        · have hT : l1.take j = l1 := List.take_of_length_le (by rw [h1.out.len]; omega)
          obtain ⟨hW1, hW2⟩ := hW.out
          rw [hT] at hW1 hW2
          have hz : ∀ b ∈ ws0, b.length = 64 := by
            intro b hb
            rw [← hw0.out] at hb
            rw [List.eq_of_mem_replicate hb, ← hz64.out, List.length_replicate]
          obtain ⟨hwsl, hwsb⟩ := Dk.was_ok l1 ws0 hw0l.out hz
          rw [← hW2] at hwsl hwsb
          have hdone : Dk.done S0 W0 = ws.map Dk.clean := by rw [hW1, hS0c.out, Dk.done_was, ← hW2]
          have hok0 : (Dk.dk S0 W0).Ok := by rw [hS0c.out, hW1]; exact Dk.dk_ok ws0 hw0l.out hz l1
          have hWl : W0.length ≤ 100000 := by rw [hW1]; exact Dk.waits_len l1 _ (by rw [h1.out.len]; omega)
          have cS := fun (wvx : Value) (W : World) (h : St W (feet (dks bd sv wvx (Dk.dk S0 W0))) (dks bd sv wvx (Dk.dk S0 W0)) W) => sync_any bd sv wvx (Dk.dk S0 W0) W h hok0 hWl (by simp [Dk.dk])
          rw [Dk.dk_sync hS0l.out, hdone] at cS
          have hS1l : (ws.map Dk.clean).length = 8 := by rw [List.length_map, hwsl]
          have hokl := fun l => Dk.dk_ok ws hwsl hwsb l
          obtain ⟨S1, hS1e⟩ : ∃ S, ws.map Dk.clean = S := ⟨_, rfl⟩
          rw [hS1e] at cS hS1l hokl
          replace cS := Lib.hid cS
          replace hS1l := Lib.hid hS1l
          replace hokl := Lib.hid hokl
          replace hS1e := Lib.hid hS1e
          replace hwsl := Lib.hid hwsl
          clear hW hW1 hW2 hz hdone hok0 hWl hwsb hT hS0l hS0c hw0 hw0l hz64 cZ h1
          go_wp2_with (first
            | (go_at_call 58; (with_reducible refine (cS.out _ _ (hS.pre _ [_] rfl)).mono ?_); rintro _ w5 ⟨rfl, wv5, hk5⟩; have hS1 := hS.call _ [_] rfl hk5; clear hS hk5; have hS := hS1; clear hS1))
          clear cS
          go_loopg [11] n2 (fun gk vx wr => ∃ (j : Nat) (wv' : Value), j + gk = n2 ∧ vx = .int .i64 j ∧ St w [] (dks bd sv wv' (Dk.dk S1 (Dk.waits (l2.take j))) ++ [Ch.blk g1 81 (wsC ws)]) wr)
          case atStart => exact ⟨0, wv5, Nat.zero_add _, rfl, hS⟩
          case round =>
            clear hS
            obtain ⟨j2, wv6, hj2, rfl, hS⟩ := hrel
            by_cases hlt2 : j2 < n2
            · have hjl : j2 < l2.length := by rw [h2.out.len]; exact hlt2
              obtain ⟨b, off, rfl, hc⟩ := h2.out.get j2 hjl
              have hcp : w.cell? ⟨b, off + j2 * 5 + 1, none⟩ = some (.int .i64 l2[j2].place) := by rw [Nat.add_assoc]; exact hc 1 _ rfl
              have hcc : w.cell? ⟨b, off + j2 * 5 + 3, none⟩ = some (.int .u8 l2[j2].c.toNat) := by rw [Nat.add_assoc]; exact hc 3 _ rfl
              clear hc
              have hnx := Dk.dk_write_next hS1l.out (l2.take j2) l2[j2]
              rw [← List.take_succ_eq_append_getElem hjl] at hnx
              have cW := fun (wvx : Value) (W : World) (h : St W (feet (dks bd sv wvx (Dk.dk S1 (Dk.waits (l2.take j2))))) (dks bd sv wvx (Dk.dk S1 (Dk.waits (l2.take j2)))) W) => write_any bd sv wvx (Dk.dk S1 (Dk.waits (l2.take j2))) l2[j2].place (str (List.replicate 64 l2[j2].c)) W h (by rw [str_size]; simp [maxLen]) (Dk.waits_len _ _ (by rw [List.length_take]; omega)) (by simp [Dk.dk])
              rw [str_data, hnx] at cW
              have hcT := cT.out l2[j2].c
              generalize ((Dk.dk S1 (Dk.waits (l2.take j2))).write l2[j2].place (List.replicate 64 l2[j2].c)).2 = er at cW
              clear hnx
              generalize l2[j2].place = p at *
              generalize l2[j2].c = c at *
              generalize List.replicate 64 c = cb at *
              generalize Dk.waits (l2.take j2) = W1 at *
              replace hcT := Lib.hid hcT
              replace cW := Lib.hid cW
              have k0 := hS.empty.kold0 hcp
              have k1 := hS.empty.kold0 hcc
              clear hokl h3 hk hkb hS1l hS1e
              go_wp2_with fail
              refine mixs_beginE (by kernel_rfl) hS ?_
              clear hS
              intro w2 hS hC
              refine mixs_take 0 (v := ?_) rfl (by kernel_rfl) (fun _ _ _ h => h) (by kernel_rfl) (by assumption) (fun s => ?hy) ?_; case hy => (go_simp <;> with_reducible rfl)
              try simp only [List.getElem_toArray, List.getElem_cons_succ, List.getElem_cons_zero, Act.put, List.setIfInBounds_toArray, List.set_cons_zero, List.set_cons_succ]
              refine mixs_take 1 (v := ?_) rfl (by kernel_rfl) (fun _ _ _ h => h) (by kernel_rfl) (by assumption) (fun s => ?hy) ?_; case hy => (go_simp <;> with_reducible rfl)
              try simp only [List.getElem_toArray, List.getElem_cons_succ, List.getElem_cons_zero, Act.put, List.setIfInBounds_toArray, List.set_cons_zero, List.set_cons_succ]
              refine mixs_take 2 (v := ?_) rfl (by kernel_rfl) (fun _ _ _ h => h) (by kernel_rfl) (by assumption) (fun s => ?hy) ?_; case hy => (go_simp <;> with_reducible rfl)
              try simp only [List.getElem_toArray, List.getElem_cons_succ, List.getElem_cons_zero, Act.put, List.setIfInBounds_toArray, List.set_cons_zero, List.set_cons_succ]
              refine mixs_take 3 (v := ?_) rfl (by kernel_rfl) (fun _ _ _ h => h) (by kernel_rfl) (by assumption) (fun s => ?hy) ?_; case hy => (go_simp <;> with_reducible rfl)
              try simp only [List.getElem_toArray, List.getElem_cons_succ, List.getElem_cons_zero, Act.put, List.setIfInBounds_toArray, List.set_cons_zero, List.set_cons_succ]
              refine mixs_take 4 (v := ?_) rfl (by kernel_rfl) (fun _ _ _ h => h) (by kernel_rfl) (by assumption) (fun s => ?hy) ?_; case hy => (go_simp <;> with_reducible rfl)
              try simp only [List.getElem_toArray, List.getElem_cons_succ, List.getElem_cons_zero, Act.put, List.setIfInBounds_toArray, List.set_cons_zero, List.set_cons_succ]
              refine mixs_take 5 (v := ?_) rfl (by kernel_rfl) (fun _ _ _ h => h) (by kernel_rfl) (by assumption) (fun s => ?hy) ?_; case hy => (go_simp <;> with_reducible rfl)
              try simp only [List.getElem_toArray, List.getElem_cons_succ, List.getElem_cons_zero, Act.put, List.setIfInBounds_toArray, List.set_cons_zero, List.set_cons_succ]
              refine mixs_take 6 (v := ?_) rfl (by kernel_rfl) (fun _ _ _ h => h) (by kernel_rfl) (by assumption) (fun s => ?hy) ?_; case hy => (go_simp <;> with_reducible rfl)
              try simp only [List.getElem_toArray, List.getElem_cons_succ, List.getElem_cons_zero, Act.put, List.setIfInBounds_toArray, List.set_cons_zero, List.set_cons_succ]
              refine mixs_take 7 (v := ?_) rfl (by kernel_rfl) (fun _ _ _ h => h) (by kernel_rfl) (by assumption) (fun s => ?hy) ?_; case hy => (go_simp <;> with_reducible rfl)
              try simp only [List.getElem_toArray, List.getElem_cons_succ, List.getElem_cons_zero, Act.put, List.setIfInBounds_toArray, List.set_cons_zero, List.set_cons_succ]
              refine mixs_take 8 (v := ?_) rfl (by kernel_rfl) (fun _ _ _ h => h) (by kernel_rfl) (by assumption) (fun s => ?hy) ?_; case hy => (go_simp <;> with_reducible rfl)
              try simp only [List.getElem_toArray, List.getElem_cons_succ, List.getElem_cons_zero, Act.put, List.setIfInBounds_toArray, List.set_cons_zero, List.set_cons_succ]
              refine mixs_take 9 (v := ?_) rfl (by kernel_rfl) (fun _ _ _ h => h) (by kernel_rfl) (by assumption) (fun s => ?hy) ?_; case hy => (go_simp <;> with_reducible rfl)
              try simp only [List.getElem_toArray, List.getElem_cons_succ, List.getElem_cons_zero, Act.put, List.setIfInBounds_toArray, List.set_cons_zero, List.set_cons_succ]
              refine mixs_take 10 (v := ?_) rfl (by kernel_rfl) (fun _ _ _ h => h) (by kernel_rfl) (by assumption) (fun s => ?hy) ?_; case hy => (go_simp <;> with_reducible rfl)
              try simp only [List.getElem_toArray, List.getElem_cons_succ, List.getElem_cons_zero, Act.put, List.setIfInBounds_toArray, List.set_cons_zero, List.set_cons_succ]
              refine mixs_one 11 (by kernel_rfl) rfl (fun K hK => ?_)
              go_simp
              ( first | (go_at_call 56; (with_reducible refine (hcT.out _).mono ?_); rintro _ w5 ⟨rfl, hb5⟩; have hS1 := hS.keepB hb5; clear hb5 hS; have hS := hS1; clear hS1) | (go_at_call 57; (with_reducible refine (cW.out _ _ (hS.pre _ [_] rfl)).mono ?_); rintro _ w5 ⟨rfl, wv7, hk5⟩; have hS1 := hS.call _ [_] rfl hk5; clear hS hk5; have hS := hS1; clear hS1) )
              try clear hC
              refine hK.out _ _ _ (fun _ h => h) (by first | exact hS | exact hS.drop | exact hS.drop.drop | exact hS.drop.drop.drop | exact hS.drop.drop.drop.drop | exact hS.empty) (fun hC => ?_)
              clear hK K
              try simp only [List.getElem_toArray, List.getElem_cons_succ, List.getElem_cons_zero, Act.put, List.setIfInBounds_toArray, List.set_cons_zero, List.set_cons_succ]
              refine mixs_one 12 (by kernel_rfl) rfl (fun K hK => ?_)
              go_simp
              ( first | (go_at_call 56; (with_reducible refine (hcT.out _).mono ?_); rintro _ w5 ⟨rfl, hb5⟩; have hS1 := hS.keepB hb5; clear hb5 hS; have hS := hS1; clear hS1) | (go_at_call 57; (with_reducible refine (cW.out _ _ (hS.pre _ [_] rfl)).mono ?_); rintro _ w5 ⟨rfl, wv7, hk5⟩; have hS1 := hS.call _ [_] rfl hk5; clear hS hk5; have hS := hS1; clear hS1) )
              try clear hC
              refine hK.out _ _ _ (fun _ h => h) (by first | exact hS | exact hS.drop | exact hS.drop.drop | exact hS.drop.drop.drop | exact hS.drop.drop.drop.drop | exact hS.empty) (fun hC => ?_)
              clear hK K
              try simp only [List.getElem_toArray, List.getElem_cons_succ, List.getElem_cons_zero, Act.put, List.setIfInBounds_toArray, List.set_cons_zero, List.set_cons_succ]
              refine wpAnyH_done (by kernel_rfl) ?_ _
              try clear hC
              go_wp2_with fail
              go_roundg (n2 - (j2 + 1))
              case measure => omega
              case rel => exact ⟨j2 + 1, wv7, by omega, by go_num, hS⟩
            · have hT2 : l2.take j2 = l2 := List.take_of_length_le (by rw [h2.out.len]; omega)
              rw [hT2] at hS
              have hok2 := hokl.out l2
              have hl2 : (Dk.waits l2).length ≤ 100000 := Dk.waits_len _ _ (by rw [h2.out.len]; omega)
              have cC := fun (wvx : Value) (W : World) (h : St W (feet (dks bd sv wvx (Dk.dk S1 (Dk.waits l2)))) (dks bd sv wvx (Dk.dk S1 (Dk.waits l2))) W) hks hap => crash_any bd sv wvx (Dk.dk S1 (Dk.waits l2)) a3 keep n3 c3 W h hok2 hl2 hks hkb.out hk.out hkm hap
              have hbk : 0 < n3 → ∀ b o, a3 = some ⟨b, o, none⟩ → b < w.heap.size := by
                intro h0 b o e
                obtain ⟨b', o', e', hc⟩ := sl_int h3.out 0 (by rw [hk.out]; exact h0)
                rw [e] at e'
                cases e'
                apply Nat.lt_of_not_le
                intro hge
                have : w.heap[b]? = none := Array.getElem?_eq_none hge
                simp [World.cell?, this] at hc
              have hTok := hok2.crash keep
              rw [Dk.dk_crash] at cC hTok
              have hlaw := fun k hk8 => Dk.keeps_law ws hwsl.out l2 keep k hk8
              rw [hS1e.out] at hlaw
              generalize Dk.fall keep 0 S1 (Dk.waits l2) = T at *
              have cR := fun (wvx : Value) (k : Nat) (W : World) (h : St W (feet (dks bd sv wvx (Dk.dk T []))) (dks bd sv wvx (Dk.dk T [])) W) => read_any bd sv wvx (Dk.dk T []) k W h hTok (by simp [Dk.dk])
              have cD := fun (wvx : Value) (W : World) (h : St W (feet (dks bd sv wvx (Dk.dk T []))) (dks bd sv wvx (Dk.dk T [])) W) => dead_any bd sv wvx (Dk.dk T []) W h
              have cQ := fun (wvx : Value) (W : World) (h : St W (feet (dks bd sv wvx (Dk.dk T []))) (dks bd sv wvx (Dk.dk T [])) W) => waiting_any bd sv wvx (Dk.dk T []) W h
              replace cC := Lib.hid cC
              replace cR := Lib.hid cR
              replace cD := Lib.hid cD
              replace cQ := Lib.hid cQ
              replace hbk := Lib.hid hbk
              replace hlaw := Lib.hid hlaw
              clear hTok hok2 hl2 hT2 hokl hS1l hS1e hkb hk
              go_wp2_with (first
                | (go_at_call 59; (with_reducible refine (cC.out _ _ (hS.pre _ [_] rfl) (h3.out.below hS.below) (fun h0 b o e => hS.old_off (hbk.out h0 b o e))).mono ?_); rintro _ w5 ⟨rfl, wv7, hk5⟩; have hS1 := hS.call _ [_] rfl hk5; clear hS hk5; have hS := hS1; clear hS1))
              clear cC h3 hbk
              go_loopg [12] 8 (fun gk vx wr => ∃ k : Nat, k + gk = 8 ∧ vx = .int .i64 k ∧ St w [] (dks bd sv wv7 (Dk.dk T []) ++ [Ch.blk g1 81 (wsC ws)]) wr)
              case atStart => exact ⟨0, rfl, rfl, hS⟩
              case round =>
                clear hS
                obtain ⟨k, hk, rfl, hS⟩ := hrel
                by_cases hlt3 : k < 8
                · have hl := hlaw.out k hlt3
                  have cRk := cR.out wv7 k
                  have hget := wsC_get ws k (by rw [hwsl.out]; exact hlt3)
                  generalize ((Dk.dk T []).read k).1 = s at *
                  generalize ((Dk.dk T []).read k).2 = e at *
                  generalize ws[k]'(by rw [hwsl.out]; exact hlt3) = wk at hl hget
                  replace hl := Lib.hid hl
                  replace cRk := Lib.hid cRk
                  replace hget := Lib.hid hget
                  clear hlaw cR cD cQ hwsl
                  go_wp2_with (first
                    | (go_at_call 60; (with_reducible refine (cRk.out _ (hS.pre _ [_] rfl)).mono ?_); rintro _ w5 ⟨rfl, hk5⟩; have hS1 := hS.call _ [_] rfl hk5; clear hS hk5; have hS := hS1; clear hS1)
                    | ((with_reducible refine wpList_load_st 3 hS rfl rfl rfl rfl ?_ hget.out ?_); focus (simp [scalarB, go_sem]; done)))
                  go_loopg [15, 16, 17] n2 (fun gk vo vt vx wr => ∃ i : Nat, i + gk = n2 ∧ vx = .int .i64 i ∧ vo = .bool (Dk.okB s e wk k (l2.take i)) ∧ vt = .bool (Dk.touchB k (l2.take i)) ∧ St w [] (dks bd sv wv7 (Dk.dk T []) ++ [Ch.blk g1 81 (wsC ws)]) wr)
                  case atStart => exact ⟨0, Nat.zero_add _, rfl, by simp [Dk.okB], by simp [Dk.touchB], hS⟩
                  case round =>
                    clear hS
                    obtain ⟨i, hi, rfl, rfl, rfl, hS⟩ := hrel
                    by_cases hlt4 : i < n2
                    · have hil : i < l2.length := by rw [h2.out.len]; exact hlt4
                      obtain ⟨b, off, rfl, hc⟩ := h2.out.get i hil
                      have hcp : w.cell? ⟨b, off + i * 5 + 1, none⟩ = some (.int .i64 l2[i].place) := by rw [Nat.add_assoc]; exact hc 1 _ rfl
                      have hcc : w.cell? ⟨b, off + i * 5 + 3, none⟩ = some (.int .u8 l2[i].c.toNat) := by rw [Nat.add_assoc]; exact hc 3 _ rfl
                      clear hc
                      have ho := Dk.okB_snoc s e wk k (l2.take i) l2[i]
                      have ht := Dk.touchB_snoc k (l2.take i) l2[i]
                      rw [← List.take_succ_eq_append_getElem hil] at ho ht
                      have hcT := cT.out l2[i].c
                      generalize l2[i].place = p at *
                      generalize l2[i].c = c at *
                      generalize List.replicate 64 c = cb at *
                      generalize Dk.okB s e wk k (l2.take i) = vo at *
                      generalize Dk.touchB k (l2.take i) = vt at *
                      have hP := hS.old hcp (by simp)
                      have hC2 := hS.old hcc (by simp)
                      replace ho := Lib.hid ho
                      replace ht := Lib.hid ht
                      replace hcT := Lib.hid hcT
                      clear hl hget cRk hcp hcc cT
                      by_cases hpk : p = (k : Int)
                      · subst hpk
                        cases vo with
                        | true =>
                          go_wp2_with fail
                          go_roundg (n2 - (i + 1))
                          case measure => omega
                          case rel => exact ⟨i + 1, by omega, by go_num, by rw [ho.out]; simp, by rw [ht.out]; simp, hS⟩
                        | false =>
                          cases hsc : (s == cb) with
                          | true =>
                            go_wp2_with (go_at_call 56; (with_reducible refine (hcT.out _).mono ?_); rintro _ w5 ⟨rfl, hb5⟩; have hS1 := hS.keepB hb5; clear hb5 hS; have hS := hS1; clear hS1)
                            go_roundg (n2 - (i + 1))
                            case measure => omega
                            case rel => exact ⟨i + 1, by omega, by go_num, by rw [ho.out, hsc]; simp, by rw [ht.out]; simp, hS⟩
                          | false =>
                            go_wp2_with (go_at_call 56; (with_reducible refine (hcT.out _).mono ?_); rintro _ w5 ⟨rfl, hb5⟩; have hS1 := hS.keepB hb5; clear hb5 hS; have hS := hS1; clear hS1)
                            go_roundg (n2 - (i + 1))
                            case measure => omega
                            case rel => exact ⟨i + 1, by omega, by go_num, by rw [ho.out, hsc]; simp, by rw [ht.out]; simp, hS⟩
                      · have hpb : (p == (k : Int)) = false := by rw [beq_eq_false_iff_ne]; exact hpk
                        clear hpk
                        go_wp2_with fail
                        go_roundg (n2 - (i + 1))
                        case measure => omega
                        case rel => exact ⟨i + 1, by omega, by go_num, by rw [ho.out, hpb]; simp, by rw [ht.out, hpb]; simp, hS⟩
                    · have hT3 : l2.take i = l2 := List.take_of_length_le (by rw [h2.out.len]; omega)
                      obtain ⟨hl1, hl2'⟩ := hl.out
                      rw [hT3, hl1]
                      generalize Dk.touchB k l2 = tb at hl2' ⊢
                      clear hl hget cRk hl1 hT3
                      cases tb with
                      | true =>
                        clear hl2'
                        go_wp2_with fail
                        go_roundg (8 - (k + 1))
                        case measure => omega
                        case rel => exact ⟨k + 1, by omega, by go_num, hS⟩
                      | false =>
                        obtain rfl : e = 0 := by
                          rcases hl2' with h | h
                          · cases h
                          · exact h
                        clear hl2'
                        go_wp2_with fail
                        go_roundg (8 - (k + 1))
                        case measure => omega
                        case rel => exact ⟨k + 1, by omega, by go_num, hS⟩
                · have hk8 : k = 8 := by omega
                  go_wp2_with (first
                    | (go_at_call 61; (with_reducible refine (cD.out _ _ (hS.pre _ [_] rfl)).mono ?_); rintro _ w5 ⟨rfl, rfl⟩)
                    | (go_at_call 62; (with_reducible refine (cQ.out _ _ (hS.pre _ [_] rfl)).mono ?_); rintro _ w5 ⟨rfl, rfl⟩)
                    | (go_at_call 55; (with_reducible refine (awake35_any _).mono ?_); rintro _ w9 ⟨rfl, hb9⟩; have hS1 := hS.keepB hb9; clear hb9 hS; have hS := hS1; clear hS1))
                  go_ret
                  exact ⟨rfl, hS.below⟩

theorem keeps_any (a1 a2 a3 : Option Addr) (n1 c1 n2 c2 n3 c3 : Nat) (l1 l2 : List Ac) (keep : List Int) (w : World) (h1 : Acs w a1 n1 c1 l1) (h2 : Acs w a2 n2 c2 l2) (h3 : Sl w a3 (keep.map vi)) (hk : keep.length = n3) (hkm : n3 ≤ maxLen) (hkb : ∀ z ∈ keep, z ≤ 9223372036854775807) :
    Calls Try.prog 11 #[.slice a1 n1 c1, .slice a2 n2 c2, .slice a3 n3 c3] w fun e w' => e = .returned (.bool true) ∧ Below w.heap.size w w' := by
  by_cases hb : n1 ≤ 40 ∧ n2 ≤ 40
  · exact keeps_main a1 a2 a3 n1 c1 n2 c2 n3 c3 l1 l2 keep w h1 h2 h3 hk hkm hkb hb.1 hb.2
  · have cN : Calls Try.prog 54 #[.int .i64 8] w fun e w' => ∃ bd sv wv, e = .returned (.pointer (some ⟨bd, 0, none⟩)) ∧ St w [] (dks bd sv wv (Dk.new 8)) w' := new_any 8 w (by omega) (by omega)
    replace cN := Lib.hid cN
    have hm1 : n1 ≤ 9223372036854775807 := by have := h1.le; have := h1.cm; unfold maxLen at this; omega
    have hm2 : n2 ≤ 9223372036854775807 := by have := h2.le; have := h2.cm; unfold maxLen at this; omega
    clear h1 h2 h3 hk hkm hkb
    by_cases hb1 : n1 ≤ 40
    · have hb2 : 40 < n2 := by omega
      clear hb
      go_enter Try.func11, Try.ntmps11
      go_wp2_with (first
        | (go_at_call 54; (with_reducible refine cN.out.mono ?_); rintro _ w2 ⟨bd, sv, wv, rfl, hS⟩)
        | (go_at_call 55; (with_reducible refine (awake35_any _).mono ?_); rintro _ w9 ⟨rfl, hb9⟩; have hS1 := hS.keepB hb9; clear hb9 hS; have hS := hS1; clear hS1))
      go_ret
      exact ⟨rfl, hS.below⟩
    · have hb2 : 40 < n1 := by omega
      clear hb hb1
      go_enter Try.func11, Try.ntmps11
      go_wp2_with (first
        | (go_at_call 54; (with_reducible refine cN.out.mono ?_); rintro _ w2 ⟨bd, sv, wv, rfl, hS⟩)
        | (go_at_call 55; (with_reducible refine (awake35_any _).mono ?_); rintro _ w9 ⟨rfl, hb9⟩; have hS1 := hS.keepB hb9; clear hb9 hS; have hS := hS1; clear hS1))
      go_ret
      exact ⟨rfl, hS.below⟩
end Go.Proofs.Ytcpkmgmdhjhfaaa
