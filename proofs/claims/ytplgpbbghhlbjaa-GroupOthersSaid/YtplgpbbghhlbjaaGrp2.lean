/- Groups: copies of them. -/
import Derived.Test.YtplgpbbghhlbjaaGrpIns
set_option linter.unusedSimpArgs false
set_option linter.unusedVariables false
namespace Go.Ofp
open Go.RowKit
theorem St.mem {w w0 : World} {F : List Nat} {L : List Ch} (hS : St w0 F L w) {c : Ch} (hc : c ∈ L) : c.holds w := by
  obtain ⟨i, hi, rfl⟩ := List.getElem_of_mem hc
  exact hS.get i (List.getElem?_eq_getElem hi)
theorem grows_set (A B : List Gr) (g : Gr) (a : Option Addr) (c : Nat) : (grows (A ++ g :: B)).set (A.length * 2 + 1) (.slice a g.mem.length c) = grows (A ++ ⟨g.no, a, c, g.mem⟩ :: B) := by
  rw [grows_append, grows_append, List.set_append_right _ _ (by rw [grows_len]; omega), grows_len]
  congr 1
  rw [show A.length * 2 + 1 - A.length * 2 = 1 by omega]
  simp [grows, Gr.row]
theorem grows_set_mem (A B : List Gr) (g : Gr) (a : Option Addr) (c : Nat) (mem : List Int) : (grows (A ++ g :: B)).set (A.length * 2 + 1) (.slice a mem.length c) = grows (A ++ ⟨g.no, a, c, mem⟩ :: B) := by
  rw [grows_append, grows_append, List.set_append_right _ _ (by rw [grows_len]; omega), grows_len]
  congr 1
  rw [show A.length * 2 + 1 - A.length * 2 = 1 by omega]
  simp [grows, Gr.row]
theorem grows_get1 (A B : List Gr) (g : Gr) : (grows (A ++ g :: B))[A.length * 2 + 1]? = some (.slice g.a g.mem.length g.c) := by
  rw [grows_append, List.getElem?_append_right (by rw [grows_len]; omega), grows_len, show A.length * 2 + 1 - A.length * 2 = 1 by omega]
  simp [grows, Gr.row]
theorem grows_get0 (A B : List Gr) (g : Gr) : (grows (A ++ g :: B))[A.length * 2]? = some (.int .i64 g.no) := by
  rw [grows_append, List.getElem?_append_right (by rw [grows_len]; omega), grows_len, Nat.sub_self]
  simp [grows, Gr.row]
end Go.Ofp
namespace Go.Proofs.Ytplgpbbghhlbjaa
open Go.RowKit Go.Ofp
set_option linter.unusedVariables false
set_option maxRecDepth 100000
set_option maxHeartbeats 4000000

/-- A row of groups that a callee made. -/
def GRowRet (xs : List Value) (n : Nat) (w : World) (e : Ending) (w' : World) : Prop := ∃ a c, e = .returned (.slice a n c) ∧ St w [] [Ch.row 58 2 (.slice a n c) n xs] w'

theorem gclone_some (ad : Addr) (xs : List Value) (n cap : Nat) (w : World) (hs : Sl w (some ad) xs) (hn : xs.length = n * 2) (h1 : ∀ u ∈ xs, u.oneCell' = true) (hm : n ≤ 100000) :
    Calls Try.prog 83 #[.slice (some ad) n cap] w (GRowRet xs n w) := by
  have hS := St.start w
  have he := fun (W : World) (a : Option Addr) (n c : Nat) => Lib.run_eql_slice_nil (P := Try.prog) W 52 58 a n c 0 0 Try.underlying52
  replace hn := Lib.hid hn
  replace hs := Lib.hid hs
  go_enter Try.func83, Try.ntmps83
  go_wp2_with (first
      | ((with_reducible refine wpList_build0_st hS rfl rfl Try.underlying52 elem_g ?_); intro g1 w3 hS1; clear hS; have hS := hS1; clear hS1)
      | (at_builtin; ((with_reducible refine wpList_app_st 0 hS rfl rfl rfl Try.underlying52 elem_g rfl (Src.slice Try.underlying52 (hS.sl hs.out) hn.out) rfl h1 (by omega) (by unfold maxLen; omega) ?_); intro v5 w3 hS1; clear hS; simp only [List.set_cons_zero, Nat.zero_add, List.nil_append] at hS1; have hS := hS1; clear hS1; obtain ⟨a5, c5, rfl, -⟩ := hS.row 0 rfl)))
  go_ret
  exact ⟨_, _, rfl, hS⟩
theorem gclone_none (w : World) : Calls Try.prog 83 #[.slice none 0 0] w (GRowRet [] 0 w) := by
  have hS := St.start w
  have he := fun (W : World) (a : Option Addr) (n c : Nat) => Lib.run_eql_slice_nil (P := Try.prog) W 52 58 a n c 0 0 Try.underlying52
  go_enter Try.func83, Try.ntmps83
  go_wp2_with fail
  go_ret
  exact ⟨_, _, rfl, hS.nilrow 58 2⟩
theorem gclone_any (a : Option Addr) (gs : List Gr) (n cap : Nat) (w : World) (hD : Deep w a n cap gs) (hm : n ≤ 100000) :
    Calls Try.prog 83 #[.slice a n cap] w (GRowRet (grows gs) n w) := by
  cases a with
  | some ad => exact gclone_some ad (grows gs) n cap w hD.sl (by rw [grows_len, hD.len]) (grows_one gs) hm
  | none =>
    have hl : gs = [] := by
      by_cases h : gs = []
      · exact h
      · obtain ⟨b, off, e⟩ := hD.sl.cells (by intro e; have := congrArg List.length e; rw [grows_len] at this; have := List.length_pos_iff.2 h; simp at *; omega)
        cases e
    have hc := hD.nz rfl
    have hn := hD.len
    subst hl
    subst hn
    subst hc
    exact gclone_none w

/-- A group's members, as a piece of own memory. -/
def gp (g : Gr) : Ch := irow g.a g.c g.mem
theorem mem_of_gp {w : World} {g : Gr} (h : (gp g).holds w) : Mem w g := by
  obtain ⟨no, ga, gc, mem⟩ := g
  replace h : w.ownsRow 0 3 1 (.slice ga mem.length gc) mem.length (mem.map vi) := h
  obtain ⟨a, cap, e, hs, hl, h1, h2⟩ := owns_sl h
  cases e
  refine ⟨hs, h1, h2, fun ha => ?_⟩
  rcases h.2 with ⟨e, _⟩ | ⟨g', cap, cur, e, _⟩
  · simp only [Value.slice.injEq] at e
    exact e.2.2
  · simp only [Value.slice.injEq] at e
    have := e.1
    replace ha : ga = Option.none := ha
    rw [ha] at this
    cases this

/-- Copied groups: the row, and behind it each group's members. -/
def CopRet (gs : List Gr) (w : World) (e : Ending) (w' : World) : Prop := ∃ a c gs', keys gs' = keys gs ∧ e = .returned (.slice a gs.length c) ∧ St w [] (Ch.row 58 2 (.slice a gs.length c) gs.length (grows gs') :: gs'.reverse.map gp) w'

theorem copied_any (a : Option Addr) (gs : List Gr) (n cap : Nat) (w : World) (hD : Deep w a n cap gs) (hm : n ≤ 1000) (hmm : ∀ g ∈ gs, g.mem.length ≤ 10000) :
    Calls Try.prog 75 #[.slice a n cap] w (CopRet gs w) := by
  have cC := gclone_any a gs n cap w hD (by omega)
  have hS := St.start w
  by_cases hz : n = 0
  · have hgs : gs = [] := List.length_eq_zero_iff.1 (hD.len.trans hz)
    subst hgs
    subst hz
    replace cC := Lib.hid cC
    clear hD
    go_enter Try.func75, Try.ntmps75
    go_wp2_with (go_at_call 83; (with_reducible refine cC.out.mono ?_); rintro _ w3 ⟨a3, c3, rfl, hb3⟩)
    go_loopg [9] 0 (fun gk vx wr => vx = .int .i64 0 ∧ wr = w3)
    case atStart => exact ⟨rfl, rfl⟩
    case round =>
      obtain ⟨rfl, rfl⟩ := hrel
      go_wp2_with fail
      go_ret
      exact ⟨a3, c3, [], rfl, rfl, hb3⟩
  · have hlen := Lib.hid hD.len
    have hD' := Lib.hid hD
    replace cC := Lib.hid cC
    clear hD
    go_enter Try.func75, Try.ntmps75
    go_wp2_with (go_at_call 83; (with_reducible refine cC.out.mono ?_); rintro _ w3 ⟨a3, c3, rfl, hb3⟩; have hS1 := hS.made hb3; clear hS hb3; have hS := hS1; clear hS1; obtain ⟨g3, c4, e3, -⟩ := hS.rowat 0 rfl (by omega); cases e3)
    obtain ⟨cur, q1, q2, q3, q4, hS2⟩ := hS.rowblk
    clear hS
    have hc63 : c3 ≤ 9223372036854775807 := by unfold maxLen at q4; omega
    go_loopg [9] n (fun gk vx wr => ∃ (j : Nat) (cur : Array Value) (new : List Gr), j + gk = n ∧ vx = .int .i64 j ∧ Hid (new.length = j ∧ cur.size = c3 * 2 ∧ cur.toList.take (n * 2) = grows (new ++ gs.drop j) ∧ keys new = keys (gs.take j)) ∧ St w [] (Ch.blk g3 58 cur :: new.reverse.map gp) wr)
    case atStart => exact ⟨0, cur, [], Nat.zero_add _, rfl, Lib.hid ⟨rfl, q1, by simpa using q2, by simp [keys]⟩, hS2⟩
    case round =>
      clear hS2 q1 q2
      obtain ⟨j, cur, new, hj, rfl, hr, hS⟩ := hrel
      by_cases hlt : j < n
      · obtain ⟨r1, r2, r3, r4⟩ := hr.out
        have hjl : j < gs.length := by rw [hlen.out]; exact hlt
        have hd := List.drop_eq_getElem_cons (l := gs) (i := j) hjl
        have hM := hD'.out.mem gs[j] (List.getElem_mem hjl)
        have hml := hmm gs[j] (List.getElem_mem hjl)
        have htk : gs.take (j + 1) = gs.take j ++ [gs[j]] := by rw [List.take_succ_eq_append_getElem hjl]
        rw [hd] at r3
        generalize gs[j] = gj at hd hM hml htk r3
        have hcur1 : cur[j * 2 + 1]? = some (.slice gj.a gj.mem.length gj.c) := by
          have h1 : (cur.toList.take (n * 2))[j * 2 + 1]? = some (.slice gj.a gj.mem.length gj.c) := by rw [r3, ← r1]; exact grows_get1 new _ gj
          rw [List.getElem?_take] at h1
          rw [if_pos (by omega)] at h1
          simpa using h1
        have hcell := (hS.cell 0 rfl (j * 2 + 1)).trans hcur1
        have cI := Lib.hid (clone_any gj.a gj.mem _ gj.c wr (hS.sl hM.sl) rfl (by omega) hM.nz)
        have hble : Nat.ble (j * 2 + 1 + 1) cur.size = true := by rw [Nat.ble_eq, r2]; omega
        have hnew : ∀ (a5 : Option Addr) (c5 : Nat), (new ++ [(⟨gj.no, a5, c5, gj.mem⟩ : Gr)]).length = j + 1 ∧ (cur.setIfInBounds (j * 2 + 1) (.slice a5 gj.mem.length c5)).size = c3 * 2 ∧ (cur.setIfInBounds (j * 2 + 1) (.slice a5 gj.mem.length c5)).toList.take (n * 2) = grows (new ++ [(⟨gj.no, a5, c5, gj.mem⟩ : Gr)] ++ gs.drop (j + 1)) ∧ keys (new ++ [(⟨gj.no, a5, c5, gj.mem⟩ : Gr)]) = keys (gs.take (j + 1)) := by
          intro a5 c5
          refine ⟨by simp [r1], by simp [r2], ?_, ?_⟩
          · rw [Array.toList_setIfInBounds, List.take_set, r3, ← r1, grows_set]
            simp
          · rw [htk]
            unfold keys at r4 ⊢
            rw [List.map_append, List.map_append, r4]
            rfl
        replace hnew := Lib.hid hnew
        clear hcur1 r1 r2 r3 r4 hd htk hM hml hr
        go_wp2_with (first
          | (go_at_call 65; (with_reducible refine cI.out.mono ?_); rintro _ w5 ⟨a5, c5, rfl, h51, h52, hb5⟩; have hS1 := hS.made hb5; clear hS hb5; have hS := hS1; clear hS1)
          | ((with_reducible refine wpList_store_st 1 hS rfl rfl rfl rfl (by kernel_rfl) rfl hble ?_); intro w6 hS1; clear hS; have hS := hS1; clear hS1))
        go_roundg (n - (j + 1))
        case measure => omega
        case rel =>
          refine ⟨j + 1, _, _, by omega, by go_num, Lib.hid (hnew.out a5 c5), ?_⟩
          rw [List.reverse_append]
          exact St.swap hS
      · obtain rfl : j = n := by omega
        go_wp2_with fail
        go_ret
        obtain ⟨r1, r2, r3, r4⟩ := hr.out
        rw [List.drop_of_length_le (by rw [hlen.out]; exact Nat.le_refl _), List.append_nil] at r3
        rw [List.take_of_length_le (by rw [hlen.out]; exact Nat.le_refl _)] at r4
        have hr2 := hS.blkrow2 2 (n := j) (c := c3) r2 q3 q4 r3
        have e1 := hlen.out
        subst e1
        exact ⟨_, c3, new, r4, rfl, hr2⟩
end Go.Proofs.Ytplgpbbghhlbjaa
