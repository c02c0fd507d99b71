/- The walks of pieces: joined by the reference. -/
import Derived.Test.YtcpkmgmdhjhfaaaPiece4
import Derived.Test.YtcpkmgmdhjhfaaaMix
namespace Go.Proofs.Ytcpkmgmdhjhfaaa
open Go.RowKit Go.Ofp
set_option linter.unusedVariables false
set_option maxRecDepth 100000
set_option maxHeartbeats 4000000

theorem catB_size (ps : List Pc) (k : Nat) (h : ∀ p ∈ ps, p.body.size ≤ k) : (str (catB ps)).size ≤ ps.length * k := by
  rw [str_size, catB]
  induction ps with
  | nil => simp
  | cons p ps ih =>
    have := ih (fun q hq => h q (by simp [hq]))
    have := h p (by simp)
    rw [ba_size] at this
    simp only [List.map_cons, List.flatten_cons, List.length_append, List.length_cons, Nat.add_mul]
    omega

theorem cutB_le (life place : Int) (rec : ByteArray) (k : Nat) (h : rec.size + 1 ≤ k) : (cutB life place rec).length ≤ k := by
  rw [cutB]
  split
  · have := manyB_bound rec.size
    simp
    omega
  · simp

theorem rjoin_any (a : Option Addr) (ps : List Pc) (n cap : Nat) (w : World) (ha : Ps w a ps) (hn : n = ps.length) (hn1 : n ≤ 1000) (hbd : ∀ p ∈ ps, p.body.size ≤ 1000)
    (hwf : ∀ p ∈ ps, (-9223372036854775808 ≤ p.life ∧ p.life ≤ 9223372036854775807) ∧ (-9223372036854775808 ≤ p.place ∧ p.place ≤ 9223372036854775807)) :
    Calls Try.prog 22 #[.slice a n cap] w fun e w' => e = .returned (.tuple #[.string (joinB ps).1, .bool (joinB ps).2]) ∧ Below w.heap.size w w' := by
  replace ha := Lib.hid ha
  replace hn := Lib.hid hn
  replace hbd := Lib.hid hbd
  replace hwf := Lib.hid hwf
  by_cases h0 : n = 0
  · have hx : joinB ps = (str [], false) := by
      have : ps = [] := List.eq_nil_of_length_eq_zero (by have := hn.out; omega)
      subst this
      rfl
    rw [hx]
    subst h0
    go_enter Try.func22, Try.ntmps22
    go_wp2_with fail
    go_ret2
    exact ⟨rfl, Below.refl _ _⟩
  · have hpos : 0 < n := by omega
    obtain ⟨l0, h0⟩ : ∃ p, ps[0]? = some p := ⟨_, List.getElem?_eq_getElem (by have := hn.out; omega)⟩
    obtain ⟨b, off, hab, z0, z1, -, -, -⟩ := ha.out.get 0 l0 h0
    subst hab
    simp only [Nat.zero_mul, Nat.add_zero] at z0 z1
    have hiff := joinOk_iff_cut l0 ps h0
    have hw0 := hwf.out l0 (List.mem_of_getElem? h0)
    replace hiff := Lib.hid hiff
    replace hw0 := Lib.hid hw0
    replace h0 := Lib.hid h0
    replace z0 := Lib.hid z0
    replace z1 := Lib.hid z1
    go_enter Try.func22, Try.ntmps22
    go_wp2_with fail
    go_loopg [4, 5] n (fun gk vr vi wr => ∃ j : Nat, j + gk = n ∧ vi = .int .i64 j ∧ vr = .string (str (catB (ps.take j))) ∧ w = wr)
    case atStart => exact ⟨0, by omega, rfl, rfl, rfl⟩
    case round =>
      obtain ⟨j, hjk, rfl, rfl, rfl⟩ := hrel
      by_cases hj : j < n
      · obtain ⟨p, hp⟩ : ∃ p, ps[j]? = some p := ⟨_, List.getElem?_eq_getElem (by have := hn.out; omega)⟩
        obtain ⟨b', off', hab', c0, c1, c2, c3, c4⟩ := ha.out.get j p hp
        cases hab'
        have hcat := cat_next ps j p hp
        have hpb := hbd.out p (List.mem_of_getElem? hp)
        have hsz := catB_size (ps.take j) 1000 (fun q hq => hbd.out q (List.mem_of_mem_take hq))
        rw [List.length_take] at hsz
        generalize hS : str (catB (ps.take j)) = S at hcat hsz ⊢
        replace hS := Lib.hid hS
        replace hcat := Lib.hid hcat
        replace hp := Lib.hid hp
        clear c0 c1 c2 c3
        have hov : ¬ 9223372036854775807 < S.size + p.body.size := by
          have : min j ps.length * 1000 ≤ 1000 * 1000 := Nat.mul_le_mul_right _ (by omega)
          omega
        go_wp2_with fail
        go_roundg (n - (j + 1))
        case measure => omega
        case rel => exact ⟨j + 1, by omega, rfl, congrArg Value.string hcat.out, rfl⟩
      · have e : j = n := by omega
        subst e
        have hfull : ps.take j = ps := List.take_of_length_le (by have := hn.out; omega)
        rw [hfull]
        have hsz := catB_size ps 1000 hbd.out
        rw [← hn.out] at hsz
        clear hfull
        replace hsz := Lib.hid hsz
        go_wp2_with fail
        refine mix_begin (by kernel_rfl) ?_
        have hs0 : Ps w.drew (some ⟨b, off, none⟩) ps := Sl.same ha.out fun _ => rfl
        have q0 : w.drew.cell? ⟨b, off, none⟩ = some (.int .i64 l0.life) := z0.out
        have q1 : w.drew.cell? ⟨b, off + 1, none⟩ = some (.int .i64 l0.place) := z1.out
        have hw' : Below w.heap.size w w.drew := (Below.refl _ _).drew
        generalize w.drew = w0 at hs0 q0 q1 hw' ⊢
        have h0' : Below w0.heap.size w0 w0 := Below.refl _ _
        have k0 : ∀ s : Past w0, s.1.cell? ⟨b, off, none⟩ = some (.int .i64 l0.life) := fun s => s.cell q0
        have k1 : ∀ s : Past w0, s.1.cell? ⟨b, off + 1, none⟩ = some (.int .i64 l0.place) := fun s => s.cell q1
        refine mix_take 0 (v := ?_) rfl (by kernel_rfl) (fun _ _ _ h => h) (by kernel_rfl) (by assumption) (fun s => ?hy) ?_; case hy => (go_simp <;> with_reducible rfl)
        try simp only [Act.put, List.setIfInBounds_toArray, List.set_cons_zero, List.set_cons_succ]
        refine mix_take 1 (v := ?_) rfl (by kernel_rfl) (fun _ _ _ h => h) (by kernel_rfl) (by assumption) (fun s => ?hy) ?_; case hy => (go_simp <;> with_reducible rfl)
        try simp only [Act.put, List.setIfInBounds_toArray, List.set_cons_zero, List.set_cons_succ]
        refine mix_take 2 (v := ?_) rfl (by kernel_rfl) (fun _ _ _ h => h) (by kernel_rfl) (by assumption) (fun s => ?hy) ?_; case hy => (go_simp <;> with_reducible rfl)
        try simp only [Act.put, List.setIfInBounds_toArray, List.set_cons_zero, List.set_cons_succ]
        refine mix_take 3 (v := ?_) rfl (by kernel_rfl) (fun _ _ _ h => h) (by kernel_rfl) (by assumption) (fun s => ?hy) ?_; case hy => (go_simp <;> with_reducible rfl)
        try simp only [Act.put, List.setIfInBounds_toArray, List.set_cons_zero, List.set_cons_succ]
        refine mix_take 4 (v := ?_) rfl (by kernel_rfl) (fun _ _ _ h => h) (by kernel_rfl) (by assumption) (fun s => ?hy) ?_; case hy => (go_simp <;> with_reducible rfl)
        try simp only [Act.put, List.setIfInBounds_toArray, List.set_cons_zero, List.set_cons_succ]
        refine mix_take 5 (v := ?_) rfl (by kernel_rfl) (fun _ _ _ h => h) (by kernel_rfl) (by assumption) (fun s => ?hy) ?_; case hy => (go_simp <;> with_reducible rfl)
        try simp only [Act.put, List.setIfInBounds_toArray, List.set_cons_zero, List.set_cons_succ]
        refine mix_take 6 (v := ?_) rfl (by kernel_rfl) (fun _ _ _ h => h) (by kernel_rfl) (by assumption) (fun s => ?hy) ?_; case hy => (go_simp <;> with_reducible rfl)
        try simp only [Act.put, List.setIfInBounds_toArray, List.set_cons_zero, List.set_cons_succ]
        refine mix_take 7 (v := ?_) rfl (by kernel_rfl) (fun _ _ _ h => h) (by kernel_rfl) (by assumption) (fun s => ?hy) ?_; case hy => (go_simp <;> with_reducible rfl)
        try simp only [Act.put, List.setIfInBounds_toArray, List.set_cons_zero, List.set_cons_succ]
        refine mix_take 8 (v := ?_) rfl (by kernel_rfl) (fun _ _ _ h => h) (by kernel_rfl) (by assumption) (fun s => ?hy) ?_; case hy => (go_simp <;> with_reducible rfl)
        try simp only [Act.put, List.setIfInBounds_toArray, List.set_cons_zero, List.set_cons_succ]
        refine mix_take 10 (v := ?_) rfl (by kernel_rfl) (fun _ _ _ h => h) (by kernel_rfl) (by assumption) (fun s => ?hy) ?_; case hy => (go_simp <;> with_reducible rfl)
        try simp only [Act.put, List.setIfInBounds_toArray, List.set_cons_zero, List.set_cons_succ]
        refine mix_one 9 (by kernel_rfl) rfl (by assumption) (fun K hK => ?_)
        go_simp
        (refine (rcut_any l0.life l0.place _ w0 (by have := hsz.out; omega) hw0.out.1 hw0.out.2).mono ?_; rintro _ w1 ⟨a1, c1, rfl, hs1, hl1, hb1⟩)
        refine hK.out _ _ hb1 fun h1 => ?_
        clear hK K k0 k1
        skip
        refine mix_one 11 (by kernel_rfl) rfl (by assumption) (fun K hK => ?_)
        go_simp
        (refine (pieces_any a1 (some ⟨b, off, none⟩) _ ps _ j c1 cap w1 hs1 (hs0.below hb1) rfl hn.out (cutB_le _ _ _ _ (by have := hsz.out; omega)) (by omega)).mono ?_; rintro _ w2 ⟨bb, rfl, hbb, hb2⟩)
        refine hK.out _ _ hb2 fun h2 => ?_
        clear hK K
        refine mix_take 12 (v := ?_) rfl (by kernel_rfl) (fun _ _ _ h => h) (by kernel_rfl) (by assumption) (fun s => ?hy) ?_; case hy => (go_simp <;> with_reducible rfl)
        try simp only [Act.put, List.setIfInBounds_toArray, List.set_cons_zero, List.set_cons_succ]
        refine wpAnyH_done (by kernel_rfl) ?_ _
        clear h2
        replace hbb := Lib.hid hbb
        go_wp2_with fail
        · go_ret2
          have hx : joinB ps = (str [], false) := by
            rw [joinB, if_neg]
            rw [hiff.out, ← hbb.out]
            simpa using ‹(!bb) = true›
          rw [hx]
          exact ⟨rfl, hw'.trans ((hb1.mono hw'.size).trans (hb2.mono (Nat.le_trans hw'.size hb1.size)))⟩
        · go_ret2
          have hx : joinB ps = (str (catB ps), true) := by
            rw [joinB, if_pos]
            rw [hiff.out, ← hbb.out]
            simpa using ‹(!bb) = false›
          rw [hx]
          exact ⟨rfl, hw'.trans ((hb1.mono hw'.size).trans (hb2.mono (Nat.le_trans hw'.size hb1.size)))⟩

end Go.Proofs.Ytcpkmgmdhjhfaaa
