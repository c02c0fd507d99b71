/- The walks of pieces: which may be, how many there are, and what lists of pieces are in memory. -/
import Derived.Test.YtcpkmgmdhjhfaaaPieceMath
import Derived.Test.YtcpkmgmdhjhfaaaOpen3
set_option linter.unusedSimpArgs false
set_option linter.unusedVariables false
namespace Go.Proofs.Ytcpkmgmdhjhfaaa
open Go.RowKit Go.Ofp
set_option linter.unusedVariables false
set_option maxRecDepth 100000
set_option maxHeartbeats 4000000

theorem many_any (n : Nat) (w : World) (hn : n ≤ maxLen) : Calls Try.prog 46 #[.int .i64 n] w fun e w' => e = .returned (.int .i64 (manyB n)) ∧ w = w' := by
  unfold maxLen at hn
  rcases manyB_eq n with ⟨h, e⟩ | ⟨h, e⟩
  · rw [e]
    go_enter Try.func46, Try.ntmps46
    go_wp2_with fail
    go_ret
    exact ⟨rfl, rfl⟩
  · rw [e]
    go_enter Try.func46, Try.ntmps46
    go_wp2_with fail
    go_ret
    have e2 : ((n - 1 : Nat) : Int) = (n : Int) - 1 := by omega
    refine ⟨congrArg (fun z => Ending.returned (.int .i64 z)) ?_, rfl⟩
    have e3 : (((n - 1) / 52 + 1 : Nat) : Int) = (n - 1 : Nat) / 52 + 1 := by omega
    rw [e3, e2]
    omega

theorem rmany_any (n : Nat) (w : World) (hn : n ≤ maxLen) : Calls Try.prog 47 #[.int .i64 n] w fun e w' => e = .returned (.int .i64 (manyB n)) ∧ w = w' := by
  unfold maxLen at hn
  rcases manyB_eq n with ⟨h, e⟩ | ⟨h, e⟩
  · rw [e]
    go_enter Try.func47, Try.ntmps47
    go_wp2_with fail
    go_ret
    exact ⟨rfl, rfl⟩
  · rw [e]
    go_enter Try.func47, Try.ntmps47
    go_wp2_with fail
    go_ret
    have e2 : ((n - 1 : Nat) : Int) = (n : Int) - 1 := by omega
    refine ⟨congrArg (fun z => Ending.returned (.int .i64 z)) ?_, rfl⟩
    have e3 : (((n - 1) / 52 + 1 : Nat) : Int) = (n - 1 : Nat) / 52 + 1 := by omega
    rw [e3, e2]

theorem check_any (p : Pc) (w : World) : Calls Try.prog 40 #[p.val] w fun e w' => e = .returned (.bool p.ok) ∧ Below w.heap.size w w' := by
  have hok := Pc.ok_iff p
  generalize p.ok = b at hok ⊢
  obtain ⟨life, place, first, last, body⟩ := p
  simp only [Pc.val, Pc.row] at hok ⊢
  replace hok := Lib.hid hok
  go_enter Try.func40, Try.ntmps40
  go_wp2_with fail
  all_goals
    go_ret
    refine ⟨?_, (Below.refl _ _).alloc (Nat.le_refl _) _⟩
    refine congrArg (fun z => Ending.returned (.bool z)) ?_
    rw [Bool.eq_iff_iff, hok.out]
    simp
    omega

theorem rcheck_any (p : Pc) (w : World) : Calls Try.prog 42 #[p.val] w fun e w' => e = .returned (.bool p.ok) ∧ Below w.heap.size w w' := by
  have hok := Pc.ok_iff p
  generalize p.ok = b at hok ⊢
  obtain ⟨life, place, first, last, body⟩ := p
  simp only [Pc.val, Pc.row] at hok ⊢
  replace hok := Lib.hid hok
  go_enter Try.func42, Try.ntmps42
  go_wp2_with fail
  all_goals
    go_ret
    refine ⟨?_, (Below.refl _ _).alloc (Nat.le_refl _) _⟩
    refine congrArg (fun z => Ending.returned (.bool z)) ?_
    rw [Bool.eq_iff_iff, hok.out]
    simp
    omega

theorem to_any (p : Pc) (w : World) : Calls Try.prog 41 #[p.val] w fun e w' => e = .returned p.val ∧ Below w.heap.size w w' := by
  obtain ⟨life, place, first, last, body⟩ := p
  simp only [Pc.val, Pc.row]
  go_enter Try.func41, Try.ntmps41
  go_wp2_with fail
  refine bodyPost_ret (v := .agg #[.int .i64 life, .int .i64 place, .bool first, .bool last, .string body]) (by simp [results, Try.results41, go_sem]) rfl ⟨rfl, ?_⟩
  exact ((Below.refl _ _).alloc (Nat.le_refl _) _).alloc (by simp) _

theorem from_any (p : Pc) (w : World) : Calls Try.prog 45 #[p.val] w fun e w' => e = .returned p.val ∧ Below w.heap.size w w' := by
  obtain ⟨life, place, first, last, body⟩ := p
  simp only [Pc.val, Pc.row]
  go_enter Try.func45, Try.ntmps45
  go_wp2_with fail
  refine bodyPost_ret (v := .agg #[.int .i64 life, .int .i64 place, .bool first, .bool last, .string body]) (by simp [results, Try.results45, go_sem]) rfl ⟨rfl, ?_⟩
  exact ((Below.refl _ _).alloc (Nat.le_refl _) _).alloc (by simp) _

theorem owns_below {w w' : World} {base e size n : Nat} {v : Value} {xs : List Value} (h : w.ownsRow base e size v n xs) (hb : Below w.heap.size w w') : w'.ownsRow base e size v n xs :=
  owns_kept h fun row => grown_below hb row

/-- A list of pieces in memory. -/
def Ps (w : World) (a : Option Addr) (ps : List Pc) : Prop := Sl w a (ps.map Pc.row).flatten

theorem rows_len (ps : List Pc) : (ps.map Pc.row).flatten.length = ps.length * 5 := by
  induction ps with
  | nil => rfl
  | cons p ps ih => rw [List.map_cons, List.flatten_cons, List.length_append, ih, Pc.row_length, List.length_cons]; omega

theorem rows_one (ps : List Pc) : ∀ u ∈ (ps.map Pc.row).flatten, u.oneCell' = true := by
  intro u hu
  obtain ⟨r, hr, hu⟩ := List.mem_flatten.1 hu
  obtain ⟨p, _, rfl⟩ := List.mem_map.1 hr
  simp only [Pc.row, List.mem_cons, List.not_mem_nil, or_false] at hu
  rcases hu with rfl | rfl | rfl | rfl | rfl <;> rfl

theorem row_one (p : Pc) : ∀ u ∈ p.row, u.oneCell' = true := by
  have := rows_one [p]
  simpa using this

theorem Ps.below {w w' : World} {a : Option Addr} {ps : List Pc} (h : Ps w a ps) (hb : Below w.heap.size w w') : Ps w' a ps := Sl.below h hb

theorem Ps.get {w : World} {a : Option Addr} {ps : List Pc} (h : Ps w a ps) (j : Nat) (p : Pc) (hj : ps[j]? = some p) :
    ∃ b off, a = some ⟨b, off, none⟩ ∧ w.cell? ⟨b, off + j * 5, none⟩ = some (.int .i64 p.life) ∧ w.cell? ⟨b, off + j * 5 + 1, none⟩ = some (.int .i64 p.place) ∧
      w.cell? ⟨b, off + j * 5 + 2, none⟩ = some (.bool p.first) ∧ w.cell? ⟨b, off + j * 5 + 3, none⟩ = some (.bool p.last) ∧ w.cell? ⟨b, off + j * 5 + 4, none⟩ = some (.string p.body) := by
  obtain ⟨hl, rfl⟩ := List.getElem?_eq_some_iff.1 hj
  have hr : Rw w a 5 (ps.map Pc.row) := ⟨h, fun r hr => by obtain ⟨p, _, rfl⟩ := List.mem_map.1 hr; rfl⟩
  obtain ⟨b, off, rfl, hc⟩ := hr.get j (by simpa using hl) (by decide)
  simp only [List.getElem_map] at hc
  refine ⟨b, off, rfl, ?_, ?_, ?_, ?_, ?_⟩
  · exact hc 0 _ rfl
  · exact hc 1 _ rfl
  · exact hc 2 _ rfl
  · exact hc 3 _ rfl
  · exact hc 4 _ rfl

theorem elem_pc : Elem Try.prog 58 (.agg #[.int .i64 0, .int .i64 0, .bool false, .bool false, .string ⟨#[]⟩]) 5 40 := Elem.mk (by kernel_rfl) (by rfl) (by decide)
theorem elem_rpc : Elem Try.prog 34 (.agg #[.int .i64 0, .int .i64 0, .bool false, .bool false, .string ⟨#[]⟩]) 5 40 := Elem.mk (by kernel_rfl) (by rfl) (by decide)

theorem list_any (a : Option Addr) (ps : List Pc) (n cap : Nat) (w : World) (ha : Ps w a ps) (hn : n = ps.length) (hn1 : n ≤ 100000) :
    Calls Try.prog 21 #[.slice a n cap] w fun e w' => ∃ v, e = .returned v ∧ w'.ownsRow w.heap.size 58 5 v n (ps.map Pc.row).flatten ∧ Below w.heap.size w w' := by
  replace ha := Lib.hid ha
  replace hn := Lib.hid hn
  go_enter Try.func21, Try.ntmps21
  go_wp2_with fail
  go_loopg [3, 4] n (fun gk v i wr => ∃ j : Nat, j + gk = n ∧ i = .int .i64 j ∧ wr.ownsRow w.heap.size 58 5 v j ((ps.take j).map Pc.row).flatten ∧ Below w.heap.size w wr)
  case atStart => exact ⟨0, by omega, rfl, World.ownsRow_lit w #[] 0 (Nat.le_refl _) (by unfold maxLen; omega) rfl, (Below.refl _ _).alloc (Nat.le_refl _) _⟩
  case round =>
    obtain ⟨j, hjk, rfl, ho, hb⟩ := hrel
    by_cases hj : j < n
    · obtain ⟨p, hp⟩ : ∃ p, ps[j]? = some p := ⟨_, List.getElem?_eq_getElem (by have := hn.out; omega)⟩
      obtain ⟨b, off, hab, c0, c1, c2, c3, c4⟩ := (ha.out.below hb).get j p hp
      subst hab
      have hnext : ((ps.take j).map Pc.row).flatten ++ p.row = ((ps.take (j + 1)).map Pc.row).flatten := by
        rw [List.take_add_one, hp, Option.toList_some, List.map_append, List.flatten_append]
        simp
      replace ho := Lib.hid ho
      replace hp := Lib.hid hp
      replace hnext := Lib.hid hnext
      go_wp2_with (first
        | (go_at_call 41; refine (to_any p _).mono ?_; rintro _ w1 ⟨rfl, hb1⟩; simp only [Pc.val, Pc.row])
        | (at_builtin; refine wpList_app (s := .tmp 12) (x := .tmp 18) (base := w.heap.size) rfl rfl Try.underlying37 elem_pc ((owns_below ho.out hb1).alloc _) rfl (Src.slice Try.underlying37 (Sl.new _ _ _ _) (by simp)) rfl (row_one p) (by omega) (by unfold maxLen; omega) (by have := hb.size; have := hb1.size; simp; omega) ?_; intro v' w' ho' hb' hg' hv'))
      go_roundg (n - (j + 1))
      case measure => omega
      case rel =>
        refine ⟨j + 1, by omega, rfl, ?_, hb.trans ((hb1.mono hb.size).trans (Below.trans ((Below.refl _ _).alloc (Nat.le_trans hb.size hb1.size) _) hb'))⟩
        rw [← hnext.out]
        exact ho'
    · have e : j = n := by omega
      subst e
      go_wp2_with fail
      go_ret
      refine ⟨_, rfl, ?_, hb⟩
      have := ho
      rw [List.take_of_length_le (by have := hn.out; omega)] at this
      exact this

theorem back_any (a : Option Addr) (ps : List Pc) (n cap : Nat) (w : World) (ha : Ps w a ps) (hn : n = ps.length) (hn1 : n ≤ 100000) :
    Calls Try.prog 24 #[.slice a n cap] w fun e w' => ∃ v, e = .returned v ∧ w'.ownsRow w.heap.size 34 5 v n (ps.map Pc.row).flatten ∧ Below w.heap.size w w' := by
  replace ha := Lib.hid ha
  replace hn := Lib.hid hn
  go_enter Try.func24, Try.ntmps24
  go_wp2_with fail
  go_loopg [3, 4] n (fun gk v i wr => ∃ j : Nat, j + gk = n ∧ i = .int .i64 j ∧ wr.ownsRow w.heap.size 34 5 v j ((ps.take j).map Pc.row).flatten ∧ Below w.heap.size w wr)
  case atStart => exact ⟨0, by omega, rfl, World.ownsRow_lit w #[] 0 (Nat.le_refl _) (by unfold maxLen; omega) rfl, (Below.refl _ _).alloc (Nat.le_refl _) _⟩
  case round =>
    obtain ⟨j, hjk, rfl, ho, hb⟩ := hrel
    by_cases hj : j < n
    · obtain ⟨p, hp⟩ : ∃ p, ps[j]? = some p := ⟨_, List.getElem?_eq_getElem (by have := hn.out; omega)⟩
      obtain ⟨b, off, hab, c0, c1, c2, c3, c4⟩ := (ha.out.below hb).get j p hp
      subst hab
      have hnext : ((ps.take j).map Pc.row).flatten ++ p.row = ((ps.take (j + 1)).map Pc.row).flatten := by
        rw [List.take_add_one, hp, Option.toList_some, List.map_append, List.flatten_append]
        simp
      replace ho := Lib.hid ho
      replace hp := Lib.hid hp
      replace hnext := Lib.hid hnext
      go_wp2_with (first
        | (go_at_call 45; refine (from_any p _).mono ?_; rintro _ w1 ⟨rfl, hb1⟩; simp only [Pc.val, Pc.row])
        | (at_builtin; refine wpList_app (s := .tmp 12) (x := .tmp 18) (base := w.heap.size) rfl rfl Try.underlying32 elem_rpc ((owns_below ho.out hb1).alloc _) rfl (Src.slice Try.underlying32 (Sl.new _ _ _ _) (by simp)) rfl (row_one p) (by omega) (by unfold maxLen; omega) (by have := hb.size; have := hb1.size; simp; omega) ?_; intro v' w' ho' hb' hg' hv'))
      go_roundg (n - (j + 1))
      case measure => omega
      case rel =>
        refine ⟨j + 1, by omega, rfl, ?_, hb.trans ((hb1.mono hb.size).trans (Below.trans ((Below.refl _ _).alloc (Nat.le_trans hb.size hb1.size) _) hb'))⟩
        rw [← hnext.out]
        exact ho'
    · have e : j = n := by omega
      subst e
      go_wp2_with fail
      go_ret
      refine ⟨_, rfl, ?_, hb⟩
      have := ho
      rw [List.take_of_length_le (by have := hn.out; omega)] at this
      exact this


end Go.Proofs.Ytcpkmgmdhjhfaaa
