import Derived.Laws.BitsAllLaws
import Derived.Test.YtneolmnpebiifaaGreatDoorM6
set_option linter.unusedVariables false
set_option linter.unusedSimpArgs false
set_option maxRecDepth 100000
section
namespace Go.Ofp
open Go.RowKit
abbrev Key := Int × List Int
def knos (ks : List Key) : List Int := ks.map (·.1)
theorem nos_keys (gs : List Gr) : nos gs = knos (keys gs) := by simp [nos, knos, keys, Gr.key, Function.comp_def]
def openK (ks : List Key) (g : Int) : Int × List Key :=
 if g < 0 ∨ 16 ≤ g then (1, []) else if Ids.has (knos ks) g then (7, []) else (0, ks.take (Ids.place (knos ks) g) ++ (g, []) :: ks.drop (Ids.place (knos ks) g))
def closeK (ks : List Key) (g : Int) : Int × List Key :=
 if g < 0 ∨ 16 ≤ g then (1, []) else if Ids.has (knos ks) g then (0, ks.take (Ids.place (knos ks) g) ++ ks.drop (Ids.place (knos ks) g + 1)) else (6, [])
def memAt (ks : List Key) (g : Int) : List Int := (ks.getD (Ids.place (knos ks) g) (0, [])).2
def joinK (ks : List Key) (g id : Int) : Int × List Key :=
 if g < 0 ∨ 16 ≤ g ∨ id < 1 ∨ 1073741824 ≤ id then (1, []) else if Ids.has (knos ks) g then
  (if Ids.has (memAt ks g) id then (7, []) else (0, ks.set (Ids.place (knos ks) g) (g, Ids.put (memAt ks g) id))) else (6, [])
def quitK (ks : List Key) (g id : Int) : Int × List Key :=
 if g < 0 ∨ 16 ≤ g ∨ id < 1 ∨ 1073741824 ≤ id then (1, []) else if Ids.has (knos ks) g then
  (if Ids.has (memAt ks g) id then (0, ks.set (Ids.place (knos ks) g) (g, Ids.drop (memAt ks g) id)) else (6, [])) else (6, [])
section
variable {P : Program} {w w0 : World} {F : List Nat} {L : List Ch} {ops : Array Oper} {rest : List Oper} {o : Oper} {a : Act} {Q : Exit → Act → World → Prop}
theorem wpList_build1a_st (hS : St w0 F L w) (hgd : o.guard = none) {t : TypeId} {x : Operand} (ho : o.op = .buildSlice t 1 #[(0, x)]) {e : TypeId} (ht : P.underlying t = some (.slice e)) {z : Value} {size bytes : Nat} (he : Elem P e z size bytes)
 {cs : Array Value} (hx : a.eval x = .agg cs) (hv : cs.size = size) (hs : size ≤ 16777216)
 (h : ∀ g w', St w0 F (Ch.blk g e cs :: L) w' → wpList P ops Q rest (a.put o.dst (.slice (some ⟨g, 0, none⟩) 1 1)) w') : wpList P ops Q (o :: rest) a w := by
 refine wpList_plain hgd fun K hK => ?_
 have hr := run_build1 w t e ht he (v := .agg cs) hv hs
 unfold Oper.wp execOp
 simp only [ho, List.map_toArray, List.map_cons, List.map_nil, hx, Sem.run_bind, hr, Result.andThen_ok, Sem.run_pure]
 exact hK _ _ (h _ _ (hS.alloc cs e))
end
end Go.Ofp
namespace Go.Proofs.YtneolmnpebiifaaGreatDoor
open Go.RowKit Go.Ofp
set_option maxHeartbeats 4000000
theorem deep_nil (w : World) : Deep w none 0 0 [] := ⟨Sl.nil _ _, rfl, Nat.le_refl _, Nat.zero_le _, fun _ => rfl, by simp⟩
theorem build_g (g : Int) (w : World) : (Instr.build 82 #[(0, .int .i64 g)]).run Tryz.prog w = .ok (.agg #[.int .i64 g, .slice none 0 0]) w := by kernel_rfl
end Go.Proofs.YtneolmnpebiifaaGreatDoor
end
section
namespace Go.Proofs.YtneolmnpebiifaaGreatDoor
open Go.RowKit Go.Ofp
set_option maxHeartbeats 4000000
def MOut (r : Int × List Int) (w : World) (e : Ending) (w' : World) : Prop := ∃ a c, e = .returned (.tuple #[.slice a r.2.length c, .int .i64 r.1]) ∧ St w [] [irow a c r.2] w'
def joinM (m : List Int) (id : Int) : Int × List Int := if Ids.has m id then (7, []) else (0, Ids.put m id)
def quitM (m : List Int) (id : Int) : Int × List Int := if Ids.has m id then (0, Ids.drop m id) else (6, [])
theorem mOut_err {w w' : World} {e : Int} (hS : St w [] [] w') : MOut (e, []) w (.returned (.tuple #[.slice none 0 0, .int .i64 e])) w' := ⟨none, 0, rfl, hS.nilrow 3 1⟩
def turnK (ks : List Key) (g id : Int) (f : List Int → Int → Int × List Int) : Int × List Key :=
 if g < 0 ∨ 16 ≤ g ∨ id < 1 ∨ 1073741824 ≤ id then (1, []) else if Ids.has (knos ks) g then
  (if (f (memAt ks g) id).1 = 0 then (0, ks.set (Ids.place (knos ks) g) (g, (f (memAt ks g) id).2)) else ((f (memAt ks g) id).1, [])) else (6, [])
theorem turn_join (ks : List Key) (g id : Int) : turnK ks g id joinM = joinK ks g id := by
 unfold turnK joinK joinM
 by_cases h1 : g < 0 ∨ 16 ≤ g ∨ id < 1 ∨ 1073741824 ≤ id
 · rw [if_pos h1, if_pos h1]
 · rw [if_neg h1, if_neg h1]
   cases Ids.has (knos ks) g <;> cases Ids.has (memAt ks g) id <;> simp
theorem turn_quit (ks : List Key) (g id : Int) : turnK ks g id quitM = quitK ks g id := by
 unfold turnK quitK quitM
 by_cases h1 : g < 0 ∨ 16 ≤ g ∨ id < 1 ∨ 1073741824 ≤ id
 · rw [if_pos h1, if_pos h1]
 · rw [if_neg h1, if_neg h1]
   cases Ids.has (knos ks) g <;> cases Ids.has (memAt ks g) id <;> simp
theorem set_split {α : Type} (l : List α) (p : Nat) (x : α) (h : p < l.length) : l.set p x = l.take p ++ x :: l.drop (p + 1) := by
 rw [List.set_eq_take_append_cons_drop, if_pos h]
theorem join1_any (A : Option Addr) (m : List Int) (C gi : Nat) (id : Int) (w : World) (hs : Sl w A (m.map vi)) (hm : m.length ≤ 10000) (hc : A = none → C = 0) (hu : Ids.Up m) (hi : w.cell? ⟨gi, 0, none⟩ = some (.int .i64 id)) :
 Calls Tryz.prog 123 #[.slice A m.length C, .pointer (some ⟨gi, 0, none⟩)] w (MOut (joinM m id) w) := by
 have hS := St.start w
 have cH := fun W h => has_any A m m.length C id W h rfl (by omega) hu
 have cP := fun W h => put_any A m m.length C id W h rfl hm hc hu
 unfold joinM
 generalize Ids.has m id = hb at cH ⊢
 generalize m.length = n at *
 replace cH := Lib.hid cH
 replace cP := Lib.hid cP
 replace hs := Lib.hid hs
 clear hu hc
 cases hb
 all_goals
  go_enter Tryz.func123, Tryz.ntmps123
  go_wp2_with (first | (go_at_call 92; (with_reducible refine (cH.out _ (hS.sl hs.out)).mono ?_); rintro _ _ ⟨rfl, rfl⟩) | (go_at_call 124; (with_reducible refine (cP.out _ (hS.sl hs.out)).mono ?_); rintro _ w3 ⟨a3, c3, rfl, h31, h32, hb3⟩; have hS1 := hS.made hb3; clear hS hb3; have hS := hS1; clear hS1))
  go_ret2
  first
   | exact mOut_err hS
   | exact ⟨_, _, rfl, hS⟩
theorem quit1_any (A : Option Addr) (m : List Int) (C gi : Nat) (id : Int) (w : World) (hs : Sl w A (m.map vi)) (hm : m.length ≤ 10000) (hc : A = none → C = 0) (hu : Ids.Up m) (hi : w.cell? ⟨gi, 0, none⟩ = some (.int .i64 id)) :
 Calls Tryz.prog 125 #[.slice A m.length C, .pointer (some ⟨gi, 0, none⟩)] w (MOut (quitM m id) w) := by
 have hS := St.start w
 have cH := fun W h => has_any A m m.length C id W h rfl (by omega) hu
 have cP := fun W h => drop_any A m m.length C id W h rfl hm hc hu
 unfold quitM
 generalize Ids.has m id = hb at cH ⊢
 generalize m.length = n at *
 replace cH := Lib.hid cH
 replace cP := Lib.hid cP
 replace hs := Lib.hid hs
 clear hu hc
 cases hb
 all_goals
  go_enter Tryz.func125, Tryz.ntmps125
  go_wp2_with (first | (go_at_call 92; (with_reducible refine (cH.out _ (hS.sl hs.out)).mono ?_); rintro _ _ ⟨rfl, rfl⟩) | (go_at_call 117; (with_reducible refine (cP.out _ (hS.sl hs.out)).mono ?_); rintro _ w3 ⟨a3, c3, rfl, h31, h32, hb3⟩; have hS1 := hS.made hb3; clear hS hb3; have hS := hS1; clear hS1))
  go_ret2
  first
   | exact mOut_err hS
   | exact ⟨_, _, rfl, hS⟩
end Go.Proofs.YtneolmnpebiifaaGreatDoor
end
section
namespace Go.Ofp
theorem or_new (s n : Nat) (hs : s < 4294967296) (hn : n < 32) (h : s.testBit n = false) : s ||| 2 ^ n = s + 2 ^ n := by
 have hp : 2 ^ n ≤ 2 ^ 31 := Nat.pow_le_pow_right (by decide) (by omega)
 have hd : BitVec.ofNat 64 s &&& BitVec.ofNat 64 (2 ^ n) = 0#64 := by
  apply BitVec.eq_of_getLsbD_eq
  intro i hi
  simp only [BitVec.getLsbD_and, BitVec.getLsbD_ofNat, Nat.testBit_two_pow, BitVec.getLsbD_zero]
  by_cases e : n = i
  · subst e; simp [h]
  · simp [e]
 have ha := BitVec.add_eq_or_of_and_eq_zero _ _ hd
 have ha' := congrArg BitVec.toNat ha
 rw [BitVec.toNat_add, BitVec.toNat_or, BitVec.toNat_ofNat, BitVec.toNat_ofNat, Nat.mod_eq_of_lt (show s < 2 ^ 64 by omega), Nat.mod_eq_of_lt (show 2 ^ n < 2 ^ 64 by omega), Nat.mod_eq_of_lt (by omega)] at ha'
 exact ha'.symm
theorem or_old (s n : Nat) (h : s.testBit n = true) : s ||| 2 ^ n = s := by
 apply Nat.eq_of_testBit_eq
 intro i
 rw [Nat.testBit_or, Nat.testBit_two_pow]
 by_cases e : n = i
 · subst e; simp [h]
 · simp [e]
theorem or_lt (s n : Nat) (hs : s < 4294967296) (hn : n < 32) : s ||| 2 ^ n < 4294967296 := by
 have hp : 2 ^ n ≤ 2 ^ 31 := Nat.pow_le_pow_right (by decide) (by omega)
 have : s ||| 2 ^ n < 2 ^ 32 := Nat.or_lt_two_pow (by omega) (by omega)
 omega
end Go.Ofp
namespace Go.Proofs.YtneolmnpebiifaaGreatDoor
open Go.RowKit Go.Ofp
set_option maxHeartbeats 4000000
theorem bit_any (n : Nat) (w : World) (h : n < 32) : Calls Tryz.prog 140 #[.int .i64 n] w fun e w' => e = .returned (.int .u32 ((2 : Int) ^ n)) ∧ w = w' := by
 have d1 : decide ((n : Int) < 0) = false := decide_eq_false (by omega)
 have d2 : decide ((31 : Int) < (n : Int)) = false := decide_eq_false (by omega)
 have hp : 2 ^ n ≤ 2 ^ 31 := Nat.pow_le_pow_right (by decide) (by omega)
 have e : (2 : Int) ^ n % 4294967296 = 2 ^ n := by
  have h1 : ((2 ^ n : Nat) : Int) = (2 : Int) ^ n := by simp
  have h2 : ((2 ^ n : Nat) : Int) % 4294967296 = ((2 ^ n : Nat) : Int) := Int.emod_eq_of_lt (Int.natCast_nonneg _) (by omega)
  rw [h1] at h2
  exact h2
 go_enter Tryz.func140, Tryz.ntmps140
 go_wp2_with fail
 go_ret
 exact ⟨rfl, rfl⟩
theorem with_any (s : Nat) (n : Nat) (w : World) (h : n < 32) (hs : s < 4294967296) : Calls Tryz.prog 93 #[.int .u32 s, .int .i64 n] w fun e w' => e = .returned (.int .u32 ((s ||| 2 ^ n : Nat) : Int)) ∧ w = w' := by
 have hp : 2 ^ n ≤ 2 ^ 31 := Nat.pow_le_pow_right (by decide) (by omega)
 have e : bits .or .u32 (s : Int) ((2 : Int) ^ n) = ((s ||| 2 ^ n : Nat) : Int) := by
  have := u32_or_nat s (2 ^ n) hs (by omega)
  rw [← this]
  simp
 replace e := Lib.hid e
 go_enter Tryz.func93, Tryz.ntmps93
 go_wp2_with (go_at_call 140; (with_reducible refine (bit_any _ _ h).mono ?_); rintro _ _ ⟨rfl, rfl⟩)
 go_ret
 exact ⟨by rw [← e.out]; rfl, rfl⟩
theorem rhasb_any (s n : Nat) (w : World) (h : n < 32) (hs : s < 4294967296) : Calls Tryz.prog 94 #[.int .u32 s, .int .i64 n] w fun e w' => e = .returned (.bool (s.testBit n)) ∧ w = w' := by
 have d1 : decide ((n : Int) < 0) = false := decide_eq_false (by omega)
 have d2 : decide ((31 : Int) < (n : Int)) = false := decide_eq_false (by omega)
 go_enter Tryz.func94, Tryz.ntmps94
 go_wp2_with fail
 clear d1 d2
 go_loopg [0, 5] n (fun gk vs vx wr => ∃ k q : Nat, k + gk = n ∧ vx = .int .i64 k ∧ vs = .int .u32 q ∧ q < 4294967296 ∧ Hid (q = s / 2 ^ k) ∧ w = wr)
 case atStart => exact ⟨0, s, Nat.zero_add _, rfl, rfl, hs, Lib.hid (by simp), rfl⟩
 case round =>
  obtain ⟨k, q, hk, rfl, rfl, hq, hr, rfl⟩ := hrel
  by_cases hlt : k < n
  · go_wp2_with fail
    go_roundg (n - (k + 1))
    case measure => omega
    case rel => exact ⟨k + 1, q / 2, by omega, by go_num, rfl, by omega, Lib.hid (by rw [hr.out, Nat.pow_succ, Nat.div_div_eq_div_mul]), rfl⟩
  · obtain rfl : k = n := by omega
    have e : s.testBit k = decide (q % 2 = 1) := by rw [hr.out, Nat.testBit_eq_decide_div_mod_eq]
    clear hr
    rcases Nat.mod_two_eq_zero_or_one q with h2 | h2
    · have h3 : (q : Int) % 2 = 0 := by omega
      rw [h2] at e
      replace e := Lib.hid e
      clear h2
      go_wp2_with fail
      go_ret
      exact ⟨by rw [e.out]; rfl, rfl⟩
    · have h3 : (q : Int) % 2 = 1 := by omega
      rw [h2] at e
      replace e := Lib.hid e
      clear h2
      go_wp2_with fail
      go_ret
      exact ⟨by rw [e.out]; rfl, rfl⟩
theorem rone_any (n : Nat) (w : World) (h : n < 32) : Calls Tryz.prog 95 #[.int .i64 n] w fun e w' => e = .returned (.int .u32 ((2 ^ n : Nat) : Int)) ∧ w = w' := by
 have d1 : decide ((n : Int) < 0) = false := decide_eq_false (by omega)
 have d2 : decide ((31 : Int) < (n : Int)) = false := decide_eq_false (by omega)
 go_enter Tryz.func95, Tryz.ntmps95
 go_wp2_with fail
 clear d1 d2
 go_loopg [3, 4] n (fun gk vs vx wr => ∃ k q : Nat, k + gk = n ∧ vx = .int .i64 k ∧ vs = .int .u32 q ∧ q ≤ 2147483648 ∧ Hid (q = 2 ^ k) ∧ w = wr)
 case atStart => exact ⟨0, 1, Nat.zero_add _, rfl, rfl, by omega, Lib.hid rfl, rfl⟩
 case round =>
  obtain ⟨k, q, hk, rfl, rfl, hq, hr, rfl⟩ := hrel
  by_cases hlt : k < n
  · have hq2 : q ≤ 1073741824 := by
     rw [hr.out]
     have : 2 ^ k ≤ 2 ^ 30 := Nat.pow_le_pow_right (by decide) (by omega)
     omega
    go_wp2_with fail
    go_roundg (n - (k + 1))
    case measure => omega
    case rel => exact ⟨k + 1, q * 2, by omega, by go_num, by go_num, by omega, Lib.hid (by rw [hr.out, Nat.pow_succ]), rfl⟩
  · obtain rfl : k = n := by omega
    go_wp2_with fail
    go_ret
    exact ⟨by rw [← hr.out]; rfl, rfl⟩
theorem rwith_any (s n : Nat) (w : World) (h : n < 32) (hs : s < 4294967296) : Calls Tryz.prog 53 #[.int .u32 s, .int .i64 n] w fun e w' => e = .returned (.int .u32 ((s ||| 2 ^ n : Nat) : Int)) ∧ w = w' := by
 have cH := Lib.hid (fun W : World => rhasb_any s n W h hs)
 have cO := Lib.hid (fun W : World => rone_any n W h)
 have hp : 2 ^ n ≤ 2 ^ 31 := Nat.pow_le_pow_right (by decide) (by omega)
 cases hb : s.testBit n with
 | true =>
  rw [or_old s n hb]
  rw [hb] at cH
  clear hb hp
  go_enter Tryz.func53, Tryz.ntmps53
  go_wp2_with (go_at_call 94; (with_reducible refine (cH.out _).mono ?_); rintro _ _ ⟨rfl, rfl⟩)
  go_ret
  exact ⟨rfl, rfl⟩
 | false =>
  have e := or_new s n hs h hb
  have hl := or_lt s n hs h
  rw [e] at hl ⊢
  rw [hb] at cH
  clear hb
  generalize 2 ^ n = q at *
  go_enter Tryz.func53, Tryz.ntmps53
  go_wp2_with (first | (go_at_call 94; (with_reducible refine (cH.out _).mono ?_); rintro _ _ ⟨rfl, rfl⟩) | (go_at_call 95; (with_reducible refine (cO.out _).mono ?_); rintro _ _ ⟨rfl, rfl⟩))
  go_ret
  exact ⟨by simp, rfl⟩
end Go.Proofs.YtneolmnpebiifaaGreatDoor
end
