/- Texts laid together: Grp3 Grp4 Bits. -/
import Derived.Laws.BitsAllLaws
import Derived.Test.YtneolmnpebiifaaGreatDoorM1
import Derived.Test.YtneolmnpebiifaaGreatDoorM3
import Derived.Test.YtneolmnpebiifaaGreatDoorM6
section
/- Groups: one opened, one closed, a card that joins and quits. -/
set_option linter.unusedSimpArgs false
set_option linter.unusedVariables false
namespace Go.Ofp
open Go.RowKit
abbrev Key := Int × List Int
def knos (ks : List Key) : List Int := ks.map (·.1)
theorem nos_keys (gs : List Gr) : nos gs = knos (keys gs) := by simp [nos, knos, keys, Gr.key, Function.comp_def]
/-- What the calls make of groups: an error's number, and the groups. -/
def openK (ks : List Key) (g : Int) : Int × List Key :=
  if g < 0 ∨ 16 ≤ g then (1, []) else if Ids.has (knos ks) g then (7, []) else (0, ks.take (Ids.place (knos ks) g) ++ (g, []) :: ks.drop (Ids.place (knos ks) g))
def closeK (ks : List Key) (g : Int) : Int × List Key :=
  if g < 0 ∨ 16 ≤ g then (1, []) else if Ids.has (knos ks) g then (0, ks.take (Ids.place (knos ks) g) ++ ks.drop (Ids.place (knos ks) g + 1)) else (6, [])
def memAt (ks : List Key) (g : Int) : List Int := (ks.getD (Ids.place (knos ks) g) (0, [])).2
def joinK (ks : List Key) (g id : Int) : Int × List Key :=
  if g < 0 ∨ 16 ≤ g ∨ id < 1 ∨ 1073741824 ≤ id then (1, []) else if Ids.has (knos ks) g then
    (if Ids.has (memAt ks g) id then (7, []) else (0, ks.set (Ids.place (knos ks) g) (g, Ids.put (memAt ks g) id))) else (6, [])
def quitK (ks : List Key) (g id : Int) : Int × List Key :=
  if g < 0 ∨ 16 ≤ g ∨ id < 1 ∨ 1073741824 ≤ id then (1, []) else if Ids.has (knos ks) g then
    (if Ids.has (memAt ks g) id then (0, ks.set (Ids.place (knos ks) g) (g, Ids.drop (memAt ks g) id)) else (6, [])) else (6, [])

section
variable {P : Program} {w w0 : World} {F : List Nat} {L : List Ch} {ops : Array Oper} {rest : List Oper} {o : Oper} {a : Act} {Q : Exit → Act → World → Prop}
/-- A slice of one element of several cells, built. -/
theorem wpList_build1a_st (hS : St w0 F L w) (hgd : o.guard = none) {t : TypeId} {x : Operand} (ho : o.op = .buildSlice t 1 #[(0, x)]) {e : TypeId} (ht : P.underlying t = some (.slice e)) {z : Value} {size bytes : Nat} (he : Elem P e z size bytes)
    {cs : Array Value} (hx : a.eval x = .agg cs) (hv : cs.size = size) (hs : size ≤ 16777216)
    (h : ∀ g w', St w0 F (Ch.blk g e cs :: L) w' → wpList P ops Q rest (a.put o.dst (.slice (some ⟨g, 0, none⟩) 1 1)) w') : wpList P ops Q (o :: rest) a w := by
  refine wpList_plain hgd fun K hK => ?_
  have hr := run_build1 w t e ht he (v := .agg cs) hv hs
  unfold Oper.wp execOp
  simp only [ho, List.map_toArray, List.map_cons, List.map_nil, hx, Sem.run_bind, hr, Result.andThen_ok, Sem.run_pure]
  exact hK _ _ (h _ _ (hS.alloc cs e))
end
end Go.Ofp
namespace Go.Proofs.YtneolmnpebiifaaGreatDoor
open Go.RowKit Go.Ofp
set_option linter.unusedVariables false
set_option maxRecDepth 100000
set_option maxHeartbeats 4000000

theorem deep_nil (w : World) : Deep w none 0 0 [] := ⟨Sl.nil _ _, rfl, Nat.le_refl _, Nat.zero_le _, fun _ => rfl, by simp⟩
theorem build_g (g : Int) (w : World) : (Instr.build 82 #[(0, .int .i64 g)]).run Tryz.prog w = .ok (.agg #[.int .i64 g, .slice none 0 0]) w := by kernel_rfl

end Go.Proofs.YtneolmnpebiifaaGreatDoor
end

section
/- Groups: a card that joins, and quits. -/
set_option linter.unusedSimpArgs false
set_option linter.unusedVariables false
namespace Go.Proofs.YtneolmnpebiifaaGreatDoor
open Go.RowKit Go.Ofp
set_option linter.unusedVariables false
set_option maxRecDepth 100000
set_option maxHeartbeats 4000000

/-- Members that a callee hands back, or an error. -/
def MOut (r : Int × List Int) (w : World) (e : Ending) (w' : World) : Prop := ∃ a c, e = .returned (.tuple #[.slice a r.2.length c, .int .i64 r.1]) ∧ St w [] [irow a c r.2] w'
def joinM (m : List Int) (id : Int) : Int × List Int := if Ids.has m id then (7, []) else (0, Ids.put m id)
def quitM (m : List Int) (id : Int) : Int × List Int := if Ids.has m id then (0, Ids.drop m id) else (6, [])
theorem mOut_err {w w' : World} {e : Int} (hS : St w [] [] w') : MOut (e, []) w (.returned (.tuple #[.slice none 0 0, .int .i64 e])) w' := ⟨none, 0, rfl, hS.nilrow 3 1⟩
/-- What a turn of one group's members makes of the groups. -/
def turnK (ks : List Key) (g id : Int) (f : List Int → Int → Int × List Int) : Int × List Key :=
  if g < 0 ∨ 16 ≤ g ∨ id < 1 ∨ 1073741824 ≤ id then (1, []) else if Ids.has (knos ks) g then
    (if (f (memAt ks g) id).1 = 0 then (0, ks.set (Ids.place (knos ks) g) (g, (f (memAt ks g) id).2)) else ((f (memAt ks g) id).1, [])) else (6, [])
theorem turn_join (ks : List Key) (g id : Int) : turnK ks g id joinM = joinK ks g id := by
  unfold turnK joinK joinM
  by_cases h1 : g < 0 ∨ 16 ≤ g ∨ id < 1 ∨ 1073741824 ≤ id
  · rw [if_pos h1, if_pos h1]
  · rw [if_neg h1, if_neg h1]
    cases Ids.has (knos ks) g <;> cases Ids.has (memAt ks g) id <;> simp
theorem turn_quit (ks : List Key) (g id : Int) : turnK ks g id quitM = quitK ks g id := by
  unfold turnK quitK quitM
  by_cases h1 : g < 0 ∨ 16 ≤ g ∨ id < 1 ∨ 1073741824 ≤ id
  · rw [if_pos h1, if_pos h1]
  · rw [if_neg h1, if_neg h1]
    cases Ids.has (knos ks) g <;> cases Ids.has (memAt ks g) id <;> simp
theorem set_split {α : Type} (l : List α) (p : Nat) (x : α) (h : p < l.length) : l.set p x = l.take p ++ x :: l.drop (p + 1) := by
  rw [List.set_eq_take_append_cons_drop, if_pos h]

theorem join1_any (A : Option Addr) (m : List Int) (C gi : Nat) (id : Int) (w : World) (hs : Sl w A (m.map vi)) (hm : m.length ≤ 10000) (hc : A = none → C = 0) (hu : Ids.Up m) (hi : w.cell? ⟨gi, 0, none⟩ = some (.int .i64 id)) :
    Calls Tryz.prog 123 #[.slice A m.length C, .pointer (some ⟨gi, 0, none⟩)] w (MOut (joinM m id) w) := by
  have hS := St.start w
  have cH := fun W h => has_any A m m.length C id W h rfl (by omega) hu
  have cP := fun W h => put_any A m m.length C id W h rfl hm hc hu
  unfold joinM
  generalize Ids.has m id = hb at cH ⊢
  generalize m.length = n at *
  replace cH := Lib.hid cH
  replace cP := Lib.hid cP
  replace hs := Lib.hid hs
  clear hu hc
  cases hb
  all_goals
    go_enter Tryz.func123, Tryz.ntmps123
    go_wp2_with (first
      | (go_at_call 92; (with_reducible refine (cH.out _ (hS.sl hs.out)).mono ?_); rintro _ _ ⟨rfl, rfl⟩)
      | (go_at_call 124; (with_reducible refine (cP.out _ (hS.sl hs.out)).mono ?_); rintro _ w3 ⟨a3, c3, rfl, h31, h32, hb3⟩; have hS1 := hS.made hb3; clear hS hb3; have hS := hS1; clear hS1))
    go_ret2
    first
      | exact mOut_err hS
      | exact ⟨_, _, rfl, hS⟩

theorem quit1_any (A : Option Addr) (m : List Int) (C gi : Nat) (id : Int) (w : World) (hs : Sl w A (m.map vi)) (hm : m.length ≤ 10000) (hc : A = none → C = 0) (hu : Ids.Up m) (hi : w.cell? ⟨gi, 0, none⟩ = some (.int .i64 id)) :
    Calls Tryz.prog 125 #[.slice A m.length C, .pointer (some ⟨gi, 0, none⟩)] w (MOut (quitM m id) w) := by
  have hS := St.start w
  have cH := fun W h => has_any A m m.length C id W h rfl (by omega) hu
  have cP := fun W h => drop_any A m m.length C id W h rfl hm hc hu
  unfold quitM
  generalize Ids.has m id = hb at cH ⊢
  generalize m.length = n at *
  replace cH := Lib.hid cH
  replace cP := Lib.hid cP
  replace hs := Lib.hid hs
  clear hu hc
  cases hb
  all_goals
    go_enter Tryz.func125, Tryz.ntmps125
    go_wp2_with (first
      | (go_at_call 92; (with_reducible refine (cH.out _ (hS.sl hs.out)).mono ?_); rintro _ _ ⟨rfl, rfl⟩)
      | (go_at_call 117; (with_reducible refine (cP.out _ (hS.sl hs.out)).mono ?_); rintro _ w3 ⟨a3, c3, rfl, h31, h32, hb3⟩; have hS1 := hS.made hb3; clear hS hb3; have hS := hS1; clear hS1))
    go_ret2
    first
      | exact mOut_err hS
      | exact ⟨_, _, rfl, hS⟩

end Go.Proofs.YtneolmnpebiifaaGreatDoor
end

section
/- Sets of small numbers as bits. -/
set_option linter.unusedSimpArgs false
set_option linter.unusedVariables false
namespace Go.Ofp
end Go.Ofp
namespace Go.Proofs.YtneolmnpebiifaaGreatDoor
open Go.RowKit Go.Ofp
set_option linter.unusedVariables false
set_option maxRecDepth 100000
set_option maxHeartbeats 4000000
end Go.Proofs.YtneolmnpebiifaaGreatDoor
end
