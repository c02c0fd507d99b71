/- Texts laid together: Grp9. -/
import Derived.Test.YtneolmnpebiifaaGreatDoorM19
import Derived.Test.YtneolmnpebiifaaGreatDoorM4
section
/- Groups: the document's calls: one turned, a card that joins and quits, one opened, one closed. -/
set_option linter.unusedSimpArgs false
set_option linter.unusedVariables false
namespace Go.Proofs.YtneolmnpebiifaaGreatDoor
open Go.RowKit Go.Ofp
set_option linter.unusedVariables false
set_option maxRecDepth 100000
set_option maxHeartbeats 4000000

theorem build_g2 (g : Int) (A : Option Addr) (N C : Nat) (w : World) : (Instr.build 82 #[(0, .int .i64 g), (1, .slice A N C)]).run Tryz.prog w = .ok (.agg #[.int .i64 g, .slice A N C]) w := by kernel_rfl

theorem wpList_build2 {P : Program} {w : World} {ops : Array Oper} {rest : List Oper} {o : Oper} {a : Act} {Q : Exit → Act → World → Prop} (hgd : o.guard = none) {t k1 k2 : Nat} {x1 x2 : Operand} (ho : o.op = .build t #[(k1, x1), (k2, x2)]) (v1 v2 : Value) (hx1 : a.eval x1 = v1) (hx2 : a.eval x2 = v2) {u : Value} (hr : ∀ w : World, (Instr.build t #[(k1, v1), (k2, v2)]).run P w = .ok u w)
    (h : wpList P ops Q rest (a.put o.dst u) w) : wpList P ops Q (o :: rest) a w := by
  refine wpList_plain hgd fun K hK => ?_
  unfold Oper.wp execOp
  simp only [ho, List.map_toArray, List.map_cons, List.map_nil, hx1, hx2, Sem.run_bind, hr, Result.andThen_ok, Sem.run_pure]
  exact hK _ _ h

theorem rgturn_any (a : Option Addr) (gs : List Gr) (n cap p : Nat) (A : Option Addr) (N C : Nat) (w : World) (hD : Deep w a n cap gs) (hm : n ≤ 1000) (hp : p < gs.length) :
    Calls Tryz.prog 161 #[.slice a n cap, .int .i64 p, .slice A N C] w (GRowRet (grows (gs.take p) ++ [.int .i64 gs[p].no, .slice A N C] ++ grows (gs.drop (p + 1))) n w) := by
  have hS := St.start w
  have hlen := hD.len
  have hpn : p < n := by omega
  obtain ⟨b, off, rfl, c0, -⟩ := hD.get p hp
  have hsl := hD.sl
  have hgl := grows_len gs
  have hone := grows_one gs
  have hfin : (grows gs).take (p * 2) ++ [.int .i64 gs[p].no, .slice A N C] ++ (grows gs).drop (p * 2 + 2) = grows (gs.take p) ++ [.int .i64 gs[p].no, .slice A N C] ++ grows (gs.drop (p + 1)) := by
    rw [grows_take, show p * 2 + 2 = (p + 1) * 2 by omega, grows_drop]
  rw [← hfin]
  rw [hlen] at hgl
  generalize gs[p].no = g at c0
  clear hfin hlen hD
  generalize grows gs = xs at *
  replace hsl := Lib.hid hsl
  replace hgl := Lib.hid hgl
  replace c0 := Lib.hid c0
  go_enter Tryz.func161, Tryz.ntmps161
  go_wp2_with (first
    | ((with_reducible refine wpList_build0_st hS rfl rfl Tryz.underlying29 elem_g ?_); intro g1 w3 hS1; clear hS; have hS := hS1; clear hS1)
    | (at_builtin; ((with_reducible refine wpList_app_st 0 hS rfl rfl rfl Tryz.underlying29 elem_g rfl (Src.slice Tryz.underlying29 (hS.sl hsl.out) hgl.out) rfl hone (by omega) (by unfold maxLen; omega) ?_); intro v5 w3 hS1; clear hS; simp only [List.set_cons_zero, Nat.zero_add, List.nil_append] at hS1; have hS := hS1; clear hS1; obtain ⟨g5, c5, rfl, -⟩ := hS.rowat 0 rfl (by omega); have hcell := hS.old c0.out (by simp)))
    | ((with_reducible refine wpList_build2 rfl rfl (.int .i64 g) (.slice A N C) rfl rfl (build_g2 g A N C) ?_); clear hcell)
    | ((with_reducible refine wpList_storeelem_st 0 p (vs := [.int .i64 g, .slice A N C]) hS rfl rfl rfl rfl rfl (by kernel_rfl) rfl rfl rfl hpn ?_); intro w4 hS1; clear hS; simp only [List.set_cons_zero] at hS1; have hS := hS1; clear hS1))
  go_ret
  exact ⟨_, _, rfl, hS⟩

end Go.Proofs.YtneolmnpebiifaaGreatDoor
end
