/- Texts laid together: RsbQ. -/
import Derived.Test.YtneolmnpebiifaaGreatDoorM35
import Derived.Test.YtneolmnpebiifaaGreatDoorM39
import Derived.Test.YtneolmnpebiifaaGreatDoorM45
import Derived.Test.YtneolmnpebiifaaGreatDoorM46
section
/- The reference's shelf within its book: Add, Write, Drop, Trim told alike. -/
set_option linter.unusedSimpArgs false
set_option linter.unusedVariables false
namespace Go.Proofs.YtneolmnpebiifaaGreatDoor
open Go.RowKit Go.Ofp
set_option linter.unusedVariables false
/-- The reference's book, in cells. -/
abbrev rbC (g : Nat) (q v : Value) (s : ShS) (ca : Option Addr) (cc : Nat) (da : Option Addr) (dc : Nat) : Ch := Ch.blk g 53 #[q, .int .i64 s.next, .slice ca s.m.length cc, .slice da s.dead.length dc, v]
theorem rbC_eq (g : Nat) (q v : Value) (s : ShS) (ca : Option Addr) (cc : Nat) (da : Option Addr) (dc : Nat) : rbB g q v (rsRow s ca cc da dc) = rbC g q v s ca cc da dc := rfl
/-- What a call of the reference's shelf leaves. -/
def RsQ (g : Nat) (q v : Value) (s s' : ShS) (ca : Option Addr) (cc : Nat) (da : Option Addr) (dc : Nat) (w w' : World) : Prop := ∃ ca' cc' da' dc' L', St w [g] (rbC g q v s' ca' cc' da' dc' :: L') w' ∧ RsK s s' ca cc da dc ca' cc' da' dc' L'
theorem RsCb.rsq {g : Nat} {q v : Value} {s s' : ShS} {ca : Option Addr} {cc : Nat} {da : Option Addr} {dc : Nat} {w w' : World} (h : RsCb g q v s s' ca cc da dc w w') (hd : s'.dead = s.dead) (hm : ∀ x ∈ s'.m, x.f.length = 8) : RsQ g q v s s' ca cc da dc w w' := by
  obtain ⟨ca', cc', L', hS, ⟨rfl, h2, rfl, rfl⟩ | rfl⟩ := h
  · refine ⟨_, _, da, dc, [], hS, fun w0 F A B W _ => ⟨fun h => ?_, fun h => ?_⟩⟩
    · unfold LC at h ⊢; rw [h2]; exact h
    · unfold LD at h ⊢; rw [hd]; exact h
  · exact ⟨_, _, da, dc, _, hS, RsK.cards hd hm⟩
theorem rsadd_q (g : Nat) (q v : Value) (s : ShS) (ca : Option Addr) (cc : Nat) (da : Option Addr) (dc : Nat) (p : Pt) (hp : PtIn p) (hok : ShOk s) (w : World) (hS : St w [g] [rbC g q v s ca cc da dc] w) (hl : ∀ W, Fr [g] w W → LC W s ca cc) :
    Calls Tryz.prog 83 #[.pointer (some ⟨g, 1, none⟩), .agg (ptRow p).toArray] w fun e w' => e = .returned (sgV (s.add p).2) ∧ RsQ g q v s (s.add p).1 ca cc da dc w w' := by
  have hn := hok.next
  refine (rsadd_b g q v s ca cc da dc p hp w hS hl ⟨by omega, by omega⟩).mono ?_
  rintro e w' ⟨h1, h2⟩
  exact ⟨h1, h2.rsq (add_dead s p) (hok.add p hp.lab).fl⟩
theorem rswrite_q (g : Nat) (q v : Value) (s : ShS) (ca : Option Addr) (cc : Nat) (da : Option Addr) (dc : Nat) (id : Int) (p : Pt) (hp : PtIn p) (hok : ShOk s) (w : World) (hS : St w [g] [rbC g q v s ca cc da dc] w) (hl : ∀ W, Fr [g] w W → LC W s ca cc) (hd : ∀ W, Fr [g] w W → LD W s da dc) :
    Calls Tryz.prog 84 #[.pointer (some ⟨g, 1, none⟩), .int .i64 id, .agg (ptRow p).toArray] w fun e w' => e = .returned (sgV (s.write id p).2) ∧ RsQ g q v s (s.write id p).1 ca cc da dc w w' := by
  refine (rswrite_b g q v s ca cc da dc id p hp w hS hl hd hok).mono ?_
  rintro e w' ⟨h1, h2⟩
  exact ⟨h1, h2.rsq (write_dead s id p) (hok.write id p hp.lab).fl⟩
theorem rsdrop_q (g : Nat) (q v : Value) (s : ShS) (ca : Option Addr) (cc : Nat) (da : Option Addr) (dc : Nat) (id sq : Int) (hq : I64 sq) (hok : ShOk s) (w : World) (hS : St w [g] [rbC g q v s ca cc da dc] w) (hl : ∀ W, Fr [g] w W → LC W s ca cc) (hd : ∀ W, Fr [g] w W → LD W s da dc) :
    Calls Tryz.prog 85 #[.pointer (some ⟨g, 1, none⟩), .int .i64 id, .int .i64 sq] w fun e w' => e = .returned (.int .i64 (s.drop id sq).2) ∧ RsQ g q v s (s.drop id sq).1 ca cc da dc w w' :=
  rsdrop_b g q v s ca cc da dc id sq hq w hS hl hd hok
theorem rstrim_q (g : Nat) (q v : Value) (s : ShS) (ca : Option Addr) (cc : Nat) (da : Option Addr) (dc : Nat) (sq : Int) (hok : ShOk s) (w : World) (hS : St w [g] [rbC g q v s ca cc da dc] w) (hd : ∀ W, Fr [g] w W → LD W s da dc) :
    Calls Tryz.prog 23 #[.pointer (some ⟨g, 1, none⟩), .int .i64 sq] w fun e w' => e = .returned (.tuple #[]) ∧ RsQ g q v s (s.trim sq) ca cc da dc w w' := by
  refine (rstrim_b g q v s ca cc da dc sq w hS hd (by have := hok.dlen; omega)).mono ?_
  rintro e w' ⟨h1, da', dc', h2⟩
  exact ⟨h1, ca, cc, da', dc', _, h2, RsK.deads rfl⟩
end Go.Proofs.YtneolmnpebiifaaGreatDoor
end
