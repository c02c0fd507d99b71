import Derived.Test.YtneolmnpebiifaaGreatDoorM15
set_option linter.unusedVariables false
set_option linter.unusedSimpArgs false
set_option maxRecDepth 100000
section
namespace Go.Proofs.YtneolmnpebiifaaGreatDoor
open Go.RowKit Go.Ofp
set_option maxHeartbeats 4000000
theorem grows_snoc (gs : List Gr) (j : Nat) (h : j < gs.length) : grows (gs.take (j + 1)) = grows (gs.take j) ++ [.int .i64 gs[j].no, .slice gs[j].a gs[j].mem.length gs[j].c] := by
 rw [List.take_succ_eq_append_getElem h, grows_append]
 simp [grows, Gr.row]
theorem row2_one (g : Int) (A : Option Addr) (N C : Nat) : ∀ u ∈ [Value.int .i64 g, .slice A N C], u.oneCell' = true := by
 intro u hu
 simp only [List.mem_cons, List.not_mem_nil, or_false] at hu
 rcases hu with rfl | rfl <;> rfl
end Go.Proofs.YtneolmnpebiifaaGreatDoor
end
section
namespace Go.Ofp
structure OkK (ks : List Key) : Prop where
 chk : chkK ks = true
 len : ks.length ≤ 200
 mem : ∀ k ∈ ks, k.2.length ≤ 2000
theorem OkK.up {gs : List Gr} (h : OkK (keys gs)) : Ids.Up (nos gs) := by
 rw [nos_keys]
 exact ((chkK_iff _).1 h.chk).1
theorem OkK.no {gs : List Gr} (h : OkK (keys gs)) : ∀ g ∈ gs, 0 ≤ g.no ∧ g.no < 16 := fun g hg => ((chkK_iff _).1 h.chk).2.1 g.key (List.mem_map_of_mem hg)
theorem OkK.rise {gs : List Gr} (h : OkK (keys gs)) : ∀ g ∈ gs, Ids.Rise g.mem := fun g hg => ((chkK_iff _).1 h.chk).2.2 g.key (List.mem_map_of_mem hg)
theorem OkK.um {gs : List Gr} (h : OkK (keys gs)) : ∀ g ∈ gs, Ids.Up g.mem := fun g hg => (h.rise g hg).1
theorem OkK.mm {gs : List Gr} (h : OkK (keys gs)) : ∀ g ∈ gs, g.mem.length ≤ 10000 := fun g hg => Nat.le_trans (h.mem g.key (List.mem_map_of_mem hg)) (by omega)
theorem OkK.nn {gs : List Gr} (h : OkK (keys gs)) : gs.length ≤ 200 := by have := h.len; simpa [keys] using this
end Go.Ofp
namespace Go.Proofs.YtneolmnpebiifaaGreatDoor
open Go.RowKit Go.Ofp
set_option maxHeartbeats 4000000
theorem small_of {ks : List Key} (h : bigK ks = false) : ks.length ≤ 40 ∧ ∀ k ∈ ks, k.2.length ≤ 100 := by
 unfold bigK at h
 rw [Bool.or_eq_false_iff] at h
 refine ⟨by have := of_decide_eq_false h.1; omega, fun k hk => ?_⟩
 have := List.any_eq_false.1 h.2 k hk
 simp only [decide_eq_true_eq] at this
 omega
theorem of_ok {a : Option Addr} {gs : List Gr} {n c : Nat} {w : World} (id : Int) (hD : Deep w a n c gs) (h : OkK (keys gs)) :
 Calls Tryz.prog 51 #[.slice a n c, .int .i64 id] w fun e w' => e = .returned (.int .u32 (ofK (keys gs) id : Nat)) ∧ Below w.heap.size w w' :=
 gof_any a gs n c id w hD (by have := hD.len; have := h.nn; omega) h.mm h.no h.um
end Go.Proofs.YtneolmnpebiifaaGreatDoor
end
section
namespace Go.Ofp
open Go.RowKit
theorem ofFrom_bit (id : Int) (B : List Key) (q : Nat) : ∀ s, (ofFrom id s B).testBit q = (s.testBit q || B.any fun k => decide (k.1.toNat = q) && Ids.has k.2 id) := by
 induction B with
 | nil => intro s; simp [ofFrom]
 | cons k B ih =>
  intro s
  simp only [ofFrom, List.any_cons, ih]
  cases Ids.has k.2 id with
  | false => simp
  | true => simp [Nat.testBit_or, Nat.testBit_two_pow, Bool.or_assoc]
section
variable {ks : List Key} (h : chkK ks = true)
include h
end
end Go.Ofp
end
