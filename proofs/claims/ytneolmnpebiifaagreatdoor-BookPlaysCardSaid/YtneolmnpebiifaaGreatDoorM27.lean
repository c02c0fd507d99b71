import Derived.Deep.CutRange
import Derived.Test.YtneolmnpebiifaaGreatDoorM26
set_option linter.unusedVariables false
set_option linter.unusedSimpArgs false
set_option maxRecDepth 100000
section
namespace Go.Proofs.YtneolmnpebiifaaGreatDoor
open Go.RowKit Go.Ofp
set_option maxHeartbeats 4000000
theorem _root_.Go.Ofp.St.re4d {w0 w : World} {F : List Nat} {a b c d : Ch} (h : St w0 F [a, b, c, d] w) : St w0 F [c, d, a] w := by
 refine h.pick (fun i => if i = 0 then 2 else if i = 1 then 3 else 0) ?_ ?_
 · intro i x hx
   match i with
   | 0 => exact hx
   | 1 => exact hx
   | 2 => exact hx
   | i + 3 => simp at hx
 · intro i j hi hj hij
   simp only [List.length_cons, List.length_nil] at hi hj
   split <;> split <;> (repeat' split) <;> omega
theorem _root_.Go.Ofp.Lst.tailD {In : Dd → Prop} {w : World} {b o n c : Nat} {l : List Dd} (h : Lst ddRow In w (some ⟨b, o, none⟩) (n + 1) c l) : Lst ddRow In w (some ⟨b, o + 3, none⟩) n (c - 1) (l.drop 1) := by
 have h1 := h.sl.drop 3
 have h2 := dRow_drop l 1 (by rw [h.len]; omega)
 rw [Nat.one_mul] at h2
 have hle := h.le
 have hcm := h.cm
 refine ⟨?_, by rw [List.length_drop, h.len]; rfl, by omega, by omega, fun x hx => h.mem x (List.mem_of_mem_drop hx)⟩
 have h3 : ((l.drop 1).map ddRow).flatten = ((l.map ddRow).flatten).drop 3 := h2.symm
 rw [h3]
 exact h1
theorem rows_takeC {l : List Cd} (h : ∀ x ∈ l, x.f.length = 8) (k : Nat) (hk : k ≤ l.length) : ((l.map cdRow).flatten).take (k * 27) = ((l.take k).map cdRow).flatten ∧ ((l.map cdRow).flatten).drop (k * 27) = ((l.drop k).map cdRow).flatten := by
 have h1 : (l.map cdRow).flatten = ((l.take k).map cdRow).flatten ++ ((l.drop k).map cdRow).flatten := by rw [← List.flatten_append, ← List.map_append, List.take_append_drop]
 have h2 : (((l.take k).map cdRow).flatten).length = k * 27 := by rw [rows_len27 fun y hy => h y (List.mem_of_mem_take hy), List.length_take, Nat.min_eq_left hk]
 rw [h1]
 exact ⟨List.take_left' h2, List.drop_left' h2⟩
theorem _root_.Go.Ofp.wp_cut5 {P : Program} {c : Code} {Q : Exit → Act → World → Prop} {a : Act} {w w0 : World} {F : List Nat} {X Y Z U V : Type} {T : X → Y → Z → U → V → Act} {L0 : List Ch} {L : X → Y → Z → U → V → List Ch} (h : St w0 F L0 w → c.wp P (CutQ fun a w => ∃ x y z u v, a = T x y z u v ∧ St w0 F (L x y z u v) w) a w) (k : ∀ x y z u v w, St w0 F (L x y z u v) w → Q .normal (T x y z u v) w) : St w0 F L0 w → c.wp P Q a w := fun h0 =>
 wp_cutQ (h h0) fun _ w ⟨x, y, z, u, v, h, hS⟩ => h ▸ k x y z u v w hS
theorem _root_.Go.Ofp.wp_cut6 {P : Program} {c : Code} {Q : Exit → Act → World → Prop} {a : Act} {w w0 : World} {F : List Nat} {X Y Z U V S : Type} {T : X → Y → Z → U → V → S → Act} {L0 : List Ch} {L : X → Y → Z → U → V → S → List Ch} (h : St w0 F L0 w → c.wp P (CutQ fun a w => ∃ x y z u v s, a = T x y z u v s ∧ St w0 F (L x y z u v s) w) a w) (k : ∀ x y z u v s w, St w0 F (L x y z u v s) w → Q .normal (T x y z u v s) w) : St w0 F L0 w → c.wp P Q a w := fun h0 =>
 wp_cutQ (h h0) fun _ w ⟨x, y, z, u, v, s, h, hS⟩ => h ▸ k x y z u v s w hS
end Go.Proofs.YtneolmnpebiifaaGreatDoor
end
section
namespace Go.Ofp
def ShS.act (s : ShS) (kd id sq : Int) (p : Pt) : ShS := if kd = 0 then (s.add p).1 else if kd = 1 then (s.write id p).1 else if kd = 2 then (s.drop id sq).1 else s.trim sq
theorem ShOk.act {s : ShS} (h : ShOk s) (kd id sq : Int) (p : Pt) (hp : p.lab < 4294967296) : ShOk (s.act kd id sq p) := by
 unfold ShS.act
 split
 · exact h.add p hp
 · split
   · exact h.write id p hp
   · split
     · exact h.drop id sq
     · exact h.trim sq
theorem add_dead (s : ShS) (p : Pt) : (s.add p).1.dead = s.dead := by
 unfold ShS.add
 split
 · rfl
 · split <;> rfl
theorem write_dead (s : ShS) (id : Int) (p : Pt) : (s.write id p).1.dead = s.dead := by
 unfold ShS.write
 split
 · rfl
 · split
   · rfl
   · split <;> rfl
theorem add_f {s : ShS} (p : Pt) : (s.add p).2.1.f.length = 8 := by
 unfold ShS.add
 split
 · rfl
 · split
   · rfl
   · exact fresh_f _ _
theorem write_f {s : ShS} (h : ShOk s) (id : Int) (p : Pt) : (s.write id p).2.1.f.length = 8 := by
 unfold ShS.write
 split
 · rfl
 · split
   · rfl
   · split
     · rfl
     · exact (merge_f _ _).trans (get_f h id)
end Go.Ofp
end
