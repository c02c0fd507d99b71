import Derived.Test.YtneolmnpebiifaaGreatDoorM25
set_option linter.unusedVariables false
set_option linter.unusedSimpArgs false
set_option maxRecDepth 100000
section
namespace Go.Ofp
open Go.RowKit
namespace St
variable {w0 w w' : World} {F : List Nat} {A B C R L : List Ch} {c : Ch}
theorem mid (h : St w0 F (A ++ (B ++ (C ++ R))) w) : St w0 F (A ++ (C ++ (B ++ R))) w := by
 refine h.pick (fun i => if i < A.length then i else if i < A.length + C.length then i + B.length else if i < A.length + C.length + B.length then i - C.length else i) ?_ ?_
 · intro i d hd
   by_cases h1 : i < A.length
   · rw [List.getElem?_append_left h1] at hd
     simp only [h1, if_true]
     rw [List.getElem?_append_left h1]
     exact hd
   · rw [List.getElem?_append_right (by omega)] at hd
     simp only [h1, if_false]
     by_cases h2 : i < A.length + C.length
     · rw [List.getElem?_append_left (by omega)] at hd
       simp only [h2, if_true]
       rw [List.getElem?_append_right (by omega), List.getElem?_append_right (by omega), List.getElem?_append_left (by omega), show i + B.length - A.length - B.length = i - A.length by omega]
       exact hd
     · rw [List.getElem?_append_right (by omega)] at hd
       simp only [h2, if_false]
       by_cases h3 : i < A.length + C.length + B.length
       · rw [List.getElem?_append_left (by omega)] at hd
         simp only [h3, if_true]
         rw [List.getElem?_append_right (by omega), List.getElem?_append_left (by omega), show i - C.length - A.length = i - A.length - C.length by omega]
         exact hd
       · rw [List.getElem?_append_right (by omega)] at hd
         simp only [h3, if_false]
         rw [List.getElem?_append_right (by omega), List.getElem?_append_right (by omega), List.getElem?_append_right (by omega), show i - A.length - B.length - C.length = i - A.length - C.length - B.length by omega]
         exact hd
 · intro i j hi hj hij
   split <;> split <;> (try split) <;> (try split) <;> (try split) <;> (try split) <;> omega
end St
end Go.Ofp
end
section
namespace Go.Ofp
open Go.RowKit
def Ch.any : Ch where
 foot := []
 holds _ := True
 lt _ g hg := by simp at hg
 keep _ _ := trivial
theorem St.kcellfr {w0 w : World} {F : List Nat} {L : List Ch} {p : Addr} {v : Value} (_ : St w0 F L w) (h : ∀ W, Fr F w0 W → W.cell? p = some v) : ∀ s : Cl w0 F L, s.1.cell? p = some v := fun s => h _ s.2.fr
theorem at_len (A : List Ch) (c : Ch) (B : List Ch) : (A ++ ([c] ++ B))[A.length]? = some c := by simp
theorem St.offM {w0 w W : World} {F : List Nat} {A B R : List Ch} (h : St w0 F (A ++ (B ++ R)) w) (k : Fr (feet B) w W) : St w0 F (A ++ R) W := by
 have hd := h.dropM
 have hB : ∀ g ∈ feet B, ∃ (i : Nat) (c : Ch), (A ++ (B ++ R))[A.length + i]? = some c ∧ i < B.length ∧ g ∈ c.foot := fun g hg => by
  obtain ⟨i, c, hi, hc⟩ := mem_feet.1 hg
  have hlt : i < B.length := (List.getElem?_eq_some_iff.1 hi).1
  refine ⟨i, c, ?_, hlt, hc⟩
  rw [List.getElem?_append_right (by omega), Nat.add_sub_cancel_left, List.getElem?_append_left hlt]
  exact hi
 have hAR : ∀ (i : Nat) (c : Ch), (A ++ R)[i]? = some c → ∃ j, (A ++ (B ++ R))[j]? = some c ∧ (j < A.length ∨ A.length + B.length ≤ j) := fun i c hi => by
  by_cases hlt : i < A.length
  · refine ⟨i, ?_, .inl hlt⟩
    rw [List.getElem?_append_left hlt] at hi ⊢
    exact hi
  · refine ⟨i + B.length, ?_, .inr (by omega)⟩
    rw [List.getElem?_append_right (by omega)] at hi
    rw [List.getElem?_append_right (by omega), List.getElem?_append_right (by omega), show i + B.length - A.length - B.length = i - A.length by omega]
    exact hi
 refine ⟨h.fr.trans k fun g hg => ?_, fun i c hi => ⟨c.keep (hd.own i c hi).1 fun g hg => k.block g (c.lt (hd.own i c hi).1 g hg) fun hgB => ?_, (hd.own i c hi).2⟩, hd.apart⟩
 · obtain ⟨i, c, hi, -, hc⟩ := hB g hg
   exact (h.own _ c hi).2 g hc
 · obtain ⟨j, hj, hne⟩ := hAR i c hi
   obtain ⟨m, d, hm, hml, hgd⟩ := hB g hgB
   exact h.apart j (A.length + m) c d hj hm (by omega) g hg hgd
end Go.Ofp
namespace Go.Proofs.YtneolmnpebiifaaGreatDoor
open Go.RowKit Go.Ofp
def RsK (s s' : ShS) (ca : Option Addr) (cc : Nat) (da : Option Addr) (dc : Nat) (ca' : Option Addr) (cc' : Nat) (da' : Option Addr) (dc' : Nat) (L' : List Ch) : Prop :=
 ∀ (w0 : World) (F : List Nat) (A B : List Ch) (W : World), St w0 F (A ++ (L' ++ B)) W → (LC W s ca cc → LC W s' ca' cc') ∧ (LD W s da dc → LD W s' da' dc')
def RsL (w0 : World) (s : ShS) (ca : Option Addr) (cc : Nat) (da : Option Addr) (dc : Nat) (R : List Ch) : Prop :=
 ∀ (A B : List Ch) (W : World), St w0 [] (A ++ (R ++ B)) W → LC W s ca cc ∧ LD W s da dc
theorem RsL.step {w0 : World} {s s' : ShS} {ca ca' : Option Addr} {cc cc' : Nat} {da da' : Option Addr} {dc dc' : Nat} {R L' : List Ch} (h : RsL w0 s ca cc da dc R) (k : RsK s s' ca cc da dc ca' cc' da' dc' L') : RsL w0 s' ca' cc' da' dc' (L' ++ R) := by
 intro A B W hW
 rw [List.append_assoc] at hW
 obtain ⟨k1, k2⟩ := k w0 [] A (R ++ B) W hW
 rw [← List.append_assoc] at hW
 obtain ⟨h1, h2⟩ := h (A ++ L') B W hW
 exact ⟨k1 h1, k2 h2⟩
theorem RsL.at {w0 : World} {s : ShS} {ca : Option Addr} {cc : Nat} {da : Option Addr} {dc : Nat} {R A : List Ch} {W : World} (h : RsL w0 s ca cc da dc R) (hW : St w0 [] (A ++ R) W) : LC W s ca cc ∧ LD W s da dc := h A [] W (by rw [List.append_nil]; exact hW)
theorem RsL.old {w0 : World} {s : ShS} {ca : Option Addr} {cc : Nat} {da : Option Addr} {dc : Nat} (h1 : LC w0 s ca cc) (h2 : LD w0 s da dc) : RsL w0 s ca cc da dc [] := fun A B W hW => ⟨h1.below hW.below, h2.below hW.below⟩
theorem RsK.same (s : ShS) (ca : Option Addr) (cc : Nat) (da : Option Addr) (dc : Nat) (L' : List Ch) : RsK s s ca cc da dc ca cc da dc L' := fun _ _ _ _ _ _ => ⟨id, id⟩
theorem RsK.cards {s s' : ShS} {ca : Option Addr} {cc : Nat} {da : Option Addr} {dc : Nat} {ca' : Option Addr} {cc' : Nat} (hd : s'.dead = s.dead) (hm : ∀ x ∈ s'.m, x.f.length = 8) : RsK s s' ca cc da dc ca' cc' da dc [Ch.row 58 27 (.slice ca' s'.m.length cc') s'.m.length (s'.m.map cdRow).flatten] := by
 intro w0 F A B W hW
 refine ⟨fun _ => hW.lst A.length (at_len A _ B) rfl hm, fun h => ?_⟩
 unfold LD at h ⊢
 rw [hd]
 exact h
theorem RsK.deads {s s' : ShS} {ca : Option Addr} {cc : Nat} {da : Option Addr} {dc : Nat} {da' : Option Addr} {dc' : Nat} (hd : s'.m = s.m) : RsK s s' ca cc da dc ca cc da' dc' [Ch.row 91 3 (.slice da' s'.dead.length dc') s'.dead.length (dRow s'.dead)] := by
 intro w0 F A B W hW
 refine ⟨fun h => ?_, fun _ => hW.lst A.length (at_len A _ B) rfl (fun _ _ => trivial)⟩
 unfold LC at h ⊢
 rw [hd]
 exact h
theorem RsK.both {s s' : ShS} {ca : Option Addr} {cc : Nat} {da : Option Addr} {dc : Nat} {ca' da' : Option Addr} {cc' dc' : Nat} {D : Ch} (hm : ∀ x ∈ s'.m, x.f.length = 8) (hD : ∀ W, D.holds W → LD W s' da' dc') : RsK s s' ca cc da dc ca' cc' da' dc' [Ch.row 58 27 (.slice ca' s'.m.length cc') s'.m.length (s'.m.map cdRow).flatten, D] := by
 intro w0 F A B W hW
 exact ⟨fun _ => hW.lst A.length (by simp; rfl) rfl hm, fun _ => hD W (hW.get (A.length + 1) (by simp))⟩
theorem row_lstD {W : World} {a : Option Addr} {n c e : Nat} {l : List Dd} (h : (Ch.row e 3 (.slice a n c) n (dRow l)).holds W) (hl : l.length = n) : Lst ddRow (fun _ => True) W a n c l := by
 obtain ⟨a', cap, e', hs, -, h1, h2⟩ := owns_sl h
 cases e'
 exact ⟨hs, hl, h1, h2, fun _ _ => trivial⟩
end Go.Proofs.YtneolmnpebiifaaGreatDoor
end
section
namespace Go.Ofp
open Go.RowKit
section
variable {P : Program} {w w0 : World} {F : List Nat} {L : List Ch} {ops : Array Oper} {rest : List Oper} {o : Oper} {a : Act} {Q : Exit → Act → World → Prop} {K : Act → World → Prop}
theorem op_storeelemw_st (hw : Region.wanted o (yielded ops a.tmps) = true) (i j : Nat) {e size n c g k : Nat} {xs : List Value} (hS : St w0 F L w) (hi : L[i]? = some (Ch.row e size (.slice (some ⟨g, 0, none⟩) n c) n xs)) {t : TypeId} {x y : Operand} (ho : o.op = .store t x y) (hx : a.eval x = .pointer (some ⟨g, k, none⟩)) (hk : k = j * size)
 (hsz : sizeB P t size = true) {vs : List Value} (hy : a.eval y = .agg vs.toArray) (hl : vs.length = size) (hv : vs.all Value.oneCell' = true) (hj : j < n)
 (h : ∀ w', St w0 F (L.set i (Ch.row e size (.slice (some ⟨g, 0, none⟩) n c) n (xs.take (j * size) ++ vs ++ xs.drop (j * size + size)))) w' → K (a.put o.dst undef) w') : if Region.wanted o (yielded ops a.tmps) = true then Oper.wp P o a w K Q else K (a.put o.dst undef) w := by
 rw [if_pos hw]
 subst hk
 have h3 : (P.info? t).map (·.size) = some size := by simpa [sizeB] using hsz
 obtain ⟨ii, hii, hi1⟩ := Option.map_eq_some_iff.1 h3
 obtain ⟨w', k1, k2, k3⟩ := ownsRow_set (P := P) (hS.get i hi) hj hl (fun v hv' => List.all_eq_true.1 hv v hv')
 have hr : (Instr.storeAt t (.pointer (some ⟨g, j * size, none⟩)) (.agg vs.toArray)).run P w = .ok () w' := by
  simp [Instr.storeAt, Instr.sureAddr, storeVar, sizeOf, typeInfo, hii, hi1, Value.cells, hl, k1]
 unfold Oper.wp execOp
 simp only [ho, hx, hy, Sem.run_bind, hr, Result.andThen_ok, Sem.run_pure]
 exact h _ (hS.upd i hi k3 (by simp [Ch.row, Value.ownBlock]) k2 (by simp [Ch.row, Value.ownBlock]))
end
end Go.Ofp
end
section
namespace Go.Proofs.YtneolmnpebiifaaGreatDoor
open Go.RowKit Go.Ofp
set_option maxHeartbeats 4000000
theorem rows_len27 {l : List Cd} (h : ∀ x ∈ l, x.f.length = 8) : ((l.map cdRow).flatten).length = l.length * 27 := by
 induction l with
 | nil => rfl
 | cons c r ih => simp only [List.map_cons, List.flatten_cons, List.length_append, cdRow_lenT c (h c (by simp)), ih fun x hx => h x (by simp [hx]), List.length_cons]; omega
theorem rows_one {l : List Cd} : ∀ u ∈ (l.map cdRow).flatten, u.oneCell' = true := by
 intro u hu
 obtain ⟨r, hr, hur⟩ := List.mem_flatten.1 hu
 obtain ⟨c, _, rfl⟩ := List.mem_map.1 hr
 exact List.all_eq_true.1 (cdRow_oneT c) u hur
theorem rows_set {l : List Cd} (h : ∀ x ∈ l, x.f.length = 8) (k : Nat) (hk : k < l.length) (x : Cd) : ((l.map cdRow).flatten).take (k * 27) ++ cdRow x ++ ((l.map cdRow).flatten).drop (k * 27 + 27) = ((l.set k x).map cdRow).flatten := by
 have h1 : (l.map cdRow).flatten = ((l.take k).map cdRow).flatten ++ ((l.drop k).map cdRow).flatten := by rw [← List.flatten_append, ← List.map_append, List.take_append_drop]
 have h2 : (((l.take k).map cdRow).flatten).length = k * 27 := by rw [rows_len27 fun y hy => h y (List.mem_of_mem_take hy), List.length_take, Nat.min_eq_left (by omega)]
 have h3 : l.drop k = l[k] :: l.drop (k + 1) := List.drop_eq_getElem_cons hk
 have h4 := cdRow_lenT l[k] (h _ (List.getElem_mem hk))
 rw [h3, List.map_cons, List.flatten_cons] at h1
 have h5 : ((l.map cdRow).flatten).take (k * 27) = ((l.take k).map cdRow).flatten := by rw [h1]; exact List.take_left' h2
 have h6 : ((l.map cdRow).flatten).drop (k * 27 + 27) = ((l.drop (k + 1)).map cdRow).flatten := by
  rw [h1, ← List.append_assoc]
  exact List.drop_left' (by rw [List.length_append, h2, h4])
 rw [h5, h6, List.set_eq_take_append_cons_drop, if_pos hk, List.map_append, List.flatten_append, List.map_cons, List.flatten_cons, List.append_assoc]
theorem _root_.Go.Ofp.St.re5w {w0 w : World} {F : List Nat} {a b c d e : Ch} (h : St w0 F [a, b, c, d, e] w) : St w0 F [b, e, d, a, c] w := by
 refine h.pick (fun i => if i = 0 then 1 else if i = 1 then 4 else if i = 2 then 3 else if i = 3 then 0 else 2) ?_ ?_
 · intro i x hx
   match i with
   | 0 => exact hx
   | 1 => exact hx
   | 2 => exact hx
   | 3 => exact hx
   | 4 => exact hx
   | i + 5 => simp at hx
 · intro i j hi hj hij
   simp only [List.length_cons, List.length_nil] at hi hj
   split <;> split <;> (repeat' split) <;> omega
end Go.Proofs.YtneolmnpebiifaaGreatDoor
end
