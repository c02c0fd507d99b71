/- Texts laid together: ShelfRX ShelfR4. -/
import Derived.Test.YtneolmnpebiifaaDoorM10
import Derived.Test.YtneolmnpebiifaaDoorM11
import Derived.Test.YtneolmnpebiifaaDoorM2
import Derived.Test.YtneolmnpebiifaaDoorM8
section
/- The reference's shelf in a law: its lists are told by facts over the pieces that the calls made. -/
set_option linter.unusedSimpArgs false
set_option linter.unusedVariables false
namespace Go.Ofp
open Go.RowKit
/-- A piece of which nothing is said. -/
def Ch.any : Ch where
  foot := []
  holds _ := True
  lt _ g hg := by simp at hg
  keep _ _ := trivial
/-- What stands in memory that is not written to, for a region's class. -/
theorem St.kcellfr {w0 w : World} {F : List Nat} {L : List Ch} {p : Addr} {v : Value} (_ : St w0 F L w) (h : ∀ W, Fr F w0 W → W.cell? p = some v) : ∀ s : Cl w0 F L, s.1.cell? p = some v := fun s => h _ s.2.fr
theorem at_len (A : List Ch) (c : Ch) (B : List Ch) : (A ++ ([c] ++ B))[A.length]? = some c := by simp
/-- Pieces that are written to are left out. -/
theorem St.offM {w0 w W : World} {F : List Nat} {A B R : List Ch} (h : St w0 F (A ++ (B ++ R)) w) (k : Fr (feet B) w W) : St w0 F (A ++ R) W := by
  have hd := h.dropM
  have hB : ∀ g ∈ feet B, ∃ (i : Nat) (c : Ch), (A ++ (B ++ R))[A.length + i]? = some c ∧ i < B.length ∧ g ∈ c.foot := fun g hg => by
    obtain ⟨i, c, hi, hc⟩ := mem_feet.1 hg
    have hlt : i < B.length := (List.getElem?_eq_some_iff.1 hi).1
    refine ⟨i, c, ?_, hlt, hc⟩
    rw [List.getElem?_append_right (by omega), Nat.add_sub_cancel_left, List.getElem?_append_left hlt]
    exact hi
  have hAR : ∀ (i : Nat) (c : Ch), (A ++ R)[i]? = some c → ∃ j, (A ++ (B ++ R))[j]? = some c ∧ (j < A.length ∨ A.length + B.length ≤ j) := fun i c hi => by
    by_cases hlt : i < A.length
    · refine ⟨i, ?_, .inl hlt⟩
      rw [List.getElem?_append_left hlt] at hi ⊢
      exact hi
    · refine ⟨i + B.length, ?_, .inr (by omega)⟩
      rw [List.getElem?_append_right (by omega)] at hi
      rw [List.getElem?_append_right (by omega), List.getElem?_append_right (by omega), show i + B.length - A.length - B.length = i - A.length by omega]
      exact hi
  refine ⟨h.fr.trans k fun g hg => ?_, fun i c hi => ⟨c.keep (hd.own i c hi).1 fun g hg => k.block g (c.lt (hd.own i c hi).1 g hg) fun hgB => ?_, (hd.own i c hi).2⟩, hd.apart⟩
  · obtain ⟨i, c, hi, -, hc⟩ := hB g hg
    exact (h.own _ c hi).2 g hc
  · obtain ⟨j, hj, hne⟩ := hAR i c hi
    obtain ⟨m, d, hm, hml, hgd⟩ := hB g hgB
    exact h.apart j (A.length + m) c d hj hm (by omega) g hg hgd
end Go.Ofp
namespace Go.Proofs.YtneolmnpebiifaaDoor
open Go.RowKit Go.Ofp
/-- What new pieces make of the reference's lists. -/
def RsK (s s' : ShS) (ca : Option Addr) (cc : Nat) (da : Option Addr) (dc : Nat) (ca' : Option Addr) (cc' : Nat) (da' : Option Addr) (dc' : Nat) (L' : List Ch) : Prop :=
  ∀ (w0 : World) (F : List Nat) (A B : List Ch) (W : World), St w0 F (A ++ (L' ++ B)) W → (LC W s ca cc → LC W s' ca' cc') ∧ (LD W s da dc → LD W s' da' dc')
/-- The reference's lists, over the pieces R. -/
def RsL (w0 : World) (s : ShS) (ca : Option Addr) (cc : Nat) (da : Option Addr) (dc : Nat) (R : List Ch) : Prop :=
  ∀ (A B : List Ch) (W : World), St w0 [] (A ++ (R ++ B)) W → LC W s ca cc ∧ LD W s da dc
theorem RsL.step {w0 : World} {s s' : ShS} {ca ca' : Option Addr} {cc cc' : Nat} {da da' : Option Addr} {dc dc' : Nat} {R L' : List Ch} (h : RsL w0 s ca cc da dc R) (k : RsK s s' ca cc da dc ca' cc' da' dc' L') : RsL w0 s' ca' cc' da' dc' (L' ++ R) := by
  intro A B W hW
  rw [List.append_assoc] at hW
  obtain ⟨k1, k2⟩ := k w0 [] A (R ++ B) W hW
  rw [← List.append_assoc] at hW
  obtain ⟨h1, h2⟩ := h (A ++ L') B W hW
  exact ⟨k1 h1, k2 h2⟩
theorem RsL.at {w0 : World} {s : ShS} {ca : Option Addr} {cc : Nat} {da : Option Addr} {dc : Nat} {R A : List Ch} {W : World} (h : RsL w0 s ca cc da dc R) (hW : St w0 [] (A ++ R) W) : LC W s ca cc ∧ LD W s da dc := h A [] W (by rw [List.append_nil]; exact hW)
theorem RsL.old {w0 : World} {s : ShS} {ca : Option Addr} {cc : Nat} {da : Option Addr} {dc : Nat} (h1 : LC w0 s ca cc) (h2 : LD w0 s da dc) : RsL w0 s ca cc da dc [] := fun A B W hW => ⟨h1.below hW.below, h2.below hW.below⟩
theorem RsK.same (s : ShS) (ca : Option Addr) (cc : Nat) (da : Option Addr) (dc : Nat) (L' : List Ch) : RsK s s ca cc da dc ca cc da dc L' := fun _ _ _ _ _ _ => ⟨id, id⟩
theorem RsK.cards {s s' : ShS} {ca : Option Addr} {cc : Nat} {da : Option Addr} {dc : Nat} {ca' : Option Addr} {cc' : Nat} (hd : s'.dead = s.dead) (hm : ∀ x ∈ s'.m, x.f.length = 8) : RsK s s' ca cc da dc ca' cc' da dc [Ch.row 38 27 (.slice ca' s'.m.length cc') s'.m.length (s'.m.map cdRow).flatten] := by
  intro w0 F A B W hW
  refine ⟨fun _ => hW.lst A.length (at_len A _ B) rfl hm, fun h => ?_⟩
  unfold LD at h ⊢
  rw [hd]
  exact h
theorem RsK.deads {s s' : ShS} {ca : Option Addr} {cc : Nat} {da : Option Addr} {dc : Nat} {da' : Option Addr} {dc' : Nat} (hd : s'.m = s.m) : RsK s s' ca cc da dc ca cc da' dc' [Ch.row 74 3 (.slice da' s'.dead.length dc') s'.dead.length (dRow s'.dead)] := by
  intro w0 F A B W hW
  refine ⟨fun h => ?_, fun _ => hW.lst A.length (at_len A _ B) rfl (fun _ _ => trivial)⟩
  unfold LC at h ⊢
  rw [hd]
  exact h
theorem RsK.both {s s' : ShS} {ca : Option Addr} {cc : Nat} {da : Option Addr} {dc : Nat} {ca' da' : Option Addr} {cc' dc' : Nat} {D : Ch} (hm : ∀ x ∈ s'.m, x.f.length = 8) (hD : ∀ W, D.holds W → LD W s' da' dc') : RsK s s' ca cc da dc ca' cc' da' dc' [Ch.row 38 27 (.slice ca' s'.m.length cc') s'.m.length (s'.m.map cdRow).flatten, D] := by
  intro w0 F A B W hW
  exact ⟨fun _ => hW.lst A.length (by simp; rfl) rfl hm, fun _ => hD W (hW.get (A.length + 1) (by simp))⟩
theorem row_lstD {W : World} {a : Option Addr} {n c e : Nat} {l : List Dd} (h : (Ch.row e 3 (.slice a n c) n (dRow l)).holds W) (hl : l.length = n) : Lst ddRow (fun _ => True) W a n c l := by
  obtain ⟨a', cap, e', hs, -, h1, h2⟩ := owns_sl h
  cases e'
  exact ⟨hs, hl, h1, h2, fun _ _ => trivial⟩
theorem RsC.rsk {g : Nat} {s s' : ShS} {ca : Option Addr} {cc : Nat} {da : Option Addr} {dc : Nat} {w w' : World} (h : RsC g s s' ca cc da dc w w') (hd : s'.dead = s.dead) (hm : ∀ x ∈ s'.m, x.f.length = 8) :
    ∃ ca' cc' L', St w [g] (Ch.blk g 50 (rsRow s' ca' cc' da dc).toArray :: L') w' ∧ RsK s s' ca cc da dc ca' cc' da dc L' := by
  obtain ⟨ca', cc', L', hS, ⟨rfl, h2, rfl, rfl⟩ | rfl⟩ := h
  · refine ⟨_, _, [], hS, fun w0 F A B W _ => ⟨fun h => ?_, fun h => ?_⟩⟩
    · unfold LC at h ⊢; rw [h2]; exact h
    · unfold LD at h ⊢; rw [hd]; exact h
  · exact ⟨_, _, _, hS, RsK.cards hd hm⟩
end Go.Proofs.YtneolmnpebiifaaDoor
end

section
/- The reference's shelf: Write. -/
set_option linter.unusedSimpArgs false
set_option linter.unusedVariables false
namespace Go.Proofs.YtneolmnpebiifaaDoor
open Go.RowKit Go.Ofp
set_option linter.unusedVariables false
set_option maxRecDepth 100000
set_option maxHeartbeats 4000000
theorem rows_len27 {l : List Cd} (h : ∀ x ∈ l, x.f.length = 8) : ((l.map cdRow).flatten).length = l.length * 27 := by
  induction l with
  | nil => rfl
  | cons c r ih => simp only [List.map_cons, List.flatten_cons, List.length_append, cdRow_lenT c (h c (by simp)), ih fun x hx => h x (by simp [hx]), List.length_cons]; omega
theorem rows_one {l : List Cd} : ∀ u ∈ (l.map cdRow).flatten, u.oneCell' = true := by
  intro u hu
  obtain ⟨r, hr, hur⟩ := List.mem_flatten.1 hu
  obtain ⟨c, _, rfl⟩ := List.mem_map.1 hr
  exact List.all_eq_true.1 (cdRow_oneT c) u hur
theorem rows_set {l : List Cd} (h : ∀ x ∈ l, x.f.length = 8) (k : Nat) (hk : k < l.length) (x : Cd) : ((l.map cdRow).flatten).take (k * 27) ++ cdRow x ++ ((l.map cdRow).flatten).drop (k * 27 + 27) = ((l.set k x).map cdRow).flatten := by
  have h1 : (l.map cdRow).flatten = ((l.take k).map cdRow).flatten ++ ((l.drop k).map cdRow).flatten := by rw [← List.flatten_append, ← List.map_append, List.take_append_drop]
  have h2 : (((l.take k).map cdRow).flatten).length = k * 27 := by rw [rows_len27 fun y hy => h y (List.mem_of_mem_take hy), List.length_take, Nat.min_eq_left (by omega)]
  have h3 : l.drop k = l[k] :: l.drop (k + 1) := List.drop_eq_getElem_cons hk
  have h4 := cdRow_lenT l[k] (h _ (List.getElem_mem hk))
  rw [h3, List.map_cons, List.flatten_cons] at h1
  have h5 : ((l.map cdRow).flatten).take (k * 27) = ((l.take k).map cdRow).flatten := by rw [h1]; exact List.take_left' h2
  have h6 : ((l.map cdRow).flatten).drop (k * 27 + 27) = ((l.drop (k + 1)).map cdRow).flatten := by
    rw [h1, ← List.append_assoc]
    exact List.drop_left' (by rw [List.length_append, h2, h4])
  rw [h5, h6, List.set_eq_take_append_cons_drop, if_pos hk, List.map_append, List.flatten_append, List.map_cons, List.flatten_cons, List.append_assoc]
theorem _root_.Go.Ofp.St.re5w {w0 w : World} {F : List Nat} {a b c d e : Ch} (h : St w0 F [a, b, c, d, e] w) : St w0 F [b, e, d, a, c] w := by
  refine h.pick (fun i => if i = 0 then 1 else if i = 1 then 4 else if i = 2 then 3 else if i = 3 then 0 else 2) ?_ ?_
  · intro i x hx
    match i with
    | 0 => exact hx
    | 1 => exact hx
    | 2 => exact hx
    | 3 => exact hx
    | 4 => exact hx
    | i + 5 => simp at hx
  · intro i j hi hj hij
    simp only [List.length_cons, List.length_nil] at hi hj
    split <;> split <;> (repeat' split) <;> omega
theorem rswrite_any (g : Nat) (s : ShS) (ca : Option Addr) (cc : Nat) (da : Option Addr) (dc : Nat) (id : Int) (p : Pt) (hp : PtIn p) (w : World) (hS : St w [g] [Ch.blk g 50 (rsRow s ca cc da dc).toArray] w) (hl : ∀ W, Fr [g] w W → LC W s ca cc) (hd : ∀ W, Fr [g] w W → LD W s da dc) (hok : ShOk s) :
    Calls Tryd.prog 33 #[.pointer (some ⟨g, 0, none⟩), .int .i64 id, .agg (ptRow p).toArray] w fun e w' => e = .returned (sgV (s.write id p).2) ∧ RsC g s (s.write id p).1 ca cc da dc w w' := by
  have ec := elem_card
  have cC := fun W => rcp_any p hp.len hp.mask hp.lab W
  have cG := fun W h1 h2 => rsget_any s ca cc da dc id W h1 h2
  have hgf := get_f hok id
  have cP := fun W h => splace_any s ca cc da dc id W h
  have hgv : 0 ≤ (s.get id).1.ver ∧ (s.get id).1.ver ≤ 1099511627776 := by
    cases hlk : lookC s.m id with
    | none => rw [get_none hlk]; exact ⟨(by decide : (0 : Int) ≤ 0), (by decide : (0 : Int) ≤ 1099511627776)⟩
    | some c => rw [get_some hlk]; exact hok.ver c (look_mem hlk).1
  have cM := fun W => rmg_any (s.get id).1 p hp.mask hgv hgf hp.len W
  have hfin : (s.get id).2 = 0 → plV s.m id = (placeC s.m id : Int) ∧ placeC s.m id < s.m.length ∧ s.m.set (placeC s.m id) ((s.get id).1.merge p) = putC s.m ((s.get id).1.merge p) := fun h => by
    have hl := get_ok h
    have h1 : (lookC s.m id).isSome = true := by rw [hl]; rfl
    have h2 := set_putC (c := (s.get id).1.merge p) hok.ris
    rw [merge_id, (look_mem hl).2] at h2
    refine ⟨?_, placeC_lt.2 h1, h2⟩
    unfold plV
    rw [if_pos h1]
  have hmcf : ((s.get id).1.merge p).f.length = 8 := (merge_f _ _).trans hgf
  have hpl := ptRow_len p hp.len
  have hsz : sizeB Tryd.prog 30 (ptRow p).toArray.size = true := by rw [List.size_toArray, hpl]; kernel_rfl
  have hwr : s.write id p = if p.check ≠ 0 then (s, Cd.none 0, p.check) else if (s.get id).2 ≠ 0 then (s, Cd.none 0, (s.get id).2) else if 1099511627776 ≤ (s.get id).1.ver then (s, Cd.none 0, 8) else (⟨s.next, putC s.m ((s.get id).1.merge p), s.dead⟩, (s.get id).1.merge p, 0) := rfl
  have hgV : sgV (s.get id) = .tuple #[.agg (cdRow (s.get id).1).toArray, .int .i64 (s.get id).2] := rfl
  have hcl := cdRow_lenT _ hgf
  have hco := cdRow_oneT (s.get id).1
  rw [hwr]
  rw [hgV] at cG
  obtain ⟨CT, hCT⟩ : ∃ CT, cdRow (s.get id).1 = .int .i64 (s.get id).1.id :: .int .i64 (s.get id).1.ver :: CT := ⟨_, rfl⟩
  rw [hCT] at cG hcl hco cM
  have hR : rsRow s ca cc da dc = [.int .i64 s.next, .slice ca s.m.length cc, .slice da s.dead.length dc] := rfl
  have hsame : ∀ W (L : List Ch), St w [g] (Ch.blk g 50 (rsRow s ca cc da dc).toArray :: L) W → RsC g s s ca cc da dc w W := fun W L h => ⟨ca, cc, [], h.one 0 rfl, .inl ⟨rfl, rfl, rfl, rfl⟩⟩
  rw [hR] at cG cP hS hsame
  clear hgv
  replace hsame := Lib.hid hsame
  replace cG := Lib.hid cG
  replace hl := Lib.hid hl
  replace hd := Lib.hid hd
  generalize hgg : (s.get id).1.merge p = MC at *
  generalize (s.get id).1.id = ci at *
  generalize (s.get id).1.ver = cv at *
  generalize (s.get id).2 = er at *
  generalize ptRow p = RP at *
  by_cases hck : p.check = 0
  case neg =>
    rw [if_pos hck]
    have b1 : (p.check != 0) = true := by simpa using hck
    clear hck
    generalize p.check = ck at *
    replace cC := Lib.hid cC
    go_enter Tryd.func33, Tryd.ntmps33
    go_wp2_with (first | (go_at_call 52; (with_reducible refine (cC.out _).mono ?_); rintro _ w3 ⟨rfl, hk9⟩; have hS1 := hS.keepB hk9; clear hk9 hS; have hS := hS1; clear hS1) | (with_reducible refine wpList_box_st hS rfl rfl rfl ?_; intro gp w1 hS1; clear hS; have hS := hS1; clear hS1) | ((with_reducible refine wpList_loadall_st 1 hS rfl rfl rfl rfl ?_ hsz ?_); focus (simp [rowB, go_sem]; done)) | (go_at_call 36; (with_reducible refine (cG.out _ (hl.out _ hS.fr) (hd.out _ hS.fr)).mono ?_); rintro _ w3 ⟨rfl, hk9⟩; have hS1 := hS.keepB hk9; clear hk9 hS; have hS := hS1; clear hS1) | ((with_reducible refine wpList_storerow_st (t := 38) (n := 27) (vs := Value.int .i64 ci :: .int .i64 cv :: CT) 0 hS rfl rfl rfl rfl (by kernel_rfl) rfl hcl hco (by kernel_rfl) ?_); intro w1 hS1; clear hS; have hS := hS1; clear hS1; try simp only [List.set_cons_zero, List.set_cons_succ, List.setIfInBounds_toArray, List.take_succ_cons, List.take_zero, List.drop_succ_cons, List.drop_zero, List.nil_append, List.cons_append, List.append_nil, List.drop_nil, List.take_nil, List.length_cons, List.length_nil, Nat.zero_add, Nat.add_zero, Nat.reduceAdd] at hS) | (with_reducible refine wpList_box_st hS rfl rfl rfl ?_; intro g1 w1 hS1; clear hS; replace hS := hS1; clear hS1) | (with_reducible refine wpList_box1_st hS rfl rfl rfl ?_; intro g1 w1 hS1; clear hS; replace hS := hS1; clear hS1) | (with_reducible refine wpList_alloc_st hS rfl rfl (by assumption) ?_; intro g1 w1 hS1; clear hS; replace hS := hS1; clear hS1) | (with_reducible refine wpList_alloc1_st hS rfl rfl (by assumption) rfl ?_; intro g1 w1 hS1; clear hS; replace hS := hS1; clear hS1) | ((with_reducible refine wpList_load_st 0 hS rfl rfl rfl rfl ?_ rfl ?_); focus (simp [scalarB, go_sem]; done)) | ((with_reducible refine wpList_loadall_st 0 hS rfl rfl rfl rfl ?_ (by kernel_rfl) ?_); focus (simp [rowB, go_sem]; done)) | ((with_reducible refine wpList_store_st 0 hS rfl rfl rfl rfl (by kernel_rfl) rfl rfl ?_); intro w1 hS1; clear hS; replace hS := hS1; clear hS1; try simp only [List.set_cons_zero, List.set_cons_succ, List.setIfInBounds_toArray, List.take_succ_cons, List.take_zero, List.drop_succ_cons, List.drop_zero, List.nil_append, List.cons_append, List.append_nil, List.drop_nil, List.take_nil, List.length_cons, List.length_nil, Nat.zero_add, Nat.add_zero, Nat.reduceAdd] at hS) | ((with_reducible refine wpList_storerow_st 0 hS rfl rfl rfl rfl (by kernel_rfl) rfl rfl rfl rfl ?_); intro w1 hS1; clear hS; replace hS := hS1; clear hS1; try simp only [List.set_cons_zero, List.set_cons_succ, List.setIfInBounds_toArray, List.take_succ_cons, List.take_zero, List.drop_succ_cons, List.drop_zero, List.nil_append, List.cons_append, List.append_nil, List.drop_nil, List.take_nil, List.length_cons, List.length_nil, Nat.zero_add, Nat.add_zero, Nat.reduceAdd] at hS) | ((with_reducible refine wpList_load_st 1 hS rfl rfl rfl rfl ?_ rfl ?_); focus (simp [scalarB, go_sem]; done)) | ((with_reducible refine wpList_loadall_st 1 hS rfl rfl rfl rfl ?_ (by kernel_rfl) ?_); focus (simp [rowB, go_sem]; done)) | ((with_reducible refine wpList_store_st 1 hS rfl rfl rfl rfl (by kernel_rfl) rfl rfl ?_); intro w1 hS1; clear hS; replace hS := hS1; clear hS1; try simp only [List.set_cons_zero, List.set_cons_succ, List.setIfInBounds_toArray, List.take_succ_cons, List.take_zero, List.drop_succ_cons, List.drop_zero, List.nil_append, List.cons_append, List.append_nil, List.drop_nil, List.take_nil, List.length_cons, List.length_nil, Nat.zero_add, Nat.add_zero, Nat.reduceAdd] at hS) | ((with_reducible refine wpList_storerow_st 1 hS rfl rfl rfl rfl (by kernel_rfl) rfl rfl rfl rfl ?_); intro w1 hS1; clear hS; replace hS := hS1; clear hS1; try simp only [List.set_cons_zero, List.set_cons_succ, List.setIfInBounds_toArray, List.take_succ_cons, List.take_zero, List.drop_succ_cons, List.drop_zero, List.nil_append, List.cons_append, List.append_nil, List.drop_nil, List.take_nil, List.length_cons, List.length_nil, Nat.zero_add, Nat.add_zero, Nat.reduceAdd] at hS) | ((with_reducible refine wpList_load_st 2 hS rfl rfl rfl rfl ?_ rfl ?_); focus (simp [scalarB, go_sem]; done)) | ((with_reducible refine wpList_loadall_st 2 hS rfl rfl rfl rfl ?_ (by kernel_rfl) ?_); focus (simp [rowB, go_sem]; done)) | ((with_reducible refine wpList_store_st 2 hS rfl rfl rfl rfl (by kernel_rfl) rfl rfl ?_); intro w1 hS1; clear hS; replace hS := hS1; clear hS1; try simp only [List.set_cons_zero, List.set_cons_succ, List.setIfInBounds_toArray, List.take_succ_cons, List.take_zero, List.drop_succ_cons, List.drop_zero, List.nil_append, List.cons_append, List.append_nil, List.drop_nil, List.take_nil, List.length_cons, List.length_nil, Nat.zero_add, Nat.add_zero, Nat.reduceAdd] at hS) | ((with_reducible refine wpList_storerow_st 2 hS rfl rfl rfl rfl (by kernel_rfl) rfl rfl rfl rfl ?_); intro w1 hS1; clear hS; replace hS := hS1; clear hS1; try simp only [List.set_cons_zero, List.set_cons_succ, List.setIfInBounds_toArray, List.take_succ_cons, List.take_zero, List.drop_succ_cons, List.drop_zero, List.nil_append, List.cons_append, List.append_nil, List.drop_nil, List.take_nil, List.length_cons, List.length_nil, Nat.zero_add, Nat.add_zero, Nat.reduceAdd] at hS))
    rw [sgV_zero]
    exact bodyPost_ret (v := .tuple #[.agg #[.int .i64 0, .int .i64 0, .int .u32 0, .int .i64 0, .int .i64 0, .string ⟨#[]⟩, .int .i64 0, .int .i64 0, .string ⟨#[]⟩, .int .i64 0, .int .i64 0, .string ⟨#[]⟩, .int .i64 0, .int .i64 0, .string ⟨#[]⟩, .int .i64 0, .int .i64 0, .string ⟨#[]⟩, .int .i64 0, .int .i64 0, .string ⟨#[]⟩, .int .i64 0, .int .i64 0, .string ⟨#[]⟩, .int .i64 0, .int .i64 0, .string ⟨#[]⟩], .int .i64 ck]) (results_blk_tmp Tryd.results33 rfl hS 0 rfl (by kernel_rfl) (by kernel_rfl) rfl) rfl ⟨rfl, hsame.out _ _ hS.drop.drop⟩
  rw [if_neg (by simp [hck])]
  rw [hck] at cC
  replace cC := Lib.hid cC
  clear hck
  by_cases her : er = 0
  case neg =>
    rw [if_pos her]
    have b2 : (er != 0) = true := by simpa using her
    clear her
    go_enter Tryd.func33, Tryd.ntmps33
    go_wp2_with (first | (go_at_call 52; (with_reducible refine (cC.out _).mono ?_); rintro _ w3 ⟨rfl, hk9⟩; have hS1 := hS.keepB hk9; clear hk9 hS; have hS := hS1; clear hS1) | (with_reducible refine wpList_box_st hS rfl rfl rfl ?_; intro gp w1 hS1; clear hS; have hS := hS1; clear hS1) | ((with_reducible refine wpList_loadall_st 1 hS rfl rfl rfl rfl ?_ hsz ?_); focus (simp [rowB, go_sem]; done)) | (go_at_call 36; (with_reducible refine (cG.out _ (hl.out _ hS.fr) (hd.out _ hS.fr)).mono ?_); rintro _ w3 ⟨rfl, hk9⟩; have hS1 := hS.keepB hk9; clear hk9 hS; have hS := hS1; clear hS1) | ((with_reducible refine wpList_storerow_st (t := 38) (n := 27) (vs := Value.int .i64 ci :: .int .i64 cv :: CT) 0 hS rfl rfl rfl rfl (by kernel_rfl) rfl hcl hco (by kernel_rfl) ?_); intro w1 hS1; clear hS; have hS := hS1; clear hS1; try simp only [List.set_cons_zero, List.set_cons_succ, List.setIfInBounds_toArray, List.take_succ_cons, List.take_zero, List.drop_succ_cons, List.drop_zero, List.nil_append, List.cons_append, List.append_nil, List.drop_nil, List.take_nil, List.length_cons, List.length_nil, Nat.zero_add, Nat.add_zero, Nat.reduceAdd] at hS) | (with_reducible refine wpList_box_st hS rfl rfl rfl ?_; intro g1 w1 hS1; clear hS; replace hS := hS1; clear hS1) | (with_reducible refine wpList_box1_st hS rfl rfl rfl ?_; intro g1 w1 hS1; clear hS; replace hS := hS1; clear hS1) | (with_reducible refine wpList_alloc_st hS rfl rfl (by assumption) ?_; intro g1 w1 hS1; clear hS; replace hS := hS1; clear hS1) | (with_reducible refine wpList_alloc1_st hS rfl rfl (by assumption) rfl ?_; intro g1 w1 hS1; clear hS; replace hS := hS1; clear hS1) | ((with_reducible refine wpList_load_st 0 hS rfl rfl rfl rfl ?_ rfl ?_); focus (simp [scalarB, go_sem]; done)) | ((with_reducible refine wpList_loadall_st 0 hS rfl rfl rfl rfl ?_ (by kernel_rfl) ?_); focus (simp [rowB, go_sem]; done)) | ((with_reducible refine wpList_store_st 0 hS rfl rfl rfl rfl (by kernel_rfl) rfl rfl ?_); intro w1 hS1; clear hS; replace hS := hS1; clear hS1; try simp only [List.set_cons_zero, List.set_cons_succ, List.setIfInBounds_toArray, List.take_succ_cons, List.take_zero, List.drop_succ_cons, List.drop_zero, List.nil_append, List.cons_append, List.append_nil, List.drop_nil, List.take_nil, List.length_cons, List.length_nil, Nat.zero_add, Nat.add_zero, Nat.reduceAdd] at hS) | ((with_reducible refine wpList_storerow_st 0 hS rfl rfl rfl rfl (by kernel_rfl) rfl rfl rfl rfl ?_); intro w1 hS1; clear hS; replace hS := hS1; clear hS1; try simp only [List.set_cons_zero, List.set_cons_succ, List.setIfInBounds_toArray, List.take_succ_cons, List.take_zero, List.drop_succ_cons, List.drop_zero, List.nil_append, List.cons_append, List.append_nil, List.drop_nil, List.take_nil, List.length_cons, List.length_nil, Nat.zero_add, Nat.add_zero, Nat.reduceAdd] at hS) | ((with_reducible refine wpList_load_st 1 hS rfl rfl rfl rfl ?_ rfl ?_); focus (simp [scalarB, go_sem]; done)) | ((with_reducible refine wpList_loadall_st 1 hS rfl rfl rfl rfl ?_ (by kernel_rfl) ?_); focus (simp [rowB, go_sem]; done)) | ((with_reducible refine wpList_store_st 1 hS rfl rfl rfl rfl (by kernel_rfl) rfl rfl ?_); intro w1 hS1; clear hS; replace hS := hS1; clear hS1; try simp only [List.set_cons_zero, List.set_cons_succ, List.setIfInBounds_toArray, List.take_succ_cons, List.take_zero, List.drop_succ_cons, List.drop_zero, List.nil_append, List.cons_append, List.append_nil, List.drop_nil, List.take_nil, List.length_cons, List.length_nil, Nat.zero_add, Nat.add_zero, Nat.reduceAdd] at hS) | ((with_reducible refine wpList_storerow_st 1 hS rfl rfl rfl rfl (by kernel_rfl) rfl rfl rfl rfl ?_); intro w1 hS1; clear hS; replace hS := hS1; clear hS1; try simp only [List.set_cons_zero, List.set_cons_succ, List.setIfInBounds_toArray, List.take_succ_cons, List.take_zero, List.drop_succ_cons, List.drop_zero, List.nil_append, List.cons_append, List.append_nil, List.drop_nil, List.take_nil, List.length_cons, List.length_nil, Nat.zero_add, Nat.add_zero, Nat.reduceAdd] at hS) | ((with_reducible refine wpList_load_st 2 hS rfl rfl rfl rfl ?_ rfl ?_); focus (simp [scalarB, go_sem]; done)) | ((with_reducible refine wpList_loadall_st 2 hS rfl rfl rfl rfl ?_ (by kernel_rfl) ?_); focus (simp [rowB, go_sem]; done)) | ((with_reducible refine wpList_store_st 2 hS rfl rfl rfl rfl (by kernel_rfl) rfl rfl ?_); intro w1 hS1; clear hS; replace hS := hS1; clear hS1; try simp only [List.set_cons_zero, List.set_cons_succ, List.setIfInBounds_toArray, List.take_succ_cons, List.take_zero, List.drop_succ_cons, List.drop_zero, List.nil_append, List.cons_append, List.append_nil, List.drop_nil, List.take_nil, List.length_cons, List.length_nil, Nat.zero_add, Nat.add_zero, Nat.reduceAdd] at hS) | ((with_reducible refine wpList_storerow_st 2 hS rfl rfl rfl rfl (by kernel_rfl) rfl rfl rfl rfl ?_); intro w1 hS1; clear hS; replace hS := hS1; clear hS1; try simp only [List.set_cons_zero, List.set_cons_succ, List.setIfInBounds_toArray, List.take_succ_cons, List.take_zero, List.drop_succ_cons, List.drop_zero, List.nil_append, List.cons_append, List.append_nil, List.drop_nil, List.take_nil, List.length_cons, List.length_nil, Nat.zero_add, Nat.add_zero, Nat.reduceAdd] at hS))
    rw [sgV_zero]
    exact bodyPost_ret (v := .tuple #[.agg #[.int .i64 0, .int .i64 0, .int .u32 0, .int .i64 0, .int .i64 0, .string ⟨#[]⟩, .int .i64 0, .int .i64 0, .string ⟨#[]⟩, .int .i64 0, .int .i64 0, .string ⟨#[]⟩, .int .i64 0, .int .i64 0, .string ⟨#[]⟩, .int .i64 0, .int .i64 0, .string ⟨#[]⟩, .int .i64 0, .int .i64 0, .string ⟨#[]⟩, .int .i64 0, .int .i64 0, .string ⟨#[]⟩, .int .i64 0, .int .i64 0, .string ⟨#[]⟩], .int .i64 er]) (results_blk_tmp Tryd.results33 rfl hS 1 rfl (by kernel_rfl) (by kernel_rfl) rfl) rfl ⟨rfl, hsame.out _ _ hS.drop.drop.drop⟩
  rw [if_neg (by simp [her])]
  subst her
  by_cases hv : 1099511627776 ≤ cv
  · rw [if_pos hv]
    have dv : decide (1099511627776 ≤ cv) = true := decide_eq_true hv
    clear hv
    go_enter Tryd.func33, Tryd.ntmps33
    go_wp2_with (first | (go_at_call 52; (with_reducible refine (cC.out _).mono ?_); rintro _ w3 ⟨rfl, hk9⟩; have hS1 := hS.keepB hk9; clear hk9 hS; have hS := hS1; clear hS1) | (with_reducible refine wpList_box_st hS rfl rfl rfl ?_; intro gp w1 hS1; clear hS; have hS := hS1; clear hS1) | ((with_reducible refine wpList_loadall_st 1 hS rfl rfl rfl rfl ?_ hsz ?_); focus (simp [rowB, go_sem]; done)) | (go_at_call 36; (with_reducible refine (cG.out _ (hl.out _ hS.fr) (hd.out _ hS.fr)).mono ?_); rintro _ w3 ⟨rfl, hk9⟩; have hS1 := hS.keepB hk9; clear hk9 hS; have hS := hS1; clear hS1) | ((with_reducible refine wpList_storerow_st (t := 38) (n := 27) (vs := Value.int .i64 ci :: .int .i64 cv :: CT) 0 hS rfl rfl rfl rfl (by kernel_rfl) rfl hcl hco (by kernel_rfl) ?_); intro w1 hS1; clear hS; have hS := hS1; clear hS1; try simp only [List.set_cons_zero, List.set_cons_succ, List.setIfInBounds_toArray, List.take_succ_cons, List.take_zero, List.drop_succ_cons, List.drop_zero, List.nil_append, List.cons_append, List.append_nil, List.drop_nil, List.take_nil, List.length_cons, List.length_nil, Nat.zero_add, Nat.add_zero, Nat.reduceAdd] at hS) | (with_reducible refine wpList_box_st hS rfl rfl rfl ?_; intro g1 w1 hS1; clear hS; replace hS := hS1; clear hS1) | (with_reducible refine wpList_box1_st hS rfl rfl rfl ?_; intro g1 w1 hS1; clear hS; replace hS := hS1; clear hS1) | (with_reducible refine wpList_alloc_st hS rfl rfl (by assumption) ?_; intro g1 w1 hS1; clear hS; replace hS := hS1; clear hS1) | (with_reducible refine wpList_alloc1_st hS rfl rfl (by assumption) rfl ?_; intro g1 w1 hS1; clear hS; replace hS := hS1; clear hS1) | ((with_reducible refine wpList_load_st 0 hS rfl rfl rfl rfl ?_ rfl ?_); focus (simp [scalarB, go_sem]; done)) | ((with_reducible refine wpList_loadall_st 0 hS rfl rfl rfl rfl ?_ (by kernel_rfl) ?_); focus (simp [rowB, go_sem]; done)) | ((with_reducible refine wpList_store_st 0 hS rfl rfl rfl rfl (by kernel_rfl) rfl rfl ?_); intro w1 hS1; clear hS; replace hS := hS1; clear hS1; try simp only [List.set_cons_zero, List.set_cons_succ, List.setIfInBounds_toArray, List.take_succ_cons, List.take_zero, List.drop_succ_cons, List.drop_zero, List.nil_append, List.cons_append, List.append_nil, List.drop_nil, List.take_nil, List.length_cons, List.length_nil, Nat.zero_add, Nat.add_zero, Nat.reduceAdd] at hS) | ((with_reducible refine wpList_storerow_st 0 hS rfl rfl rfl rfl (by kernel_rfl) rfl rfl rfl rfl ?_); intro w1 hS1; clear hS; replace hS := hS1; clear hS1; try simp only [List.set_cons_zero, List.set_cons_succ, List.setIfInBounds_toArray, List.take_succ_cons, List.take_zero, List.drop_succ_cons, List.drop_zero, List.nil_append, List.cons_append, List.append_nil, List.drop_nil, List.take_nil, List.length_cons, List.length_nil, Nat.zero_add, Nat.add_zero, Nat.reduceAdd] at hS) | ((with_reducible refine wpList_load_st 1 hS rfl rfl rfl rfl ?_ rfl ?_); focus (simp [scalarB, go_sem]; done)) | ((with_reducible refine wpList_loadall_st 1 hS rfl rfl rfl rfl ?_ (by kernel_rfl) ?_); focus (simp [rowB, go_sem]; done)) | ((with_reducible refine wpList_store_st 1 hS rfl rfl rfl rfl (by kernel_rfl) rfl rfl ?_); intro w1 hS1; clear hS; replace hS := hS1; clear hS1; try simp only [List.set_cons_zero, List.set_cons_succ, List.setIfInBounds_toArray, List.take_succ_cons, List.take_zero, List.drop_succ_cons, List.drop_zero, List.nil_append, List.cons_append, List.append_nil, List.drop_nil, List.take_nil, List.length_cons, List.length_nil, Nat.zero_add, Nat.add_zero, Nat.reduceAdd] at hS) | ((with_reducible refine wpList_storerow_st 1 hS rfl rfl rfl rfl (by kernel_rfl) rfl rfl rfl rfl ?_); intro w1 hS1; clear hS; replace hS := hS1; clear hS1; try simp only [List.set_cons_zero, List.set_cons_succ, List.setIfInBounds_toArray, List.take_succ_cons, List.take_zero, List.drop_succ_cons, List.drop_zero, List.nil_append, List.cons_append, List.append_nil, List.drop_nil, List.take_nil, List.length_cons, List.length_nil, Nat.zero_add, Nat.add_zero, Nat.reduceAdd] at hS) | ((with_reducible refine wpList_load_st 2 hS rfl rfl rfl rfl ?_ rfl ?_); focus (simp [scalarB, go_sem]; done)) | ((with_reducible refine wpList_loadall_st 2 hS rfl rfl rfl rfl ?_ (by kernel_rfl) ?_); focus (simp [rowB, go_sem]; done)) | ((with_reducible refine wpList_store_st 2 hS rfl rfl rfl rfl (by kernel_rfl) rfl rfl ?_); intro w1 hS1; clear hS; replace hS := hS1; clear hS1; try simp only [List.set_cons_zero, List.set_cons_succ, List.setIfInBounds_toArray, List.take_succ_cons, List.take_zero, List.drop_succ_cons, List.drop_zero, List.nil_append, List.cons_append, List.append_nil, List.drop_nil, List.take_nil, List.length_cons, List.length_nil, Nat.zero_add, Nat.add_zero, Nat.reduceAdd] at hS) | ((with_reducible refine wpList_storerow_st 2 hS rfl rfl rfl rfl (by kernel_rfl) rfl rfl rfl rfl ?_); intro w1 hS1; clear hS; replace hS := hS1; clear hS1; try simp only [List.set_cons_zero, List.set_cons_succ, List.setIfInBounds_toArray, List.take_succ_cons, List.take_zero, List.drop_succ_cons, List.drop_zero, List.nil_append, List.cons_append, List.append_nil, List.drop_nil, List.take_nil, List.length_cons, List.length_nil, Nat.zero_add, Nat.add_zero, Nat.reduceAdd] at hS))
    rw [sgV_zero]
    exact bodyPost_ret (v := .tuple #[.agg #[.int .i64 0, .int .i64 0, .int .u32 0, .int .i64 0, .int .i64 0, .string ⟨#[]⟩, .int .i64 0, .int .i64 0, .string ⟨#[]⟩, .int .i64 0, .int .i64 0, .string ⟨#[]⟩, .int .i64 0, .int .i64 0, .string ⟨#[]⟩, .int .i64 0, .int .i64 0, .string ⟨#[]⟩, .int .i64 0, .int .i64 0, .string ⟨#[]⟩, .int .i64 0, .int .i64 0, .string ⟨#[]⟩, .int .i64 0, .int .i64 0, .string ⟨#[]⟩], .int .i64 8]) (results_blk_tmp Tryd.results33 rfl hS 1 rfl (by kernel_rfl) (by kernel_rfl) rfl) rfl ⟨rfl, hsame.out _ _ hS.drop.drop.drop⟩
  rw [if_neg hv]
  have dv : decide (1099511627776 ≤ cv) = false := decide_eq_false hv
  clear hv
  have hmn := Lib.hid (rows_len27 hok.fl)
  have hmo := Lib.hid (rows_one (l := s.m))
  have hsl := Lib.hid fun W h => (hl.out W h).sl
  have hml := hok.len
  generalize hMR : (s.m.map cdRow).flatten = MR at *
  obtain ⟨f1, f2, f3⟩ := hfin rfl
  rw [f1] at cP
  replace cP := Lib.hid cP
  replace cM := Lib.hid cM
  have hset := rows_set hok.fl _ f2 MC
  rw [hMR, f3] at hset
  have hMl := cdRow_lenT MC hmcf
  have hMo := cdRow_oneT MC
  have hV : sgV (MC, 0) = .tuple #[.agg (cdRow MC).toArray, .int .i64 0] := rfl
  replace hV := Lib.hid hV
  have hmpl := hMl
  replace hset := Lib.hid hset
  replace f3 := Lib.hid f3
  replace hMR := Lib.hid hMR
  clear hfin f1 hgf hgV hwr
  generalize hMT : cdRow MC = MT at *
  replace hMT := Lib.hid hMT
  generalize placeC s.m id = pl at *
  replace f2 := Lib.hid f2
  go_enter Tryd.func33, Tryd.ntmps33
  go_wp2_with (first
    | (go_at_call 52; (with_reducible refine (cC.out _).mono ?_); rintro _ w3 ⟨rfl, hk9⟩; have hS1 := hS.keepB hk9; clear hk9 hS; have hS := hS1; clear hS1) | (with_reducible refine wpList_box_st hS rfl rfl rfl ?_; intro gp w1 hS1; clear hS; have hS := hS1; clear hS1) | ((with_reducible refine wpList_loadall_st 1 hS rfl rfl rfl rfl ?_ hsz ?_); focus (simp [rowB, go_sem]; done)) | (go_at_call 36; (with_reducible refine (cG.out _ (hl.out _ hS.fr) (hd.out _ hS.fr)).mono ?_); rintro _ w3 ⟨rfl, hk9⟩; have hS1 := hS.keepB hk9; clear hk9 hS; have hS := hS1; clear hS1) | ((with_reducible refine wpList_storerow_st (t := 38) (n := 27) (vs := Value.int .i64 ci :: .int .i64 cv :: CT) 0 hS rfl rfl rfl rfl (by kernel_rfl) rfl hcl hco (by kernel_rfl) ?_); intro w1 hS1; clear hS; have hS := hS1; clear hS1; try simp only [List.set_cons_zero, List.set_cons_succ, List.setIfInBounds_toArray, List.take_succ_cons, List.take_zero, List.drop_succ_cons, List.drop_zero, List.nil_append, List.cons_append, List.append_nil, List.drop_nil, List.take_nil, List.length_cons, List.length_nil, Nat.zero_add, Nat.add_zero, Nat.reduceAdd] at hS)
    | ((with_reducible refine wpList_build0_st hS rfl rfl Tryd.underlying35 ec ?_); intro g3 w3 hS1; clear hS; have hS := hS1; clear hS1)
    | ((with_reducible refine wpList_app_st 0 (m := s.m.length) (news := MR) hS rfl rfl rfl Tryd.underlying35 ec rfl (Src.slice Tryd.underlying35 (hsl.out _ hS.fr) hmn.out) rfl hmo.out (by omega) (by unfold maxLen; omega) ?_); intro v6 w6 hS1; clear hS; simp only [List.set_cons_zero, Nat.zero_add, List.nil_append] at hS1; obtain ⟨a5, c5, rfl, -⟩ := hS1.row 0 rfl; have hS := hS1; clear hS1)
    | (with_reducible refine wpList_box_st hS rfl rfl rfl ?_; intro g1 w1 hS1; clear hS; replace hS := hS1; clear hS1) | (with_reducible refine wpList_box1_st hS rfl rfl rfl ?_; intro g1 w1 hS1; clear hS; replace hS := hS1; clear hS1) | (with_reducible refine wpList_alloc_st hS rfl rfl (by assumption) ?_; intro g1 w1 hS1; clear hS; replace hS := hS1; clear hS1) | (with_reducible refine wpList_alloc1_st hS rfl rfl (by assumption) rfl ?_; intro g1 w1 hS1; clear hS; replace hS := hS1; clear hS1) | ((with_reducible refine wpList_load_st 0 hS rfl rfl rfl rfl ?_ rfl ?_); focus (simp [scalarB, go_sem]; done)) | ((with_reducible refine wpList_loadall_st 0 hS rfl rfl rfl rfl ?_ (by kernel_rfl) ?_); focus (simp [rowB, go_sem]; done)) | ((with_reducible refine wpList_store_st 0 hS rfl rfl rfl rfl (by kernel_rfl) rfl rfl ?_); intro w1 hS1; clear hS; replace hS := hS1; clear hS1; try simp only [List.set_cons_zero, List.set_cons_succ, List.setIfInBounds_toArray, List.take_succ_cons, List.take_zero, List.drop_succ_cons, List.drop_zero, List.nil_append, List.cons_append, List.append_nil, List.drop_nil, List.take_nil, List.length_cons, List.length_nil, Nat.zero_add, Nat.add_zero, Nat.reduceAdd] at hS) | ((with_reducible refine wpList_storerow_st 0 hS rfl rfl rfl rfl (by kernel_rfl) rfl rfl rfl rfl ?_); intro w1 hS1; clear hS; replace hS := hS1; clear hS1; try simp only [List.set_cons_zero, List.set_cons_succ, List.setIfInBounds_toArray, List.take_succ_cons, List.take_zero, List.drop_succ_cons, List.drop_zero, List.nil_append, List.cons_append, List.append_nil, List.drop_nil, List.take_nil, List.length_cons, List.length_nil, Nat.zero_add, Nat.add_zero, Nat.reduceAdd] at hS) | ((with_reducible refine wpList_load_st 1 hS rfl rfl rfl rfl ?_ rfl ?_); focus (simp [scalarB, go_sem]; done)) | ((with_reducible refine wpList_loadall_st 1 hS rfl rfl rfl rfl ?_ (by kernel_rfl) ?_); focus (simp [rowB, go_sem]; done)) | ((with_reducible refine wpList_store_st 1 hS rfl rfl rfl rfl (by kernel_rfl) rfl rfl ?_); intro w1 hS1; clear hS; replace hS := hS1; clear hS1; try simp only [List.set_cons_zero, List.set_cons_succ, List.setIfInBounds_toArray, List.take_succ_cons, List.take_zero, List.drop_succ_cons, List.drop_zero, List.nil_append, List.cons_append, List.append_nil, List.drop_nil, List.take_nil, List.length_cons, List.length_nil, Nat.zero_add, Nat.add_zero, Nat.reduceAdd] at hS) | ((with_reducible refine wpList_storerow_st 1 hS rfl rfl rfl rfl (by kernel_rfl) rfl rfl rfl rfl ?_); intro w1 hS1; clear hS; replace hS := hS1; clear hS1; try simp only [List.set_cons_zero, List.set_cons_succ, List.setIfInBounds_toArray, List.take_succ_cons, List.take_zero, List.drop_succ_cons, List.drop_zero, List.nil_append, List.cons_append, List.append_nil, List.drop_nil, List.take_nil, List.length_cons, List.length_nil, Nat.zero_add, Nat.add_zero, Nat.reduceAdd] at hS) | ((with_reducible refine wpList_load_st 2 hS rfl rfl rfl rfl ?_ rfl ?_); focus (simp [scalarB, go_sem]; done)) | ((with_reducible refine wpList_loadall_st 2 hS rfl rfl rfl rfl ?_ (by kernel_rfl) ?_); focus (simp [rowB, go_sem]; done)) | ((with_reducible refine wpList_store_st 2 hS rfl rfl rfl rfl (by kernel_rfl) rfl rfl ?_); intro w1 hS1; clear hS; replace hS := hS1; clear hS1; try simp only [List.set_cons_zero, List.set_cons_succ, List.setIfInBounds_toArray, List.take_succ_cons, List.take_zero, List.drop_succ_cons, List.drop_zero, List.nil_append, List.cons_append, List.append_nil, List.drop_nil, List.take_nil, List.length_cons, List.length_nil, Nat.zero_add, Nat.add_zero, Nat.reduceAdd] at hS) | ((with_reducible refine wpList_storerow_st 2 hS rfl rfl rfl rfl (by kernel_rfl) rfl rfl rfl rfl ?_); intro w1 hS1; clear hS; replace hS := hS1; clear hS1; try simp only [List.set_cons_zero, List.set_cons_succ, List.setIfInBounds_toArray, List.take_succ_cons, List.take_zero, List.drop_succ_cons, List.drop_zero, List.nil_append, List.cons_append, List.append_nil, List.drop_nil, List.take_nil, List.length_cons, List.length_nil, Nat.zero_add, Nat.add_zero, Nat.reduceAdd] at hS) | ((with_reducible refine wpList_load_st 3 hS rfl rfl rfl rfl ?_ rfl ?_); focus (simp [scalarB, go_sem]; done)) | ((with_reducible refine wpList_loadall_st 3 hS rfl rfl rfl rfl ?_ (by kernel_rfl) ?_); focus (simp [rowB, go_sem]; done)) | ((with_reducible refine wpList_store_st 3 hS rfl rfl rfl rfl (by kernel_rfl) rfl rfl ?_); intro w1 hS1; clear hS; replace hS := hS1; clear hS1; try simp only [List.set_cons_zero, List.set_cons_succ, List.setIfInBounds_toArray, List.take_succ_cons, List.take_zero, List.drop_succ_cons, List.drop_zero, List.nil_append, List.cons_append, List.append_nil, List.drop_nil, List.take_nil, List.length_cons, List.length_nil, Nat.zero_add, Nat.add_zero, Nat.reduceAdd] at hS) | ((with_reducible refine wpList_storerow_st 3 hS rfl rfl rfl rfl (by kernel_rfl) rfl rfl rfl rfl ?_); intro w1 hS1; clear hS; replace hS := hS1; clear hS1; try simp only [List.set_cons_zero, List.set_cons_succ, List.setIfInBounds_toArray, List.take_succ_cons, List.take_zero, List.drop_succ_cons, List.drop_zero, List.nil_append, List.cons_append, List.append_nil, List.drop_nil, List.take_nil, List.length_cons, List.length_nil, Nat.zero_add, Nat.add_zero, Nat.reduceAdd] at hS) | ((with_reducible refine wpList_load_st 4 hS rfl rfl rfl rfl ?_ rfl ?_); focus (simp [scalarB, go_sem]; done)) | ((with_reducible refine wpList_loadall_st 4 hS rfl rfl rfl rfl ?_ (by kernel_rfl) ?_); focus (simp [rowB, go_sem]; done)) | ((with_reducible refine wpList_store_st 4 hS rfl rfl rfl rfl (by kernel_rfl) rfl rfl ?_); intro w1 hS1; clear hS; replace hS := hS1; clear hS1; try simp only [List.set_cons_zero, List.set_cons_succ, List.setIfInBounds_toArray, List.take_succ_cons, List.take_zero, List.drop_succ_cons, List.drop_zero, List.nil_append, List.cons_append, List.append_nil, List.drop_nil, List.take_nil, List.length_cons, List.length_nil, Nat.zero_add, Nat.add_zero, Nat.reduceAdd] at hS) | ((with_reducible refine wpList_storerow_st 4 hS rfl rfl rfl rfl (by kernel_rfl) rfl rfl rfl rfl ?_); intro w1 hS1; clear hS; replace hS := hS1; clear hS1; try simp only [List.set_cons_zero, List.set_cons_succ, List.setIfInBounds_toArray, List.take_succ_cons, List.take_zero, List.drop_succ_cons, List.drop_zero, List.nil_append, List.cons_append, List.append_nil, List.drop_nil, List.take_nil, List.length_cons, List.length_nil, Nat.zero_add, Nat.add_zero, Nat.reduceAdd] at hS))
  have hS1 := hS.re5w
  clear hS
  have hS := hS1
  clear hS1
  obtain ⟨g5, c6, e6, -, -⟩ := hS.rowat 3 rfl (by have := f2.out; omega)
  cases e6
  have hi1 : (0 : Int) ≤ (pl : Int) := Int.natCast_nonneg _
  have hi2 : (pl : Int) < (s.m.length : Int) := by have := f2.out; omega
  have hi3 : pl < s.m.length := f2.out
  have hrc : ((Value.int .i64 ci :: .int .i64 cv :: CT).toArray.toList.drop 0).take 27 = Value.int .i64 ci :: .int .i64 cv :: CT := by simp [← hcl]
  have hrp : (RP.toArray.toList.drop 0).take 26 = RP := by simp [← hpl]
  refine mixs_beginC3 (by kernel_rfl) hS ?_
  clear hS
  intro w2 hS hC
  have kc := hC.krow (P := Tryd.prog) (j := 0) 0 rfl (t := 38) (by kernel_rfl) (n := 27) (by kernel_rfl) hrc hcl
  have ks := hC.krow (P := Tryd.prog) (j := 0) 1 rfl (t := 50) (by kernel_rfl) (n := 3) (by kernel_rfl) rfl rfl
  have kp := hC.krow (P := Tryd.prog) (j := 0) 2 rfl (t := 30) (by kernel_rfl) (n := 26) (by kernel_rfl) hrp hpl
  refine mixs_take 0 (v := ?_) rfl (by kernel_rfl) (fun _ _ _ h => h) (by kernel_rfl) (by assumption) (fun s => ?hy) ?_; case hy => (go_simp <;> with_reducible rfl)
  try simp only [List.getElem_toArray, List.getElem_cons_succ, List.getElem_cons_zero, Act.put, List.setIfInBounds_toArray, List.set_cons_zero, List.set_cons_succ]
  refine mixs_take 1 (v := ?_) rfl (by kernel_rfl) (fun _ _ _ h => h) (by kernel_rfl) (by assumption) (fun s => ?hy) ?_; case hy => (go_simp <;> with_reducible rfl)
  try simp only [List.getElem_toArray, List.getElem_cons_succ, List.getElem_cons_zero, Act.put, List.setIfInBounds_toArray, List.set_cons_zero, List.set_cons_succ]
  refine mixs_take 2 (v := ?_) rfl (by kernel_rfl) (fun _ _ _ h => h) (by kernel_rfl) (by assumption) (fun s => ?hy) ?_; case hy => (go_simp <;> with_reducible rfl)
  try simp only [List.getElem_toArray, List.getElem_cons_succ, List.getElem_cons_zero, Act.put, List.setIfInBounds_toArray, List.set_cons_zero, List.set_cons_succ]
  refine mixs_take 3 (v := ?_) rfl (by kernel_rfl) (fun _ _ _ h => h) (by kernel_rfl) (by assumption) (fun s => ?hy) ?_; case hy => (refine Eq.trans (take_loadrow s rfl rfl ks) ?_; with_reducible rfl)
  try simp only [List.getElem_toArray, List.getElem_cons_succ, List.getElem_cons_zero, Act.put, List.setIfInBounds_toArray, List.set_cons_zero, List.set_cons_succ]
  refine mixs_take 4 (v := ?_) rfl (by kernel_rfl) (fun _ _ _ h => h) (by kernel_rfl) (by assumption) (fun s => ?hy) ?_; case hy => (go_simp <;> with_reducible rfl)
  try simp only [List.getElem_toArray, List.getElem_cons_succ, List.getElem_cons_zero, Act.put, List.setIfInBounds_toArray, List.set_cons_zero, List.set_cons_succ]
  refine mixs_take 6 (v := ?_) rfl (by kernel_rfl) (fun _ _ _ h => h) (by kernel_rfl) (by assumption) (fun s => ?hy) ?_; case hy => (refine Eq.trans (take_loadrow s rfl rfl kc) ?_; with_reducible rfl)
  try simp only [List.getElem_toArray, List.getElem_cons_succ, List.getElem_cons_zero, Act.put, List.setIfInBounds_toArray, List.set_cons_zero, List.set_cons_succ]
  refine mixs_take 7 (v := ?_) rfl (by kernel_rfl) (fun _ _ _ h => h) (by kernel_rfl) (by assumption) (fun s => ?hy) ?_; case hy => (refine Eq.trans (take_loadrow s rfl rfl kp) ?_; with_reducible rfl)
  try simp only [List.getElem_toArray, List.getElem_cons_succ, List.getElem_cons_zero, Act.put, List.setIfInBounds_toArray, List.set_cons_zero, List.set_cons_succ]
  refine mixs_one 5 (by kernel_rfl) rfl (fun K hK => ?_)
  go_simp
  ( first | (go_at_call 43; (with_reducible refine (cP.out _ (hl.out _ hS.fr)).mono ?_); rintro _ w3 ⟨rfl, hk9⟩; have hS1 := hS.keepB hk9; clear hk9 hS; have hS := hS1; clear hS1) | (go_at_call 13; (with_reducible refine (cM.out _).mono ?_); rintro _ w3 ⟨rfl, hk9⟩; have hS1 := hS.keepB hk9; clear hk9 hS; have hS := hS1; clear hS1) | (refine op_storeelemw_st (by kernel_rfl) 3 pl (size := 27) (vs := MT) hS rfl rfl rfl (by simp) (by kernel_rfl) rfl hMl hMo f2.out ?_; intro w6 hS1; clear hS; have hS := hS1; clear hS1; try simp only [List.set_cons_zero, List.set_cons_succ] at hS) )
  try clear hC
  refine hK.out _ _ _ (fun _ h => h) (by first | exact hS | exact hS.drop | exact hS.drop.drop | exact hS.drop.drop.drop | exact hS.drop.drop.drop.drop | exact hS.empty | exact hS.one 0 rfl | exact hS.one 1 rfl | exact hS.one 2 rfl | exact hS.one 3 rfl | exact hS.one 4 rfl | exact hS.one 5 rfl | exact hS.one 6 rfl | exact hS.one 7 rfl | exact hS.one 8 rfl | exact hS.one 9 rfl | exact hS.one 10 rfl | exact hS.one 11 rfl | exact hS.fore2 | exact hS.fore3 | exact hS.drop.fore2) (fun hC => ?_)
  clear hK K
  try simp only [List.getElem_toArray, List.getElem_cons_succ, List.getElem_cons_zero, Act.put, List.setIfInBounds_toArray, List.set_cons_zero, List.set_cons_succ]
  refine mixs_one 8 (by kernel_rfl) rfl (fun K hK => ?_)
  go_simp
  ( first | (go_at_call 43; (with_reducible refine (cP.out _ (hl.out _ hS.fr)).mono ?_); rintro _ w3 ⟨rfl, hk9⟩; have hS1 := hS.keepB hk9; clear hk9 hS; have hS := hS1; clear hS1) | (go_at_call 13; (with_reducible refine (cM.out _).mono ?_); rintro _ w3 ⟨rfl, hk9⟩; have hS1 := hS.keepB hk9; clear hk9 hS; have hS := hS1; clear hS1) | (refine op_storeelemw_st (by kernel_rfl) 3 pl (size := 27) (vs := MT) hS rfl rfl rfl (by simp) (by kernel_rfl) rfl hMl hMo f2.out ?_; intro w6 hS1; clear hS; have hS := hS1; clear hS1; try simp only [List.set_cons_zero, List.set_cons_succ] at hS) )
  try clear hC
  refine hK.out _ _ _ (fun _ h => h) (by first | exact hS | exact hS.drop | exact hS.drop.drop | exact hS.drop.drop.drop | exact hS.drop.drop.drop.drop | exact hS.empty | exact hS.one 0 rfl | exact hS.one 1 rfl | exact hS.one 2 rfl | exact hS.one 3 rfl | exact hS.one 4 rfl | exact hS.one 5 rfl | exact hS.one 6 rfl | exact hS.one 7 rfl | exact hS.one 8 rfl | exact hS.one 9 rfl | exact hS.one 10 rfl | exact hS.one 11 rfl | exact hS.fore2 | exact hS.fore3 | exact hS.drop.fore2) (fun hC => ?_)
  clear hK K
  try simp only [List.getElem_toArray, List.getElem_cons_succ, List.getElem_cons_zero, Act.put, List.setIfInBounds_toArray, List.set_cons_zero, List.set_cons_succ]
  refine mixs_take 9 (v := ?_) rfl (by kernel_rfl) (fun _ _ _ h => h) (by kernel_rfl) (by assumption) (fun s => ?hy) ?_; case hy => (go_simp <;> with_reducible rfl)
  try simp only [List.getElem_toArray, List.getElem_cons_succ, List.getElem_cons_zero, Act.put, List.setIfInBounds_toArray, List.set_cons_zero, List.set_cons_succ]
  refine mixs_one 10 (by kernel_rfl) rfl (fun K hK => ?_)
  ( first | (go_at_call 43; (with_reducible refine (cP.out _ (hl.out _ hS.fr)).mono ?_); rintro _ w3 ⟨rfl, hk9⟩; have hS1 := hS.keepB hk9; clear hk9 hS; have hS := hS1; clear hS1) | (go_at_call 13; (with_reducible refine (cM.out _).mono ?_); rintro _ w3 ⟨rfl, hk9⟩; have hS1 := hS.keepB hk9; clear hk9 hS; have hS := hS1; clear hS1) | (refine op_storeelemw_st (by kernel_rfl) 3 pl (size := 27) (vs := MT) hS rfl rfl rfl (by simp) (by kernel_rfl) rfl hMl hMo f2.out ?_; intro w6 hS1; clear hS; have hS := hS1; clear hS1; try simp only [List.set_cons_zero, List.set_cons_succ] at hS) )
  try clear hC
  refine hK.out _ _ _ (fun _ h => h) (by first | exact hS | exact hS.drop | exact hS.drop.drop | exact hS.drop.drop.drop | exact hS.drop.drop.drop.drop | exact hS.empty | exact hS.one 0 rfl | exact hS.one 1 rfl | exact hS.one 2 rfl | exact hS.one 3 rfl | exact hS.one 4 rfl | exact hS.one 5 rfl | exact hS.one 6 rfl | exact hS.one 7 rfl | exact hS.one 8 rfl | exact hS.one 9 rfl | exact hS.one 10 rfl | exact hS.one 11 rfl | exact hS.fore2 | exact hS.fore3 | exact hS.drop.fore2) (fun hC => ?_)
  clear hK K
  try simp only [List.getElem_toArray, List.getElem_cons_succ, List.getElem_cons_zero, Act.put, List.setIfInBounds_toArray, List.set_cons_zero, List.set_cons_succ]
  refine wpAnyH_done (by kernel_rfl) ?_ _
  clear kc ks kp
  go_wp2_with (first
    | (go_at_call 13; (with_reducible refine (cM.out _).mono ?_); rintro _ w3 ⟨rfl, hk9⟩; have hS1 := hS.keepB hk9; clear hk9 hS; have hS := hS1; clear hS1)
    | (with_reducible refine (wpList_loadrow_st (t := 38) (n := 27) (j := 0) (vs := Value.int .i64 ci :: .int .i64 cv :: CT) 0 hS rfl rfl rfl rfl (by kernel_rfl) (by kernel_rfl) hrc hcl ?_))
    | ((with_reducible refine wpList_loadall_st 2 hS rfl rfl rfl rfl ?_ hsz ?_); focus (simp [rowB, go_sem]; done))
    | ((with_reducible refine wpList_storerow_st (t := 38) (n := 27) (vs := MT) 4 hS rfl rfl rfl rfl (by kernel_rfl) rfl hMl hMo (by kernel_rfl) ?_); intro w1 hS1; clear hS; have hS := hS1; clear hS1; try simp only [List.set_cons_zero, List.set_cons_succ, List.setIfInBounds_toArray, List.take_succ_cons, List.take_zero, List.drop_succ_cons, List.drop_zero, List.nil_append, List.cons_append, List.append_nil, List.drop_nil, List.take_nil, List.length_cons, List.length_nil, Nat.zero_add, Nat.add_zero, Nat.reduceAdd] at hS)
    | (with_reducible refine wpList_box_st hS rfl rfl rfl ?_; intro g1 w1 hS1; clear hS; replace hS := hS1; clear hS1) | (with_reducible refine wpList_box1_st hS rfl rfl rfl ?_; intro g1 w1 hS1; clear hS; replace hS := hS1; clear hS1) | (with_reducible refine wpList_alloc_st hS rfl rfl (by assumption) ?_; intro g1 w1 hS1; clear hS; replace hS := hS1; clear hS1) | (with_reducible refine wpList_alloc1_st hS rfl rfl (by assumption) rfl ?_; intro g1 w1 hS1; clear hS; replace hS := hS1; clear hS1) | ((with_reducible refine wpList_load_st 0 hS rfl rfl rfl rfl ?_ rfl ?_); focus (simp [scalarB, go_sem]; done)) | ((with_reducible refine wpList_loadall_st 0 hS rfl rfl rfl rfl ?_ (by kernel_rfl) ?_); focus (simp [rowB, go_sem]; done)) | ((with_reducible refine wpList_store_st 0 hS rfl rfl rfl rfl (by kernel_rfl) rfl rfl ?_); intro w1 hS1; clear hS; replace hS := hS1; clear hS1; try simp only [List.set_cons_zero, List.set_cons_succ, List.setIfInBounds_toArray, List.take_succ_cons, List.take_zero, List.drop_succ_cons, List.drop_zero, List.nil_append, List.cons_append, List.append_nil, List.drop_nil, List.take_nil, List.length_cons, List.length_nil, Nat.zero_add, Nat.add_zero, Nat.reduceAdd] at hS) | ((with_reducible refine wpList_storerow_st 0 hS rfl rfl rfl rfl (by kernel_rfl) rfl rfl rfl rfl ?_); intro w1 hS1; clear hS; replace hS := hS1; clear hS1; try simp only [List.set_cons_zero, List.set_cons_succ, List.setIfInBounds_toArray, List.take_succ_cons, List.take_zero, List.drop_succ_cons, List.drop_zero, List.nil_append, List.cons_append, List.append_nil, List.drop_nil, List.take_nil, List.length_cons, List.length_nil, Nat.zero_add, Nat.add_zero, Nat.reduceAdd] at hS) | ((with_reducible refine wpList_load_st 1 hS rfl rfl rfl rfl ?_ rfl ?_); focus (simp [scalarB, go_sem]; done)) | ((with_reducible refine wpList_loadall_st 1 hS rfl rfl rfl rfl ?_ (by kernel_rfl) ?_); focus (simp [rowB, go_sem]; done)) | ((with_reducible refine wpList_store_st 1 hS rfl rfl rfl rfl (by kernel_rfl) rfl rfl ?_); intro w1 hS1; clear hS; replace hS := hS1; clear hS1; try simp only [List.set_cons_zero, List.set_cons_succ, List.setIfInBounds_toArray, List.take_succ_cons, List.take_zero, List.drop_succ_cons, List.drop_zero, List.nil_append, List.cons_append, List.append_nil, List.drop_nil, List.take_nil, List.length_cons, List.length_nil, Nat.zero_add, Nat.add_zero, Nat.reduceAdd] at hS) | ((with_reducible refine wpList_storerow_st 1 hS rfl rfl rfl rfl (by kernel_rfl) rfl rfl rfl rfl ?_); intro w1 hS1; clear hS; replace hS := hS1; clear hS1; try simp only [List.set_cons_zero, List.set_cons_succ, List.setIfInBounds_toArray, List.take_succ_cons, List.take_zero, List.drop_succ_cons, List.drop_zero, List.nil_append, List.cons_append, List.append_nil, List.drop_nil, List.take_nil, List.length_cons, List.length_nil, Nat.zero_add, Nat.add_zero, Nat.reduceAdd] at hS) | ((with_reducible refine wpList_load_st 2 hS rfl rfl rfl rfl ?_ rfl ?_); focus (simp [scalarB, go_sem]; done)) | ((with_reducible refine wpList_loadall_st 2 hS rfl rfl rfl rfl ?_ (by kernel_rfl) ?_); focus (simp [rowB, go_sem]; done)) | ((with_reducible refine wpList_store_st 2 hS rfl rfl rfl rfl (by kernel_rfl) rfl rfl ?_); intro w1 hS1; clear hS; replace hS := hS1; clear hS1; try simp only [List.set_cons_zero, List.set_cons_succ, List.setIfInBounds_toArray, List.take_succ_cons, List.take_zero, List.drop_succ_cons, List.drop_zero, List.nil_append, List.cons_append, List.append_nil, List.drop_nil, List.take_nil, List.length_cons, List.length_nil, Nat.zero_add, Nat.add_zero, Nat.reduceAdd] at hS) | ((with_reducible refine wpList_storerow_st 2 hS rfl rfl rfl rfl (by kernel_rfl) rfl rfl rfl rfl ?_); intro w1 hS1; clear hS; replace hS := hS1; clear hS1; try simp only [List.set_cons_zero, List.set_cons_succ, List.setIfInBounds_toArray, List.take_succ_cons, List.take_zero, List.drop_succ_cons, List.drop_zero, List.nil_append, List.cons_append, List.append_nil, List.drop_nil, List.take_nil, List.length_cons, List.length_nil, Nat.zero_add, Nat.add_zero, Nat.reduceAdd] at hS) | ((with_reducible refine wpList_load_st 3 hS rfl rfl rfl rfl ?_ rfl ?_); focus (simp [scalarB, go_sem]; done)) | ((with_reducible refine wpList_loadall_st 3 hS rfl rfl rfl rfl ?_ (by kernel_rfl) ?_); focus (simp [rowB, go_sem]; done)) | ((with_reducible refine wpList_store_st 3 hS rfl rfl rfl rfl (by kernel_rfl) rfl rfl ?_); intro w1 hS1; clear hS; replace hS := hS1; clear hS1; try simp only [List.set_cons_zero, List.set_cons_succ, List.setIfInBounds_toArray, List.take_succ_cons, List.take_zero, List.drop_succ_cons, List.drop_zero, List.nil_append, List.cons_append, List.append_nil, List.drop_nil, List.take_nil, List.length_cons, List.length_nil, Nat.zero_add, Nat.add_zero, Nat.reduceAdd] at hS) | ((with_reducible refine wpList_storerow_st 3 hS rfl rfl rfl rfl (by kernel_rfl) rfl rfl rfl rfl ?_); intro w1 hS1; clear hS; replace hS := hS1; clear hS1; try simp only [List.set_cons_zero, List.set_cons_succ, List.setIfInBounds_toArray, List.take_succ_cons, List.take_zero, List.drop_succ_cons, List.drop_zero, List.nil_append, List.cons_append, List.append_nil, List.drop_nil, List.take_nil, List.length_cons, List.length_nil, Nat.zero_add, Nat.add_zero, Nat.reduceAdd] at hS) | ((with_reducible refine wpList_load_st 4 hS rfl rfl rfl rfl ?_ rfl ?_); focus (simp [scalarB, go_sem]; done)) | ((with_reducible refine wpList_loadall_st 4 hS rfl rfl rfl rfl ?_ (by kernel_rfl) ?_); focus (simp [rowB, go_sem]; done)) | ((with_reducible refine wpList_store_st 4 hS rfl rfl rfl rfl (by kernel_rfl) rfl rfl ?_); intro w1 hS1; clear hS; replace hS := hS1; clear hS1; try simp only [List.set_cons_zero, List.set_cons_succ, List.setIfInBounds_toArray, List.take_succ_cons, List.take_zero, List.drop_succ_cons, List.drop_zero, List.nil_append, List.cons_append, List.append_nil, List.drop_nil, List.take_nil, List.length_cons, List.length_nil, Nat.zero_add, Nat.add_zero, Nat.reduceAdd] at hS) | ((with_reducible refine wpList_storerow_st 4 hS rfl rfl rfl rfl (by kernel_rfl) rfl rfl rfl rfl ?_); intro w1 hS1; clear hS; replace hS := hS1; clear hS1; try simp only [List.set_cons_zero, List.set_cons_succ, List.setIfInBounds_toArray, List.take_succ_cons, List.take_zero, List.drop_succ_cons, List.drop_zero, List.nil_append, List.cons_append, List.append_nil, List.drop_nil, List.take_nil, List.length_cons, List.length_nil, Nat.zero_add, Nat.add_zero, Nat.reduceAdd] at hS))
  have hsf : sizeB Tryd.prog 38 MT.toArray.size = true := by rw [List.size_toArray, hMl]; kernel_rfl
  rw [hV.out]
  refine bodyPost_ret (v := .tuple #[.agg MT.toArray, .int .i64 0]) (results_blk_tmp Tryd.results33 rfl hS 4 rfl (by kernel_rfl) hsf rfl) rfl ⟨rfl, some ⟨g5, 0, none⟩, c5, [_], ?_, .inr rfl⟩
  have e1 : rsRow ⟨s.next, putC s.m MC, s.dead⟩ (some ⟨g5, 0, none⟩) c5 da dc = [.int .i64 s.next, .slice (some ⟨g5, 0, none⟩) s.m.length c5, .slice da s.dead.length dc] := by unfold rsRow; rw [putC_length]
  rw [e1]
  dsimp only
  rw [putC_length, ← hset.out]
  exact hS.drop.drop1.fore2
end Go.Proofs.YtneolmnpebiifaaDoor
end
