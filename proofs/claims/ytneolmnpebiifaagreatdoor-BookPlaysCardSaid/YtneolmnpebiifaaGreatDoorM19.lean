import Derived.Test.YtneolmnpebiifaaGreatDoorM18
set_option linter.unusedVariables false
set_option linter.unusedSimpArgs false
set_option maxRecDepth 100000
section
namespace Go.Ofp
open Go.RowKit
theorem results_blk_tmp {P : Program} {fn : Func} {a b : Tmp} {t : TypeId} (h : fn.results = #[.cell a t, .tmp b]) {tmps : Array Value} {g : Nat} (ht : tmps.getD a undef = .pointer (some ⟨g, 0, none⟩)) {w0 w : World} {F : List Nat} {L : List Ch} (hS : St w0 F L w) (i : Nat) {T : TypeId} {cs : Array Value}
 (hi : L[i]? = some (Ch.blk g T cs)) (hu : rowB P t = true) (hsz : sizeB P t cs.size = true) {v : Value} (hv : tmps.getD b undef = v) : (results fn tmps).run P w = .ok (.tuple #[.agg cs, v]) w := by
 have hr := run_loadrow (P := P) (w := w) hu hsz (g := g) (j := 0) (vs := cs.toList) (by simp) (Whole.range (hS.get i hi) 0 fun k v hk => by simpa using hk)
 have hl : (loadVar t ⟨g, 0, none⟩).run P w = .ok (.agg cs) w := by simpa [Instr.loadAt, Instr.sureAddr] using hr
 have ht' : tmps[a]?.getD undef = .pointer (some ⟨g, 0, none⟩) := by simpa using ht
 have hv' : tmps[b]?.getD undef = v := by simpa using hv
 unfold results
 simp [h, ht', asAddr, hl, hv']
end Go.Ofp
end
section
namespace Go.Ofp
def largeF (f : List Vl) : Bool := f.any fun v => decide (200 < v.s.size)
end Go.Ofp
namespace Go.Proofs.YtneolmnpebiifaaGreatDoor
open Go.RowKit Go.Ofp
set_option maxHeartbeats 4000000
theorem fl_str (f : List Vl) (k : Nat) (v : Vl) (hv : f[k]? = some v) : (flRow f)[k * 3 + 2]? = some (.string v.s) := by
 have h := fl_at [] f k v hv
 simp only [List.nil_append, List.length_nil, Nat.zero_add] at h
 have := congrArg (fun l => l[2]?) h
 simpa [List.getElem?_take, List.getElem?_drop, vlRow] using this
theorem large6_any (f : List Vl) (hf : f.length = 8) (w : World) : Calls Tryz.prog 32 #[.agg (flRow f).toArray] w fun e w' => e = .returned (.bool (largeF f)) ∧ Below w.heap.size w w' := by
 have hS := St.start w
 go_enter Tryz.func32, Tryz.ntmps32
 go_wp2_with ((with_reducible refine wpList_box_st (L := []) hS rfl rfl rfl ?_; clear hS; intro gc w1 hS))
 go_loopg [3] 8 (fun gk vx wr => ∃ k : Nat, k + gk = 8 ∧ vx = .int .i64 k ∧ Hid (largeF (f.take k) = false) ∧ wr = w1)
 case atStart => exact ⟨0, Nat.zero_add _, rfl, Lib.hid rfl, rfl⟩
 case round =>
  obtain ⟨k, hk, rfl, hr, rfl⟩ := hrel
  have hc := hS.cell 0 rfl (k * 3 + 2)
  by_cases hlt : k < 8
  · obtain ⟨v, hv⟩ : ∃ v, f[k]? = some v := ⟨_, List.getElem?_eq_getElem (by omega)⟩
    rw [List.getElem?_toArray, fl_str f k v hv] at hc
    by_cases hx : 200 < v.s.size
    · go_wp2_with fail
      go_ret
      have : largeF f = true := by
       rw [largeF, List.any_eq_true]
       exact ⟨v, List.mem_of_getElem? hv, decide_eq_true hx⟩
      exact ⟨by rw [this]; rfl, hS.below⟩
    · have hnext : largeF (f.take (k + 1)) = false := by
       obtain ⟨h1, h2⟩ := List.getElem?_eq_some_iff.1 hv
       rw [List.take_succ_eq_append_getElem h1, largeF, List.any_append, h2]
       have := hr.out
       rw [largeF] at this
       rw [this]
       simpa using hx
      replace hnext := Lib.hid hnext
      have hxb : decide ((200 : Int) < (v.s.size : Int)) = false := decide_eq_false (by omega)
      clear hx hr
      go_wp2_with fail
      go_roundg (8 - (k + 1))
      case measure => omega
      case rel => exact ⟨k + 1, by omega, by go_num, hnext, rfl⟩
  · obtain rfl : k = 8 := by omega
    have hr2 := hr.out
    rw [List.take_of_length_le (by omega)] at hr2
    clear hc
    go_wp2_with fail
    go_ret
    exact ⟨by rw [hr2]; rfl, hS.below⟩
end Go.Proofs.YtneolmnpebiifaaGreatDoor
end
section
namespace Go.Ofp
def It.may (ok : Cd → Bool) (x : It) : Bool :=
 if x.kind = 1 ∨ x.kind = 3 then ok x.c else if x.kind = 2 then decide (x.c = Cd.none x.c.id) else false
section
variable {ok : Cd → Bool}
end
end Go.Ofp
end
section
namespace Go.Proofs.YtneolmnpebiifaaGreatDoor
open Go.RowKit Go.Ofp
set_option maxHeartbeats 4000000
theorem part_i (R : List Value) (j : Nat) (x : Int) (h : R[j]? = some (.int .i64 x)) (w : World) : (part 3 R.toArray j).run Tryz.prog w = .ok (.int .i64 x) w := by
 have h' : R.toArray[j]? = some (.int .i64 x) := by simpa using h
 unfold part
 go_simp
end Go.Proofs.YtneolmnpebiifaaGreatDoor
end
section
namespace Go.Ofp
open Go.RowKit
theorem Lst.imp {α : Type} {row : α → List Value} {In In' : α → Prop} {w : World} {a : Option Addr} {n c : Nat} {l : List α} (h : Lst row In w a n c l) (f : ∀ x, In x → In' x) : Lst row In' w a n c l := ⟨h.sl, h.len, h.le, h.cm, fun x hx => f x (h.mem x hx)⟩
end Go.Ofp
namespace Go.Proofs.YtneolmnpebiifaaGreatDoor
open Go.RowKit Go.Ofp
set_option maxHeartbeats 4000000
theorem csame_any (a b : Option Addr) (n m ca cb : Nat) (l k : List Cd) (w : World) (hl : Lst cdRow (fun x => x.f.length = 8) w a n ca l) (hk : Lst cdRow (fun x => x.f.length = 8) w b m cb k) (hn : n ≤ 50000) (hm : m ≤ 50000) :
 Calls Tryz.prog 20 #[.slice a n ca, .slice b m cb] w fun e w' => e = .returned (.bool (decide (l = k))) ∧ Below w.heap.size w w' := by
 have hS := St.start w
 have hG := guard_cd
 have hln := Lib.hid hl.len
 have hkn := Lib.hid hk.len
 have hll := Lib.hid (show ∀ x ∈ l, (cdRow x).length = 27 from fun x hx => cdRow_lenT _ (hl.mem x hx))
 have hkl := Lib.hid (show ∀ x ∈ k, (cdRow x).length = 27 from fun x hx => cdRow_lenT _ (hk.mem x hx))
 have hlb := Lib.hid (hl.base (by decide) hll.out)
 have hkb := Lib.hid (hk.base (by decide) hkl.out)
 have hE0 := Lib.hid fun (x y : Cd) (hx : x ∈ l) (hy : y ∈ k) (W : World) => neq_cd x y (hl.mem x hx) (hk.mem y hy) W
 by_cases hnm : n = m
 · subst hnm
   obtain ⟨R, hR⟩ : ∃ R, decide (l = k) = R := ⟨_, rfl⟩
   rw [hR]
   replace hR := Lib.hid hR
   replace hl := Lib.hid hl
   replace hk := Lib.hid hk
   go_enter Tryz.func20, Tryz.ntmps20
   go_wp2_with fail
   go_loopg [5] n (fun gk vx wr => ∃ j : Nat, j + gk = n ∧ vx = .int .i64 j ∧ Hid (l.take j = k.take j) ∧ St w [] [] wr)
   case atStart => exact ⟨0, Nat.zero_add _, rfl, Lib.hid rfl, hS⟩
   case round =>
    clear hS
    obtain ⟨j, hj, rfl, hr, hS⟩ := hrel
    by_cases hlt : j < n
    · have hjl : j < l.length := by rw [hln.out]; exact hlt
      have hjk : j < k.length := by rw [hkn.out]; exact hlt
      obtain ⟨b1, o1, rfl⟩ := hlb.out (by omega)
      obtain ⟨b2, o2, rfl⟩ := hkb.out (by omega)
      have hE := hE0.out l[j] k[j] (List.getElem_mem hjl) (List.getElem_mem hjk)
      have r1 := hl.out.rowb hll.out j hjl
      have r2 := hk.out.rowb hkl.out j hjk
      have l1 := hll.out _ (List.getElem_mem hjl)
      have l2 := hkl.out _ (List.getElem_mem hjk)
      have hsz : sizeB Tryz.prog 58 27 = true := by kernel_rfl
      have kR1 := hS.kold_row (P := Tryz.prog) (t := 58) r1 (by kernel_rfl) hsz l1
      have kR2 := hS.kold_row (P := Tryz.prog) (t := 58) r2 (by kernel_rfl) hsz l2
      clear r1 r2 l1 l2
      by_cases hx : l[j] = k[j]
      · have hr2 : l.take (j + 1) = k.take (j + 1) := by rw [List.take_succ_eq_append_getElem hjl, List.take_succ_eq_append_getElem hjk, hr.out, hx]
        rw [decide_eq_true hx] at hE
        simp only [Bool.not_true] at hE
        replace hr2 := Lib.hid hr2
        clear hx
        generalize cdRow l[j] = R1 at *
        generalize cdRow k[j] = R2 at *
        go_wp2_with fail
        refine mixs_begin (by kernel_rfl) hS ?_
        clear hS
        intro w2 hS
        refine tk 0 ?_
        refine tk 1 ?_
        refine tk 2 ?_
        refine tkr 3 kR1 ?_
        refine tk 4 ?_
        refine tk 5 ?_
        refine tk 6 ?_
        refine tkr 7 kR2 ?_
        refine tk 8 ?_
        refine wpAnyH_done (by kernel_rfl) ?_ _
        clear kR1 kR2
        go_wp2_with fail
        go_roundg (n - (j + 1))
        case measure => omega
        case rel => exact ⟨j + 1, by omega, by go_num, hr2, hS⟩
      · have hR2 : R = false := by
         rw [← hR.out, decide_eq_false_iff_not]
         intro e
         subst e
         exact hx rfl
        rw [decide_eq_false hx] at hE
        simp only [Bool.not_false] at hE
        replace hR2 := Lib.hid hR2
        clear hx
        generalize cdRow l[j] = R1 at *
        generalize cdRow k[j] = R2 at *
        go_wp2_with fail
        refine mixs_begin (by kernel_rfl) hS ?_
        clear hS
        intro w2 hS
        refine tk 0 ?_
        refine tk 1 ?_
        refine tk 2 ?_
        refine tkr 3 kR1 ?_
        refine tk 4 ?_
        refine tk 5 ?_
        refine tk 6 ?_
        refine tkr 7 kR2 ?_
        refine tk 8 ?_
        refine wpAnyH_done (by kernel_rfl) ?_ _
        clear kR1 kR2
        go_wp2_with fail
        go_ret
        exact ⟨by rw [hR2.out]; rfl, hS.below⟩
    · obtain rfl : j = n := by omega
      have hR2 : R = true := by
       rw [← hR.out, decide_eq_true_iff]
       have e1 := hr.out
       rwa [List.take_of_length_le (by rw [hln.out]; exact Nat.le_refl _), List.take_of_length_le (by rw [hkn.out]; exact Nat.le_refl _)] at e1
      replace hR2 := Lib.hid hR2
      go_wp2_with fail
      go_ret
      exact ⟨by rw [hR2.out]; rfl, hS.below⟩
 · have e : decide (l = k) = false := by rw [decide_eq_false_iff_not]; intro e; subst e; exact hnm (hln.out.symm.trans hkn.out)
   have hb : ((n : Int) != (m : Int)) = true := by simp; omega
   rw [e]
   replace hl := Lib.hid hl
   replace hk := Lib.hid hk
   clear hnm e
   go_enter Tryz.func20, Tryz.ntmps20
   go_wp2_with fail
   go_ret
   exact ⟨rfl, hS.below⟩
end Go.Proofs.YtneolmnpebiifaaGreatDoor
end
section
namespace Go.Ofp
open Go.RowKit
theorem St.lst {α : Type} {row : α → List Value} {In : α → Prop} {w0 w : World} {F : List Nat} {L : List Ch} {e size n c : Nat} {a : Option Addr} {l : List α} (h : St w0 F L w) (i : Nat) (hi : L[i]? = some (Ch.row e size (.slice a n c) n (l.map row).flatten)) (hl : l.length = n) (hm : ∀ x ∈ l, In x) : Lst row In w a n c l := by
 obtain ⟨a', cap, e', hs, -, h1, h2⟩ := h.row i hi
 cases e'
 exact ⟨hs, hl, h1, h2, hm⟩
end Go.Ofp
end
section
namespace Go.Ofp
open Go.RowKit
structure CdOk (c : Cd) : Prop where
 f : c.f.length = 8
 id : -9223372036854775808 ≤ c.id ∧ c.id ≤ 9223372036854775807
structure ItOk (x : It) : Prop where
 c : CdOk x.c
 kind : x.kind = 1 ∨ x.kind = 2 ∨ x.kind = 3
end Go.Ofp
namespace Go.Proofs.YtneolmnpebiifaaGreatDoor
open Go.RowKit Go.Ofp
set_option maxHeartbeats 4000000
theorem cdRow_oneT (c : Cd) : (cdRow c).all Value.oneCell' = true := by
 simp only [cdRow, List.all_cons, fl_one]
 rfl
theorem zero_card (W : World) : (zeroValue 58).run Tryz.prog W = .ok (.agg (cdRow (Cd.none 0)).toArray) W := by kernel_rfl
theorem ckeys_st (mb : Option Nat) (W : World) : Calls Tryz.prog 66 #[.map mb] W fun e w' => ∃ B, e = .returned (.func (.func 110) #[] #[.pointer (some ⟨B, 0, none⟩)]) ∧ St W [] [Ch.blk B 99 #[.map mb]] w' :=
 (ckeys_any mb W).mono fun e w' ⟨h1, h2⟩ => ⟨_, h1, h2 ▸ (St.start W).alloc _ _⟩
end Go.Proofs.YtneolmnpebiifaaGreatDoor
end
